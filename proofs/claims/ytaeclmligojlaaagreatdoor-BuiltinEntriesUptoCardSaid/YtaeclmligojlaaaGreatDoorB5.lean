/- builtin.valid of valid values, value.Text, builtin.list, builtin.texts: lists and strings as results. Conditions: sizes within the limits. | builtin.texts: a list of strings as a value. Conditions: sizes within the limits. | DERIVED: THE SHELF's CONTRACTS AT THIS DUMP, IN PLAIN WORDS (tools/lay-plain.mjs out of 'YtaeclmligojlaaaGreatDoorShelfT.lean', which tools/lay-shelf.mjs wrote): THE SAME DECLARATIONS UNDER THE SAME NAMES: 'import', 'namespace', 'open', 'def', 'theorem' AND NOTHING ELSE: no command of the shelf's: FOR A HAND-IN. Each laying: the table of numbers ('.._ren') and one theorem, a field a fact of the dump's own or the kernel's comparison; each contract: ONE APPLICATION. | builtin.split of a string at one that is not empty, Arith "/" and "+" of strings. Conditions: strings of at most 65536 bytes, valid UTF-8. | builtin.join of a list of strings, and Apply "join". Conditions: the joined string has at most 64000 bytes and is valid UTF-8; the list is not empty. | Apply "join" of a list of strings at a string. Conditions: as builtin.join. -/
import Derived.Test.YtaeclmligojlaaaGreatDoorB3
import Derived.Test.YtaeclmligojlaaaGreatDoorB1
import Derived.Shelf.Strings.OnBuilder
import Derived.Shelf.Strings.Search3
import Derived.Shelf.Strings.Split
import Derived.Test.YtaeclmligojlaaaGreatDoorProg
import Derived.Deep.RegionWith
import Derived.Deep.RegionHeld3
/- builtin.valid of valid values, value.Text, builtin.list, builtin.texts: lists and strings as results. Conditions: sizes within the limits. -/
namespace Go.Proofs.YtaeclmligojlaaaGreatDoor.D
open Go.RowKit

def tval (s : ByteArray) : Val := .mk 4 false zD zT s [] [] []
def tvc (s : ByteArray) : VC := ⟨4, false, false, ⟨#[]⟩, 0, 0, 0, 0, 0, s, none, 0, 0, none, 0, 0, none, 0, 0⟩
theorem tvc_reads (U : Nat → Prop) (w : World) (s : ByteArray) : VR U w (tvc s) (tval s) :=
  .mk _ _ (fun _ => default) (fun _ => default) rfl rfl rfl rfl rfl rfl rfl rfl rfl rfl (RowAt.nil ..) (RowAt.nil ..) (fun i h => absurd h (by simp [tval, Val.list])) (RowAt.nil ..) (fun i h => absurd h (by simp [tval, Val.fields]))
theorem tval_ok (s : ByteArray) (h : vld s.data.toList = true) (hs : s.size ≤ 65536) : OkV (tval s) := by
  refine ⟨_, ⟨⟨by simp [tval, Val.kind], by simp [tval, Val.kind], fun _ => rfl, fun _ => rfl, fun _ => rfl, fun h => absurd rfl h, fun _ => rfl, fun _ => rfl, fun _ => rfl⟩, fun h => absurd h (by simp [tval, Val.kind]), fun h => absurd h (by simp [tval, Val.kind]), h, hs, by simp [tval, Val.bytes], ⟨fun i h => absurd h (by simp [tval, Val.fields]), fun i j _ h => absurd h (by simp [tval, Val.fields])⟩⟩, fun i h => absurd h (by simp [tval, Val.list]), fun i h => absurd h (by simp [tval, Val.fields])⟩
def lval (l : List Val) : Val := .mk 6 false zD zT ⟨#[]⟩ [] l []
theorem lval_ok (l : List Val) (h : ∀ x ∈ l, OkV x) : OkV (lval l) := by
  refine ⟨_, ⟨⟨by simp [lval, Val.kind], by simp [lval, Val.kind], fun _ => rfl, fun _ => rfl, fun _ => rfl, fun _ => rfl, fun _ => rfl, fun h => absurd rfl h, fun _ => rfl⟩, fun h => absurd h (by simp [lval, Val.kind]), fun h => absurd h (by simp [lval, Val.kind]), rfl, Nat.zero_le _, by simp [lval, Val.bytes], ⟨fun i h => absurd h (by simp [lval, Val.fields]), fun i j _ h => absurd h (by simp [lval, Val.fields])⟩⟩, fun i hi => h _ (List.getElem_mem _), fun i h => absurd h (by simp [lval, Val.fields])⟩

theorem value_text (s : ByteArray) (w : World) : Calls Tryz.prog 17 #[.string s] w fun e w' => e = .returned (.agg (tvc s).arr) ∧ Below w.heap.size w w' := by
  unfold tvc VC.arr
  go_enter Tryz.func17, Tryz.ntmps17
  go_wp2
  exact bodyPost_ret (v := .agg #[.int .i64 4, .bool false, .bool false, .string ⟨#[]⟩, .int .i64 0, .int .i64 0, .int .i64 0, .int .i64 0, .int .i64 0, .string s, .slice none 0 0, .slice none 0 0, .slice none 0 0]) (by simp [results, Tryz.results17, go_sem]) rfl ⟨rfl, (Below.refl _ _).alloc (Nat.le_refl _) _⟩

theorem made_value (w : World) (o : Obj) {w1 : World} (hb : Below ((w.alloc o).alloc (.cells zV.cells 30)).heap.size ((w.alloc o).alloc (.cells zV.cells 30)) w1) :
    (∀ j, w1.cell? ⟨w.heap.size + 1, j, none⟩ = zV.cells[j]?) ∧ (∀ j, w1.frozen? ⟨w.heap.size + 1, j, none⟩ = false) ∧ w.heap.size + 1 < w1.heap.size ∧ Below w.heap.size w w1 := by
  have hs := hb.size
  simp only [World.size_alloc] at hs
  have hx : w1.heap[w.heap.size + 1]? = some (.cells zV.cells 30 (0, 0)) := by
    rw [hb.block _ (by simp only [World.size_alloc]; omega)]
    have h := heap_alloc_new (w.alloc o) (.cells zV.cells 30)
    simp only [World.size_alloc] at h
    exact h
  exact ⟨fun j => cell_of_row w1 _ j _ _ _ hx, fun j => frozen_of_row w1 _ j _ _ hx, by omega, (((Below.refl _ _).alloc (Nat.le_refl _) _).alloc (by simp) _).trans (hb.mono (by simp; omega))⟩

theorem made_value1 (w : World) {w1 : World} (hb : Below (w.alloc (.cells zV.cells 30)).heap.size (w.alloc (.cells zV.cells 30)) w1) :
    (∀ j, w1.cell? ⟨w.heap.size, j, none⟩ = zV.cells[j]?) ∧ (∀ j, w1.frozen? ⟨w.heap.size, j, none⟩ = false) ∧ w.heap.size < w1.heap.size ∧ Below w.heap.size w w1 := by
  have hs := hb.size
  simp only [World.size_alloc] at hs
  have hx : w1.heap[w.heap.size]? = some (.cells zV.cells 30 (0, 0)) := by
    rw [hb.block _ (by simp only [World.size_alloc]; omega)]
    exact heap_alloc_new w (.cells zV.cells 30)
  exact ⟨fun j => cell_of_row w1 _ j _ _ _ hx, fun j => frozen_of_row w1 _ j _ _ hx, by omega, ((Below.refl _ _).alloc (Nat.le_refl _) _).trans (hb.mono (by simp))⟩

set_option maxRecDepth 100000 in
set_option maxHeartbeats 1000000 in
theorem value_Copy (v : Val) (c : VC) (U : Nat → Prop) (w : World) (hw : v.weight ≤ 4294967296) (hd : v.deep ≤ 65536) (hv : VR U w c v) (hU : ∀ b, U b → b < w.heap.size) :
    Calls Tryz.prog 46 #[.agg c.arr] w fun e w' => ∃ c' : VC, e = .returned (.agg c'.arr) ∧ Below w.heap.size w w' ∧ VR U w' c' v := by
  have HP := hid (fun (w' : World) (g : Goes U U w w') (hu : ∀ b, U b → b < w'.heap.size) => copied_any v.deep v c (fun b => U b ∨ b = w.heap.size ∨ b = w.heap.size + 1) 65536 w' (Nat.le_refl _) hw (by omega) (by decide))
  have HV := hid hv
  have HU := hid hU
  clear hw hd hv hU
  unfold VC.arr at HP ⊢
  go_enter Tryz.func46, Tryz.ntmps46
  go_wp2_with fail
  refine (HP.out _ ⟨fun b hb _ => ?_, fun _ _ h => h⟩ (fun b hu => ?_) (HV.out.goes ⟨fun b hb _ => ?_, fun b hb h => ?_⟩) (fun b hb => ?_)).mono ?_
  · rw [Below.heap_alloc _ _ _ (by simp; omega), Below.heap_alloc _ _ _ hb]
  · have := HU.out b hu
    simp only [World.size_alloc]; omega
  · rw [Below.heap_alloc _ _ _ (by simp; omega), Below.heap_alloc _ _ _ hb]
  · rcases h with h | h | h
    · exact h
    · omega
    · omega
  · simp only [World.size_alloc]
    rcases hb with hb | hb | hb
    · have := HU.out b hb
      omega
    · omega
    · omega
  rintro e w1 ⟨c', rfl, hb, hv'⟩
  obtain ⟨hcy, hfy, hsz, hbel⟩ := made_value w _ hb
  have HB := hid hbel
  have HV' := hid hv'
  clear hb hv' hbel
  simp only [zV, Value.cells] at hcy
  go_wp2_with fail
  refine bodyPost_ret (v := .agg #[.int .i64 c'.kind, .bool c'.bool, .bool c'.neg, .string c'.digits, .int .i64 c'.exp, .int .i64 c'.tkind, .int .i64 c'.day, .int .i64 c'.nano, .int .i64 c'.offset, .string c'.text, .slice c'.ab c'.nb c'.cb, .slice c'.al c'.nl c'.cl, .slice c'.af c'.nf c'.cf]) (by simp [results, Tryz.results46, go_sem, hcy]) rfl ⟨c', rfl, ?_, ?_⟩
  · repeat (first | (with_reducible refine Below.setCell ?_ (by simp) _) | (with_reducible exact HB.out))
  · have hg : Goes (fun b => U b ∨ b = w.heap.size ∨ b = w.heap.size + 1) U w1 w1 := ⟨fun _ _ _ => rfl, fun _ _ h => .inl h⟩
    refine HV'.out.goes ?_
    repeat (first | (with_reducible refine Goes.setCell ?_ (by simp) _) | (with_reducible exact hg))

/-- What a function answers that hands back a value and OK. -/
def ValEnd (v : Val) (U : Nat → Prop) (w : World) (e : Ending) (w' : World) : Prop := ∃ c' : VC, e = .returned (.tuple #[.agg c'.arr, .int .i64 0]) ∧ Below w.heap.size w w' ∧ VR U w' c' v

set_option maxRecDepth 100000 in
set_option maxHeartbeats 1000000 in
theorem builtin_valid (v : Val) (c : VC) (U : Nat → Prop) (w : World) (hok : OkV v) (hd : v.deep ≤ 48) (hn : v.cnt ≤ 65536) (hw : v.weight ≤ 4294967296) (hv : VR U w c v) (hU : ∀ b, U b → b < w.heap.size) :
    Calls Tryz.prog 16 #[.agg c.arr, .int .i64 0] w (ValEnd v U w) := by
  have HC := hid (fun (w' : World) (g : Goes U U w w') (hu : ∀ b, U b → b < w'.heap.size) => Check_ok v c U w' hok hd hn (hv.goes g) hu)
  have HP := hid (fun (w' : World) => value_Copy v c (fun b => U b ∨ b = w.heap.size ∨ b = w.heap.size + 1) w' hw (by omega))
  have HV := hid hv
  have HU := hid hU
  clear hok hd hn hw hv hU
  unfold VC.arr at HC HP ⊢
  go_enter Tryz.func16, Tryz.ntmps16
  go_wp2_with fail
  refine (HC.out _ ⟨fun b hb _ => ?_, fun _ _ h => h⟩ (fun b hu => ?_)).mono ?_
  · rw [Below.heap_alloc _ _ _ (by simp; omega), Below.heap_alloc _ _ _ hb]
  · have := HU.out b hu
    simp only [World.size_alloc]; omega
  rintro e w1 ⟨rfl, hb1⟩
  obtain ⟨hcy, hfy, hsz, hbel⟩ := made_value w _ hb1
  have hx1 : w1.heap[w.heap.size]? = some (.cells #[.int .i64 c.kind, .bool c.bool, .bool c.neg, .string c.digits, .int .i64 c.exp, .int .i64 c.tkind, .int .i64 c.day, .int .i64 c.nano, .int .i64 c.offset, .string c.text, .slice c.ab c.nb c.cb, .slice c.al c.nl c.cl, .slice c.af c.nf c.cf] 30 (0, 0)) := by
    rw [hb1.block _ (by simp only [World.size_alloc]; omega)]; exact heap_alloc2_old ..
  have hcx : ∀ j, w1.cell? ⟨w.heap.size, j, none⟩ = (#[.int .i64 c.kind, .bool c.bool, .bool c.neg, .string c.digits, .int .i64 c.exp, .int .i64 c.tkind, .int .i64 c.day, .int .i64 c.nano, .int .i64 c.offset, .string c.text, .slice c.ab c.nb c.cb, .slice c.al c.nl c.cl, .slice c.af c.nf c.cf] : Array Value)[j]? := fun j => cell_of_row w1 w.heap.size j _ 30 (0, 0) hx1
  have HB1 := hid hbel
  have HY := hid hcy
  have HFY := hid hfy
  clear hb1 hbel hcy hfy hx1
  go_wp2_with fail
  refine (HP.out _ (HV.out.goes ⟨fun b hb _ => HB1.out.block b hb, fun b hb h => ?_⟩) (fun b hb => ?_)).mono ?_
  · rcases h with h | h | h
    · exact h
    · omega
    · omega
  · rcases hb with hb | hb | hb
    · have := HU.out b hb
      omega
    · omega
    · omega
  rintro e w2 ⟨c', rfl, hb2, hv'⟩
  have HB2 := hid hb2
  have HV' := hid hv'
  have hsz2 : w.heap.size + 1 < w2.heap.size := by have := hb2.size; omega
  have hcy : ∀ j, w2.cell? ⟨w.heap.size + 1, j, none⟩ = zV.cells[j]? := fun j => (hb2.cell (p := ⟨w.heap.size + 1, j, none⟩) hsz).trans (HY.out j)
  have hfy : ∀ j, w2.frozen? ⟨w.heap.size + 1, j, none⟩ = false := fun j => (hb2.frozen (p := ⟨w.heap.size + 1, j, none⟩) hsz).trans (HFY.out j)
  clear hb2 hv' hcx
  simp only [zV, Value.cells] at hcy
  go_wp2_with fail
  refine bodyPost_ret (v := .tuple #[.agg #[.int .i64 c'.kind, .bool c'.bool, .bool c'.neg, .string c'.digits, .int .i64 c'.exp, .int .i64 c'.tkind, .int .i64 c'.day, .int .i64 c'.nano, .int .i64 c'.offset, .string c'.text, .slice c'.ab c'.nb c'.cb, .slice c'.al c'.nl c'.cl, .slice c'.af c'.nf c'.cf], .int .i64 0]) (by simp [results, Tryz.results16, go_sem, hcy]) rfl ⟨c', rfl, ?_, ?_⟩
  · have hbb := HB1.out.trans (HB2.out.mono (by omega))
    repeat (first | (with_reducible refine Below.setCell ?_ (by simp) _) | (with_reducible exact hbb))
  · have hg : Goes (fun b => U b ∨ b = w.heap.size ∨ b = w.heap.size + 1) U w2 w2 := ⟨fun _ _ _ => rfl, fun _ _ h => .inl h⟩
    refine HV'.out.goes ?_
    repeat (first | (with_reducible refine Goes.setCell ?_ (by simp) _) | (with_reducible exact hg))

set_option maxRecDepth 100000 in
set_option maxHeartbeats 1000000 in
theorem builtin_list (l : List Val) (U : Nat → Prop) (A : Option Addr) (n cp : Nat) (els : Nat → VC) (w : World) (hok : ∀ x ∈ l, OkV x) (hd : Val.deepL l ≤ 47) (hn : Val.cntL l ≤ 65535) (hw : Val.weightL l ≤ 4294967295)
    (hr : RowAt U w A n l.length 13 (fun i => (els i).cell)) (hv : ∀ i (h : i < l.length), VR U w (els i) l[i]) (hU : ∀ b, U b → b < w.heap.size) :
    Calls Tryz.prog 60 #[.slice A n cp] w (ValEnd (lval l) U w) := by
  have hR : VR U w ⟨6, false, false, ⟨#[]⟩, 0, 0, 0, 0, 0, ⟨#[]⟩, none, 0, 0, A, n, cp, none, 0, 0⟩ (lval l) :=
    .mk _ _ els (fun _ => default) rfl rfl rfl rfl rfl rfl rfl rfl rfl rfl (RowAt.nil ..) hr hv (RowAt.nil ..) (fun i h => absurd h (by simp [lval, Val.fields]))
  have HC := hid (fun (w' : World) => builtin_valid (lval l) ⟨6, false, false, ⟨#[]⟩, 0, 0, 0, 0, 0, ⟨#[]⟩, none, 0, 0, A, n, cp, none, 0, 0⟩ (fun b => U b ∨ b = w.heap.size) w' (lval_ok l hok) (by simp only [Val.deep_eq, lval, Val.list, Val.fields, Val.deepF]; omega) (by simp only [Val.cnt_eq, lval, Val.list, Val.fields, Val.cntF]; omega) (by simp only [lval, Val.weight, Val.weightF, List.length_nil]; omega))
  have HV := hid hR
  have HU := hid hU
  clear hok hd hn hw hv hU hr hR
  unfold VC.arr at HC
  go_enter Tryz.func60, Tryz.ntmps60
  go_wp2_with fail
  refine (HC.out _ (HV.out.goes ⟨fun b hb _ => ?_, fun b hb h => ?_⟩) (fun b hb => ?_)).mono ?_
  · rw [Below.heap_alloc _ _ _ hb]
  · rcases h with h | h
    · exact h
    · omega
  · simp only [World.size_alloc]
    rcases hb with hb | hb
    · have := HU.out b hb
      omega
    · omega
  rintro e w1 ⟨c', rfl, hb1, hv'⟩
  obtain ⟨hcy, hfy, hsz, hbel⟩ := made_value1 w hb1
  have HB1 := hid hbel
  have HV' := hid hv'
  clear hb1 hv' hbel
  simp only [zV, Value.cells] at hcy
  unfold VC.arr
  go_wp2_with fail
  refine bodyPost_ret (v := .tuple #[.agg #[.int .i64 c'.kind, .bool c'.bool, .bool c'.neg, .string c'.digits, .int .i64 c'.exp, .int .i64 c'.tkind, .int .i64 c'.day, .int .i64 c'.nano, .int .i64 c'.offset, .string c'.text, .slice c'.ab c'.nb c'.cb, .slice c'.al c'.nl c'.cl, .slice c'.af c'.nf c'.cf], .int .i64 0]) (by simp [results, Tryz.results60, go_sem, hcy]) rfl ⟨c', rfl, ?_, ?_⟩
  · repeat (first | (with_reducible refine Below.setCell ?_ (by simp) _) | (with_reducible exact HB1.out))
  · have hg : Goes (fun b => U b ∨ b = w.heap.size) U w1 w1 := ⟨fun _ _ _ => rfl, fun _ _ h => .inl h⟩
    refine HV'.out.goes ?_
    repeat (first | (with_reducible refine Goes.setCell ?_ (by simp) _) | (with_reducible exact hg))
end Go.Proofs.YtaeclmligojlaaaGreatDoor.D

/- builtin.texts: a list of strings as a value. Conditions: sizes within the limits. -/
namespace Go.Proofs.YtaeclmligojlaaaGreatDoor.D
open Go.RowKit

theorem tval_cnt (xs : List ByteArray) : Val.cntL (xs.map tval) = xs.length := by
  induction xs with
  | nil => rfl
  | cons x xs ih => simp only [List.map_cons, Val.cntL, List.length_cons, ih]; simp [Val.cnt_eq, tval, Val.list, Val.fields, Val.cntL, Val.cntF]; omega
theorem tval_deep (xs : List ByteArray) : Val.deepL (xs.map tval) ≤ 1 := by
  induction xs with
  | nil => simp [Val.deepL]
  | cons x xs ih =>
    have e : (tval x).deep = 1 := by simp [Val.deep_eq, tval, Val.list, Val.fields, Val.deepL, Val.deepF]
    simp only [List.map_cons, Val.deepL, e]; omega
theorem tval_weight (xs : List ByteArray) : Val.weightL (xs.map tval) = xs.length := by
  induction xs with
  | nil => rfl
  | cons x xs ih => simp only [List.map_cons, Val.weightL, List.length_cons, ih]; simp [tval, Val.weight, Val.weightL, Val.weightF]; omega

set_option maxRecDepth 100000 in
set_option maxHeartbeats 2000000 in
theorem builtin_texts (xs : List ByteArray) (U : Nat → Prop) (A : Option Addr) (n cp : Nat) (w : World) (hok : ∀ x ∈ xs, vld x.data.toList = true ∧ x.size ≤ 65536) (hl : xs.length ≤ 65000)
    (hr : RowAt U w A n xs.length 1 (fun i _ => .string (xs.getD i default))) (hU : ∀ b, U b → b < w.heap.size) :
    Calls Tryz.prog 99 #[.slice A n cp] w (ValEnd (lval (xs.map tval)) U w) := by
  have HL := hid (fun (A' : Option Addr) (n' cp' : Nat) (w' : World) => builtin_list (xs.map tval) (fun b => U b ∨ b = w.heap.size) A' n' cp' (fun i => tvc (xs.getD i default)) w'
    (fun x hx => by obtain ⟨s, hs, rfl⟩ := List.mem_map.1 hx; exact tval_ok s (hok s hs).1 (hok s hs).2) (by have := tval_deep xs; omega) (by rw [tval_cnt]; omega) (by rw [tval_weight]; omega))
  have HR := hid hr
  have HU := hid hU
  have hn1 : n ≤ xs.length := Nat.le_of_eq hr.1
  have hn2 : xs.length ≤ n := Nat.le_of_eq hr.1.symm
  clear hok hr hU
  go_enter Tryz.func99, Tryz.ntmps99
  go_wp2_with fail
  go_loopw [4, 9] (fun lv iv wr => ∃ q : Nat, q ≤ n ∧ iv = .int .i64 q ∧ wr.ownsRow (w.heap.size + 1) 30 13 lv q ((xs.take q).flatMap (fun s => (tvc s).arr.toList)) ∧ Below w.heap.size w wr ∧ w.heap.size + 1 ≤ wr.heap.size ∧ wr.heap[w.heap.size]? = some (.cells zV.cells 30 (0, 0)))
    (fun _ iv _ => n - (intOf iv).toNat)
  case atStart => exact ⟨0, Nat.zero_le _, rfl, World.ownsRow_nil .., (Below.refl _ _).alloc (Nat.le_refl _) _, by simp, heap_alloc_new w _⟩
  case round =>
    obtain ⟨q, hq, rfl, hown, hbel, hsz, hbx⟩ := hrel
    have HO := hid hown
    have HBel := hid hbel
    have HX := hid hbx
    clear hown hbel hbx
    by_cases hlt : q < n
    · obtain ⟨b0, o0, hal, hb0, hu0, hcell⟩ := HR.out.2.2 (by omega)
      subst hal
      have hcq : wr.cell? ⟨b0, o0 + q, none⟩ = some (.string (xs[q]'(by omega))) := by
        rw [HBel.out.cell hb0]
        have := hcell q (by omega) 0 (by omega)
        simpa [List.getD_eq_getElem?_getD, show q < xs.length by omega] using this
      have HTK := hid (take_snoc' xs q (by omega))
      clear hcell
      generalize hve : xs[q]'(by omega) = ve at *
      clear hve
      go_wp2_with fail
      refine (value_text ve _).mono ?_
      rintro e w2 ⟨rfl, hb2⟩
      have hs2 := hb2.size
      have HB2 := hid hb2
      clear hb2
      unfold tvc VC.arr
      obtain ⟨i0, hi, hz0, hz1, hz2⟩ := info_parts info_Value
      have hown2 : w2.ownsRow (w.heap.size + 1) 30 13 u4 q ((xs.take q).flatMap (fun s => (tvc s).arr.toList)) := own_below HO.out HB2.out
      go_wp2_with (at_builtin; refine wpList_append_own_at _ rfl (.tmp 13) (.tmp 16) 22 rfl (w.heap.size + 1) 30 i0 zV 13 168 Tryz.underlying22 hi hz0 hz1 hz2 rfl (by decide) u4 q _ rfl (hown2.alloc _) ⟨w2.heap.size, 0, none⟩ 1 1 (tvc ve).arr.toList rfl ?c1 ?c2 ?c3 ?c4 ?c5 ?c6 ?_)
      case c1 => rfl
      case c2 => exact World.news_of_block (cs := (tvc ve).arr) (t := 30) (fr := (0, 0)) (heap_alloc_new w2 _)
      case c3 => simp [tvc, VC.arr, Value.oneCell']
      case c4 => unfold maxLen; omega
      case c5 => omega
      case c6 => simp; omega
      intro v3 w3 hown3 hg3 _ hat3
      have HO3 := hid hown3
      have HG3 := hid hg3
      have HA3 := hid hat3
      clear hown3 hg3 hat3 hown2
      go_wp2_with fail
      go_roundw
      case rel =>
        have hown5 := HO.out
        have hne : some w.heap.size ≠ u4.ownBlock := fun e => by have := (hown5.lt _ e.symm).1; omega
        refine ⟨q + 1, by omega, by go_num, by rw [HTK.out]; simpa [List.flatMap_append] using HO3.out, ((HBel.out.trans (HB2.out.mono (by omega))).alloc (by omega) _).grown HG3.out (by simp; omega) (fun k hk => by have := (hown5.lt k hk).1; omega), by have := HG3.out.size; simp at this; omega, ?_⟩
        rw [HG3.out.block _ (by simp; omega) hne, Below.heap_alloc _ _ _ (by omega), HB2.out.block _ (by omega)]
        exact HX.out
      case measure => simp [intOf]; omega
    · obtain rfl : q = n := by omega
      have hown5 := HO.out
      obtain ⟨A', c', hv4, hrow⟩ := own_row hown5
      subst hv4
      have hcy : ∀ j, wr.cell? ⟨w.heap.size, j, none⟩ = zV.cells[j]? := fun j => cell_of_row wr _ j _ _ _ HX.out
      have hfy : ∀ j, wr.frozen? ⟨w.heap.size, j, none⟩ = false := fun j => frozen_of_row wr _ j _ _ HX.out
      have HROW : Hid (RowAt (fun b => U b ∨ b = w.heap.size) wr A' q (xs.map tval).length 13 (fun i => (tvc (xs.getD i default)).cell)) := by
        have h := hrow (fun b => U b ∨ b = w.heap.size) (fun k hk hu => by
          have := (hown5.lt k hk).1
          rcases hu with hu | hu
          · have := HU.out k hu
            omega
          · omega)
        have e : q = (xs.map tval).length := by simp; omega
        refine hid ?_
        rw [← e]
        refine h.congr fun i hi j hj => ?_
        rw [List.take_of_length_le (by omega), flat_getD (fun s => (tvc s).arr.toList) 13 (fun s => VC.arr_length _) xs i (by omega) j hj, VC.cell_eq]
      clear hrow hown5 HO
      simp only [zV, Value.cells] at hcy
      have HCY := hid hcy
      clear hcy
      go_wp2_with fail
      refine (HL.out A' q c' wr HROW.out (fun i h => ?_) (fun b hb => ?_)).mono ?_
      · have h' : i < xs.length := by simpa using h
        have e1 : (xs.map tval)[i] = tval (xs.getD i default) := by simp [List.getD_eq_getElem?_getD, h']
        rw [e1]
        exact tvc_reads ..
      · rcases hb with hb | hb
        · have := HU.out b hb
          omega
        · omega
      rintro e w1 ⟨c1, rfl, hb1, hv'⟩
      have HB1 := hid hb1
      have HV' := hid hv'
      have hcy : ∀ j, w1.cell? ⟨w.heap.size, j, none⟩ = zV.cells[j]? := fun j => (hb1.cell (p := ⟨w.heap.size, j, none⟩) (show w.heap.size < wr.heap.size by omega)).trans (HCY.out j)
      have hfz : ∀ j, w1.frozen? ⟨w.heap.size, j, none⟩ = false := fun j => (hb1.frozen (p := ⟨w.heap.size, j, none⟩) (show w.heap.size < wr.heap.size by omega)).trans (hfy j)
      clear hb1 hv' hfy
      simp only [zV, Value.cells] at hcy
      unfold VC.arr
      go_wp2_with fail
      refine bodyPost_ret (v := .tuple #[.agg #[.int .i64 c1.kind, .bool c1.bool, .bool c1.neg, .string c1.digits, .int .i64 c1.exp, .int .i64 c1.tkind, .int .i64 c1.day, .int .i64 c1.nano, .int .i64 c1.offset, .string c1.text, .slice c1.ab c1.nb c1.cb, .slice c1.al c1.nl c1.cl, .slice c1.af c1.nf c1.cf], .int .i64 0]) (by simp [results, Tryz.results99, go_sem, hcy]) rfl ⟨c1, rfl, ?_, ?_⟩
      · have hbb := HBel.out.trans (HB1.out.mono (by omega))
        repeat (first | (with_reducible refine Below.setCell ?_ (by simp) _) | (with_reducible exact hbb))
      · have hg : Goes (fun b => U b ∨ b = w.heap.size) U w1 w1 := ⟨fun _ _ _ => rfl, fun _ _ h => .inl h⟩
        refine HV'.out.goes ?_
        repeat (first | (with_reducible refine Goes.setCell ?_ (by simp) _) | (with_reducible exact hg))
end Go.Proofs.YtaeclmligojlaaaGreatDoor.D

/- DERIVED: THE SHELF's CONTRACTS AT THIS DUMP, IN PLAIN WORDS (tools/lay-plain.mjs out of 'YtaeclmligojlaaaGreatDoorShelfT.lean', which tools/lay-shelf.mjs wrote): THE SAME DECLARATIONS UNDER THE SAME NAMES: 'import', 'namespace', 'open', 'def', 'theorem' AND NOTHING ELSE: no command of the shelf's: FOR A HAND-IN. Each laying: the table of numbers ('.._ren') and one theorem, a field a fact of the dump's own or the kernel's comparison; each contract: ONE APPLICATION. -/
namespace Go.Proofs
open Go.Shelf
def Tryz.lays156_ren : Go.Shelf.Ren := ⟨fun | 156 => 65 | 165 => 131 | 166 => 132 | 169 => 133 | 240 => 193 | 241 => 194 | 276 => 255 | 277 => 256 | n => n, fun | 31 => 72 | 9 => 9 | 3 => 3 | 4 => 4 | 0 => 0 | 20 => 20 | 72 => 148 | 76 => 152 | 70 => 146 | 37 => 27 | 75 => 151 | 127 => 213 | 164 => 252 | 5 => 5 | 80 => 154 | n => n, fun | n => n⟩
theorem Tryz.lays156 : Go.Proofs.Lays.n156 Tryz.prog Tryz.lays156_ren := {
  mixed := by kernel_rfl
  f156 := Tryz.func65.trans (congrArg some (by kernel_rfl))
  f165 := Tryz.func131.trans (congrArg some (by kernel_rfl))
  f166 := Tryz.func132.trans (congrArg some (by kernel_rfl))
  f169 := Tryz.func133.trans (congrArg some (by kernel_rfl))
  f240 := Tryz.func193.trans (congrArg some (by kernel_rfl))
  f241 := Tryz.func194.trans (congrArg some (by kernel_rfl))
  f276 := Tryz.func255.trans (congrArg some (by kernel_rfl))
  f277 := Tryz.func256.trans (congrArg some (by kernel_rfl))
  t0 := Tryz.underlying0
  a0 := Tryz.isAgg0
  z0 := Tryz.sizeOf0
  v0 := Tryz.zeroValue0
  t3 := Tryz.underlying3
  a3 := Tryz.isAgg3
  z3 := Tryz.sizeOf3
  v3 := Tryz.zeroValue3
  t4 := Tryz.underlying4
  a4 := Tryz.isAgg4
  z4 := Tryz.sizeOf4
  v4 := Tryz.zeroValue4
  t9 := Tryz.underlying9
  a9 := Tryz.isAgg9
  z9 := Tryz.sizeOf9
  v9 := Tryz.zeroValue9
  t20 := Tryz.underlying20
  a20 := Tryz.isAgg20
  z20 := Tryz.sizeOf20
  v20 := Tryz.zeroValue20
  t31 := Tryz.underlying72
  a31 := Tryz.isAgg72
  z31 := Tryz.sizeOf72
  v31 := Tryz.zeroValue72
  t37 := Tryz.underlying27
  a37 := Tryz.isAgg27
  z37 := Tryz.sizeOf27
  v37 := Tryz.zeroValue27
  t70 := Tryz.underlying146
  a70 := Tryz.isAgg146
  z70 := Tryz.sizeOf146
  v70 := Tryz.zeroValue146
  t72 := Tryz.underlying148
  a72 := Tryz.isAgg148
  z72 := Tryz.sizeOf148
  v72 := Tryz.zeroValue148
  t75 := Tryz.underlying151
  a75 := Tryz.isAgg151
  z75 := Tryz.sizeOf151
  v75 := Tryz.zeroValue151
  t76 := Tryz.underlying152
  a76 := Tryz.isAgg152
  z76 := Tryz.sizeOf152
  v76 := Tryz.zeroValue152
  t127 := Tryz.underlying213
  a127 := Tryz.isAgg213
  z127 := Tryz.sizeOf213
  v127 := Tryz.zeroValue213
  t164 := Tryz.underlying252
  a164 := Tryz.isAgg252
  z164 := Tryz.sizeOf252
  v164 := Tryz.zeroValue252 }
theorem Tryz.Builder_Extra_156 : Builder.Extra Tryz.prog Tryz.lays156_ren := {
  sizeBuilder := by kernel_rfl
  liesBuilder := by kernel_rfl
  t5 := Tryz.underlying5
  a5 := Tryz.isAgg5
  z5 := Tryz.sizeOf5
  v5 := Tryz.zeroValue5
  infoByte := by kernel_rfl
  cellsByte := by kernel_rfl
  sizeByte := by kernel_rfl
  neB5 := by decide }
open Go.RowKit in
/-- No element: the empty string; the world is as it was. (Whatever the slice's address and capacity: a nil slice too.) (LAID: no walk: one application.) -/
theorem Tryz.strings_Join_none (a : Option Addr) (c : Nat) (sep : ByteArray) (w : World) :
    Calls Tryz.prog 65 #[.slice a 0 c, .string sep] w fun e w' => e = .returned (.string ⟨#[]⟩) ∧ w' = w := Any.strings_Join_none Tryz.lays156 Tryz.Builder_Extra_156 a c sep w
open Go.RowKit in
/-- strings.Join: "Join concatenates the elements of its first argument to create a single string. The separator string sep is placed between elements in the resulting string.": HOWEVER MANY ELEMENTS. Below the heap's end the world is as it was. (LAID: no walk: one application.) -/
theorem Tryz.strings_Join (bk o c : Nat) (xs : List ByteArray) (sep : ByteArray) (w : World) (hcells : ∀ (j : Nat) x, xs[j]? = some x → w.cell? ⟨bk, o + j, none⟩ = some (.string x)) (hbk : bk < w.heap.size) (hN : xs.length ≤ 140737488355328) (hcap : xs.length ≤ c) (hlen : (Lib.join (xs.map (·.data.toList)) sep.data.toList).length ≤ 140737488355328) :
    Calls Tryz.prog 65 #[.slice (some ⟨bk, o, none⟩) xs.length c, .string sep] w fun e w' => e = .returned (.string ⟨(Lib.join (xs.map (·.data.toList)) sep.data.toList).toArray⟩) ∧ Below w.heap.size w w' := Any.strings_Join Tryz.lays156 Tryz.Builder_Extra_156 bk o c xs sep w hcells hbk hN hcap hlen
def Tryz.lays144_ren : Go.Shelf.Ren := ⟨fun | 144 => 34 | 143 => 96 | 219 => 159 | 217 => 227 | 225 => 228 | 224 => 229 | 267 => 230 | 266 => 273 | 314 => 274 | n => n, fun | 9 => 9 | 4 => 4 | 3 => 3 | 5 => 5 | 46 => 168 | 146 => 232 | 51 => 231 | n => n, fun | 1 => 1 | n => n⟩
theorem Tryz.lays144 : Go.Proofs.Lays.n144 Tryz.prog Tryz.lays144_ren := {
  mixed := by kernel_rfl
  f143 := Tryz.func96.trans (congrArg some (by kernel_rfl))
  f144 := Tryz.func34.trans (congrArg some (by kernel_rfl))
  f217 := Tryz.func227.trans (congrArg some (by kernel_rfl))
  f219 := Tryz.func159.trans (congrArg some (by kernel_rfl))
  f224 := Tryz.func229.trans (congrArg some (by kernel_rfl))
  f225 := Tryz.func228.trans (congrArg some (by kernel_rfl))
  f266 := Tryz.func273.trans (congrArg some (by kernel_rfl))
  f267 := Tryz.func230.trans (congrArg some (by kernel_rfl))
  f314 := Tryz.func274.trans (congrArg some (by kernel_rfl))
  t3 := Tryz.underlying3
  a3 := Tryz.isAgg3
  z3 := Tryz.sizeOf3
  v3 := Tryz.zeroValue3
  t4 := Tryz.underlying4
  a4 := Tryz.isAgg4
  z4 := Tryz.sizeOf4
  v4 := Tryz.zeroValue4
  t5 := Tryz.underlying5
  a5 := Tryz.isAgg5
  z5 := Tryz.sizeOf5
  v5 := Tryz.zeroValue5
  t9 := Tryz.underlying9
  a9 := Tryz.isAgg9
  z9 := Tryz.sizeOf9
  v9 := Tryz.zeroValue9
  t46 := Tryz.underlying168
  a46 := Tryz.isAgg168
  z46 := Tryz.sizeOf168
  v46 := Tryz.zeroValue168
  t51 := Tryz.underlying231
  a51 := Tryz.isAgg231
  z51 := Tryz.sizeOf231
  v51 := Tryz.zeroValue231
  t146 := Tryz.underlying232
  a146 := Tryz.isAgg232
  z146 := Tryz.sizeOf232
  v146 := Tryz.zeroValue232
  g1 := by kernel_rfl }
open Go.RowKit Go.Lib in
/-- strings.Contains: "Contains reports whether substr is within s.": AT A substr OF ONE BYTE c: IT RETURNS 'decide (0 ≤ Lib.indexByte s c)'; the world is as it was. (LAID: no walk: one application.) -/
theorem Tryz.strings_Contains_one (s : ByteArray) (c : UInt8) (w : World) :
    Calls Tryz.prog 34 #[.string s, .string ⟨#[c]⟩] w fun e w' => e = .returned (.bool (decide (0 ≤ Lib.indexByte s.data.toList c))) ∧ w' = w := Any.strings_Contains_one Tryz.lays144 s c w
open Go.RowKit Go.Lib in
/-- strings.Contains: "Contains reports whether substr is within s.": IT RETURNS 'Lib.contains s substr'; the world is as it was. (LAID: no walk: one application.) -/
theorem Tryz.strings_Contains (s sub : ByteArray) (m : Int) (w : World) (hs : s.size < 4294967281) (hm : w.cell? ⟨1, 0, none⟩ = some (.int .i64 m)) :
    Calls Tryz.prog 34 #[.string s, .string sub] w fun e w' => e = .returned (.bool (Lib.contains s.data.toList sub.data.toList)) ∧ w' = w := Any.strings_Contains Tryz.lays144 s sub m w hs hm
def Tryz.lays146_ren : Go.Shelf.Ren := ⟨fun | 146 => 100 | 221 => 161 | 268 => 231 | 138 => 232 | 143 => 96 | 195 => 275 | 197 => 130 | 218 => 276 | 219 => 159 | 260 => 192 | 217 => 227 | 225 => 228 | 224 => 229 | 267 => 230 | 266 => 273 | 314 => 274 | n => n, fun | 9 => 9 | 31 => 72 | 3 => 3 | 4 => 4 | 0 => 0 | 105 => 144 | 21 => 21 | 5 => 5 | 46 => 168 | 119 => 188 | 139 => 251 | 138 => 250 | 146 => 232 | 51 => 231 | n => n, fun | 1 => 1 | 3 => 3 | 4 => 4 | n => n⟩
theorem Tryz.lays146 : Go.Proofs.Lays.n146 Tryz.prog Tryz.lays146_ren := {
  mixed := by kernel_rfl
  f138 := Tryz.func232.trans (congrArg some (by kernel_rfl))
  f143 := Tryz.func96.trans (congrArg some (by kernel_rfl))
  f146 := Tryz.func100.trans (congrArg some (by kernel_rfl))
  f195 := Tryz.func275.trans (congrArg some (by kernel_rfl))
  f197 := Tryz.func130.trans (congrArg some (by kernel_rfl))
  f217 := Tryz.func227.trans (congrArg some (by kernel_rfl))
  f218 := Tryz.func276.trans (congrArg some (by kernel_rfl))
  f219 := Tryz.func159.trans (congrArg some (by kernel_rfl))
  f221 := Tryz.func161.trans (congrArg some (by kernel_rfl))
  f224 := Tryz.func229.trans (congrArg some (by kernel_rfl))
  f225 := Tryz.func228.trans (congrArg some (by kernel_rfl))
  f260 := Tryz.func192.trans (congrArg some (by kernel_rfl))
  f266 := Tryz.func273.trans (congrArg some (by kernel_rfl))
  f267 := Tryz.func230.trans (congrArg some (by kernel_rfl))
  f268 := Tryz.func231.trans (congrArg some (by kernel_rfl))
  f314 := Tryz.func274.trans (congrArg some (by kernel_rfl))
  t0 := Tryz.underlying0
  a0 := Tryz.isAgg0
  z0 := Tryz.sizeOf0
  v0 := Tryz.zeroValue0
  t3 := Tryz.underlying3
  a3 := Tryz.isAgg3
  z3 := Tryz.sizeOf3
  v3 := Tryz.zeroValue3
  t4 := Tryz.underlying4
  a4 := Tryz.isAgg4
  z4 := Tryz.sizeOf4
  v4 := Tryz.zeroValue4
  t5 := Tryz.underlying5
  a5 := Tryz.isAgg5
  z5 := Tryz.sizeOf5
  v5 := Tryz.zeroValue5
  t9 := Tryz.underlying9
  a9 := Tryz.isAgg9
  z9 := Tryz.sizeOf9
  v9 := Tryz.zeroValue9
  t21 := Tryz.underlying21
  a21 := Tryz.isAgg21
  z21 := Tryz.sizeOf21
  v21 := Tryz.zeroValue21
  t31 := Tryz.underlying72
  a31 := Tryz.isAgg72
  z31 := Tryz.sizeOf72
  v31 := Tryz.zeroValue72
  t46 := Tryz.underlying168
  a46 := Tryz.isAgg168
  z46 := Tryz.sizeOf168
  v46 := Tryz.zeroValue168
  t51 := Tryz.underlying231
  a51 := Tryz.isAgg231
  z51 := Tryz.sizeOf231
  v51 := Tryz.zeroValue231
  t105 := Tryz.underlying144
  a105 := Tryz.isAgg144
  z105 := Tryz.sizeOf144
  v105 := Tryz.zeroValue144
  t119 := Tryz.underlying188
  a119 := Tryz.isAgg188
  z119 := Tryz.sizeOf188
  t138 := Tryz.underlying250
  a138 := Tryz.isAgg250
  z138 := Tryz.sizeOf250
  v138 := Tryz.zeroValue250
  t139 := Tryz.underlying251
  a139 := Tryz.isAgg251
  z139 := Tryz.sizeOf251
  v139 := Tryz.zeroValue251
  t146 := Tryz.underlying232
  a146 := Tryz.isAgg232
  z146 := Tryz.sizeOf232
  v146 := Tryz.zeroValue232
  g1 := by kernel_rfl
  g3 := by kernel_rfl
  g4 := by kernel_rfl }
open Go.RowKit Go.Lib in
/-- strings.Split. (LAID: no walk: one application.) -/
theorem Tryz.strings_Split (s sep : ByteArray) (m : Int) (w : World) (hs : s.size < 4294967281) (hm : w.cell? ⟨1, 0, none⟩ = some (.int .i64 m)) (h1 : 1 ≤ sep.size) :
    Calls Tryz.prog 100 #[.string s, .string sep] w fun e w' =>
      e = .returned (.slice (some ⟨w.heap.size, 0, none⟩) (Lib.countB s sep + 1) (Lib.countB s sep + 1)) ∧ w' = w.alloc (.cells ((Lib.splitB sep 0 (Lib.countB s sep) s).map Value.string).toArray 9) := Any.strings_Split Tryz.lays146 (by kernel_rfl) s sep m w hs hm h1
end Go.Proofs

/- builtin.split of a string at one that is not empty, Arith "/" and "+" of strings. Conditions: strings of at most 65536 bytes, valid UTF-8. -/
namespace Go.Proofs.YtaeclmligojlaaaGreatDoor.D
open Go.RowKit

def partsOf (a b : ByteArray) : List ByteArray := Lib.splitB b 0 (Lib.countB a b) a
theorem partsOf_data (a b : ByteArray) : (partsOf a b).map (·.data.toList) = Lib.splitK b.data.toList 0 (Lib.countB a b) a.data.toList := Lib.splitB_data b 0 _ a
theorem partsOf_ok (a b : ByteArray) (ha : vld a.data.toList = true) (hb : vld b.data.toList = true) (hs : a.size ≤ 65000) (h0 : 1 ≤ b.size) : (∀ x ∈ partsOf a b, vld x.data.toList = true ∧ x.size ≤ 65536) := by
  intro x hx
  have hm : x.data.toList ∈ Lib.splitK b.data.toList 0 (Lib.countB a b) a.data.toList := by
    rw [← partsOf_data]; exact List.mem_map_of_mem hx
  have hne : b.data.toList ≠ [] := by
    intro h
    have : b.size = 0 := by rw [Lib.size_eq, h]; rfl
    omega
  refine ⟨split_vld _ hne hb _ _ ha _ hm, ?_⟩
  have := split_len _ _ _ _ hm
  rw [← Lib.size_eq, ← Lib.size_eq] at this
  omega
theorem partsOf_join (a b : ByteArray) : Lib.join ((partsOf a b).map (·.data.toList)) b.data.toList = a.data.toList := by
  rw [partsOf_data]; exact split_join ..
theorem partsOf_len (a b : ByteArray) (h0 : 1 ≤ b.size) : (partsOf a b).length = Lib.countB a b + 1 ∧ (partsOf a b).length ≤ a.size + 1 := by
  have h := Lib.splitB_all b h0 0 _ a rfl
  have h2 := Lib.countB_le b h0 _ a (Nat.le_refl _)
  unfold partsOf
  omega

set_option maxRecDepth 100000 in
set_option maxHeartbeats 1000000 in
theorem builtin_split (a b : ByteArray) (m : Int) (U : Nat → Prop) (w : World) (ha : vld a.data.toList = true) (hb : vld b.data.toList = true) (hs : a.size ≤ 64000) (h0 : 1 ≤ b.size) (hm : w.cell? ⟨1, 0, none⟩ = some (.int .i64 m)) (hU : ∀ b, U b → b < w.heap.size) :
    Calls Tryz.prog 37 #[.string a, .string b] w (ValEnd (lval ((partsOf a b).map tval)) U w) := by
  have hlen := partsOf_len a b h0
  have HT := hid (fun (A : Option Addr) (n cp : Nat) (w' : World) => builtin_texts (partsOf a b) (fun b => U b ∨ b = w.heap.size) A n cp w' (partsOf_ok a b ha hb (by omega) h0) (by omega))
  have HS := hid (fun (w' : World) (hw : w'.cell? ⟨1, 0, none⟩ = some (.int .i64 m)) => Tryz.strings_Split a b m w' (by omega) hw h0)
  have HU := hid hU
  have HM := hid hm
  have HLEN := hid hlen
  have hglt := World.block_lt_of_cell? w _ hm
  have hbe : b.toList.isEmpty = false := (not_empty b (by omega)).1
  have hbe2 : (b.toList = []) = False := (not_empty b (by omega)).2
  have hsa := hs
  clear ha hb hs h0 hm hU hlen
  go_enter Tryz.func37, Tryz.ntmps37
  go_wp2_with fail
  refine (HS.out _ ?_).mono ?_
  · rw [World.cell?_of_block (w := w) (Below.heap_alloc _ _ _ hglt)]; exact HM.out
  rintro e w1 ⟨rfl, rfl⟩
  go_wp2_with fail
  have hnew : ((w.alloc (.cells zV.cells 30)).alloc (.cells ((Lib.splitB b 0 (Lib.countB a b) a).map Value.string).toArray 9)).heap[w.heap.size + 1]? = some (.cells ((partsOf a b).map Value.string).toArray 9 (0, 0)) := heap_alloc2_new ..
  have HNEW := hid hnew
  clear hnew
  refine (HT.out _ _ _ _ ⟨HLEN.out.1.symm, ?_, fun _ => ⟨w.heap.size + 1, 0, rfl, ?_, ?_, fun i hi j hj => ?_⟩⟩ (fun b' hb' => ?_)).mono ?_
  · have := HLEN.out.2
    omega
  · simp only [World.size_alloc]; omega
  · intro h
    rcases h with h | h
    · have := HU.out _ h
      omega
    · omega
  · obtain rfl : j = 0 := by omega
    refine (cell_of_row _ (w.heap.size + 1) (0 + i * 1 + 0) _ 9 (0, 0) HNEW.out).trans ?_
    simp [List.getD_eq_getElem?_getD, hi]
  · simp only [World.size_alloc]
    rcases hb' with h | h
    · have := HU.out _ h
      omega
    · omega
  rintro e w1 ⟨c', rfl, hb1, hv'⟩
  have hb2 : Below (w.alloc (.cells zV.cells 30)).heap.size (w.alloc (.cells zV.cells 30)) w1 := ((Below.refl _ _).alloc (Nat.le_refl _) _).trans (hb1.mono (by simp))
  obtain ⟨hcy, hfy, hsz, hbel⟩ := made_value1 w hb2
  have HB1 := hid hbel
  have HV' := hid hv'
  clear hb1 hb2 hv' hbel
  simp only [zV, Value.cells] at hcy
  unfold VC.arr
  go_wp2_with fail
  refine bodyPost_ret (v := .tuple #[.agg #[.int .i64 c'.kind, .bool c'.bool, .bool c'.neg, .string c'.digits, .int .i64 c'.exp, .int .i64 c'.tkind, .int .i64 c'.day, .int .i64 c'.nano, .int .i64 c'.offset, .string c'.text, .slice c'.ab c'.nb c'.cb, .slice c'.al c'.nl c'.cl, .slice c'.af c'.nf c'.cf], .int .i64 0]) (by simp [results, Tryz.results37, go_sem, hcy]) rfl ⟨c', rfl, ?_, ?_⟩
  · repeat (first | (with_reducible refine Below.setCell ?_ (by simp) _) | (with_reducible exact HB1.out))
  · have hg : Goes (fun b => U b ∨ b = w.heap.size) U w1 w1 := ⟨fun _ _ _ => rfl, fun _ _ h => .inl h⟩
    refine HV'.out.goes ?_
    repeat (first | (with_reducible refine Goes.setCell ?_ (by simp) _) | (with_reducible exact hg))

theorem made_value_at (W : World) (n : Nat) {w1 : World} (hn : W.heap.size = n) (hb : Below (W.alloc (.cells zV.cells 30)).heap.size (W.alloc (.cells zV.cells 30)) w1) :
    (∀ j, w1.cell? ⟨n, j, none⟩ = zV.cells[j]?) ∧ (∀ j, w1.frozen? ⟨n, j, none⟩ = false) ∧ n < w1.heap.size ∧ Below n W w1 := by
  subst hn
  exact made_value1 W hb
/-- The cells of a string's value that was read. -/
theorem text_cells {U : Nat → Prop} {w : World} {c : VC} {s : ByteArray} (h : VR U w c (tval s)) : c.kind = 4 ∧ c.text = s ∧ c.nl = 0 ∧ c.nf = 0 ∧ c.nb = 0 := by
  obtain ⟨_, _, lc, fc, hk, _, _, _, _, _, _, _, _, htx, hb, hl, _, hf, _⟩ := h
  exact ⟨hk, htx, hl.1, hf.1, hb.1⟩

set_option maxRecDepth 100000 in
set_option maxHeartbeats 2000000 in
theorem arith_div (a b : ByteArray) (c1 c2 : VC) (m : Int) (U : Nat → Prop) (w : World) (ha : vld a.data.toList = true) (hb : vld b.data.toList = true) (hs : a.size ≤ 64000) (h0 : 1 ≤ b.size) (hm : w.cell? ⟨1, 0, none⟩ = some (.int .i64 m)) (hU : ∀ b, U b → b < w.heap.size)
    (hk1 : c1.kind = 4 ∧ c1.text = a) (hk2 : c2.kind = 4 ∧ c2.text = b) :
    Calls Tryz.prog 12 #[.string ⟨#[47]⟩, .agg c1.arr, .agg c2.arr] w (ValEnd (lval ((partsOf a b).map tval)) U w) := by
  have hglt := World.block_lt_of_cell? w _ hm
  have HM := hid hm
  have HS := hid (fun (w' : World) (hw : w'.cell? ⟨1, 0, none⟩ = some (.int .i64 m)) => builtin_split a b m (fun b => U b ∨ b = w.heap.size ∨ b = w.heap.size + 1 ∨ b = w.heap.size + 2) w' ha hb hs h0 hw)
  have HU := hid hU
  obtain ⟨k1, b1, n1, d1, e1, tk1, td1, tn1, to1, x1, ab1, nb1, cb1, al1, nl1, cl1, af1, nf1, cf1⟩ := c1
  obtain ⟨k2, b2, n2, d2, e2, tk2, td2, tn2, to2, x2, ab2, nb2, cb2, al2, nl2, cl2, af2, nf2, cf2⟩ := c2
  obtain ⟨rfl, rfl⟩ := hk1
  obtain ⟨rfl, rfl⟩ := hk2
  have HC : Hid (∀ w : World, Calls Tryz.prog 34 #[.string ⟨#[43, 45, 42, 47, 37]⟩, .string ⟨#[47]⟩] w fun e w' => e = .returned (.bool true) ∧ w' = w) := hid (fun w => Tryz.strings_Contains_one ⟨#[43, 45, 42, 47, 37]⟩ 47 w)
  clear ha hb hs h0 hm hU
  unfold VC.arr
  go_enter Tryz.func12, Tryz.ntmps12
  go_wp2_with fail
  refine (HC.out _).mono ?_
  rintro e w1 ⟨rfl, rfl⟩
  go_wp2_with fail
  refine (HS.out _ ?_ (fun b' hb' => ?_)).mono ?_
  · rw [World.cell?_of_block (w := w) ((Below.heap_alloc _ _ _ (by simp only [World.size_alloc]; omega)).trans ((Below.heap_alloc _ _ _ (by simp only [World.size_alloc]; omega)).trans (Below.heap_alloc _ _ _ hglt)))]; exact HM.out
  · simp only [World.size_alloc]
    rcases hb' with h | h | h | h
    · have := HU.out _ h
      omega
    · omega
    · omega
    · omega
  rintro e w1 ⟨c', rfl, hb1, hv'⟩
  obtain ⟨hcy, hfy, hsz, hbel⟩ := made_value_at _ (w.heap.size + 2) (by simp only [World.size_alloc]) hb1
  have HB1 : Hid (Below w.heap.size w w1) := hid ((((Below.refl _ _).alloc (Nat.le_refl _) _).alloc (by simp) _).trans (hbel.mono (by simp)))
  have HV' := hid hv'
  clear hb1 hv' hbel
  simp only [zV, Value.cells] at hcy
  unfold VC.arr
  go_wp2_with fail
  refine bodyPost_ret (v := .tuple #[.agg #[.int .i64 c'.kind, .bool c'.bool, .bool c'.neg, .string c'.digits, .int .i64 c'.exp, .int .i64 c'.tkind, .int .i64 c'.day, .int .i64 c'.nano, .int .i64 c'.offset, .string c'.text, .slice c'.ab c'.nb c'.cb, .slice c'.al c'.nl c'.cl, .slice c'.af c'.nf c'.cf], .int .i64 0]) (by simp [results, Tryz.results12, go_sem, hcy]) rfl ⟨c', rfl, ?_, ?_⟩
  · repeat (first | (with_reducible refine Below.setCell ?_ (by simp only []; omega) _) | (with_reducible exact HB1.out))
  · have hg : Goes (fun b => U b ∨ b = w.heap.size ∨ b = w.heap.size + 1 ∨ b = w.heap.size + 2) U w1 w1 := ⟨fun _ _ _ => rfl, fun _ _ h => .inl h⟩
    refine HV'.out.goes ?_
    repeat (first | (with_reducible refine Goes.setCell ?_ (by simp) _) | (with_reducible exact hg))

set_option maxRecDepth 100000 in
set_option maxHeartbeats 2000000 in
theorem builtin_plus (a b : ByteArray) (c1 c2 : VC) (U : Nat → Prop) (w : World) (ha : vld a.data.toList = true) (hb : vld b.data.toList = true) (hs : a.size + b.size ≤ 64000) (hU : ∀ b, U b → b < w.heap.size)
    (hk1 : c1.kind = 4 ∧ c1.text = a) (hk2 : c2.kind = 4 ∧ c2.text = b) :
    Calls Tryz.prog 35 #[.agg c1.arr, .agg c2.arr] w (ValEnd (tval (a ++ b)) U w) := by
  have hab : vld (a ++ b).data.toList = true := by
    have := vld_and _ _ ha hb
    simpa [ByteArray.toList_data_append] using this
  have hsz : (a ++ b).size ≤ 65536 := by simp; omega
  have HS := hid (fun (w' : World) => builtin_valid (tval (a ++ b)) (tvc (a ++ b)) (fun b => U b ∨ b = w.heap.size ∨ b = w.heap.size + 1 ∨ b = w.heap.size + 2) w' (tval_ok _ hab hsz) (by simp [Val.deep_eq, tval, Val.list, Val.fields, Val.deepL, Val.deepF]) (by simp [Val.cnt_eq, tval, Val.list, Val.fields, Val.cntL, Val.cntF]) (by simp [tval, Val.weight, Val.weightL, Val.weightF]) (tvc_reads _ _ _))
  have HU := hid hU
  obtain ⟨k1, b1, n1, d1, e1, tk1, td1, tn1, to1, x1, ab1, nb1, cb1, al1, nl1, cl1, af1, nf1, cf1⟩ := c1
  obtain ⟨k2, b2, n2, d2, e2, tk2, td2, tn2, to2, x2, ab2, nb2, cb2, al2, nl2, cl2, af2, nf2, cf2⟩ := c2
  obtain ⟨rfl, rfl⟩ := hk1
  obtain ⟨rfl, rfl⟩ := hk2
  have hadd : ¬ 9223372036854775807 < x1.size + x2.size := by have h : x1.size + x2.size ≤ 64000 := hs; omega
  clear ha hb hab hU hsz hs
  unfold VC.arr
  go_enter Tryz.func35, Tryz.ntmps35
  go_wp2_with fail
  refine (value_text _ _).mono ?_
  rintro e w1 ⟨rfl, hb1⟩
  obtain ⟨hcy, hfy, hsz, hbel⟩ := made_value_at _ (w.heap.size + 2) (by simp only [World.size_alloc]) hb1
  have HB1 : Hid (Below w.heap.size w w1) := hid ((((Below.refl _ _).alloc (Nat.le_refl _) _).alloc (by simp) _).trans (hbel.mono (by simp)))
  have HY := hid hcy
  have HFY := hid hfy
  clear hb1 hbel hcy hfy
  unfold tvc VC.arr at HS ⊢
  go_wp2_with fail
  refine (HS.out _ (fun b' hb' => ?_)).mono ?_
  · rcases hb' with h | h | h | h
    · have := HU.out _ h
      have := HB1.out.size
      omega
    · omega
    · omega
    · omega
  rintro e w2 ⟨c', rfl, hb2, hv'⟩
  have hcy : ∀ j, w2.cell? ⟨w.heap.size + 2, j, none⟩ = zV.cells[j]? := fun j => (hb2.cell (p := ⟨w.heap.size + 2, j, none⟩) hsz).trans (HY.out j)
  have hfy : ∀ j, w2.frozen? ⟨w.heap.size + 2, j, none⟩ = false := fun j => (hb2.frozen (p := ⟨w.heap.size + 2, j, none⟩) hsz).trans (HFY.out j)
  have HB2 := hid hb2
  have HV' := hid hv'
  clear hb2 hv'
  simp only [zV, Value.cells] at hcy
  unfold VC.arr
  go_wp2_with fail
  refine bodyPost_ret (v := .tuple #[.agg #[.int .i64 c'.kind, .bool c'.bool, .bool c'.neg, .string c'.digits, .int .i64 c'.exp, .int .i64 c'.tkind, .int .i64 c'.day, .int .i64 c'.nano, .int .i64 c'.offset, .string c'.text, .slice c'.ab c'.nb c'.cb, .slice c'.al c'.nl c'.cl, .slice c'.af c'.nf c'.cf], .int .i64 0]) (by simp [results, Tryz.results35, go_sem, hcy]) rfl ⟨c', rfl, ?_, ?_⟩
  · have hbb := HB1.out.trans (HB2.out.mono (by omega))
    repeat (first | (with_reducible refine Below.setCell ?_ (by simp only []; omega) _) | (with_reducible exact hbb))
  · have hg : Goes (fun b => U b ∨ b = w.heap.size ∨ b = w.heap.size + 1 ∨ b = w.heap.size + 2) U w2 w2 := ⟨fun _ _ _ => rfl, fun _ _ h => .inl h⟩
    refine HV'.out.goes ?_
    repeat (first | (with_reducible refine Goes.setCell ?_ (by simp) _) | (with_reducible exact hg))

set_option maxRecDepth 100000 in
set_option maxHeartbeats 2000000 in
theorem arith_add (a b : ByteArray) (c1 c2 : VC) (U : Nat → Prop) (w : World) (ha : vld a.data.toList = true) (hb : vld b.data.toList = true) (hs : a.size + b.size ≤ 64000) (hU : ∀ b, U b → b < w.heap.size)
    (hk1 : c1.kind = 4 ∧ c1.text = a) (hk2 : c2.kind = 4 ∧ c2.text = b) :
    Calls Tryz.prog 12 #[.string ⟨#[43]⟩, .agg c1.arr, .agg c2.arr] w (ValEnd (tval (a ++ b)) U w) := by
  have HS := hid (fun (w' : World) => builtin_plus a b c1 c2 (fun b => U b ∨ b = w.heap.size ∨ b = w.heap.size + 1 ∨ b = w.heap.size + 2) w' ha hb hs)
  have HU := hid hU
  have HC : Hid (∀ w : World, Calls Tryz.prog 34 #[.string ⟨#[43, 45, 42, 47, 37]⟩, .string ⟨#[43]⟩] w fun e w' => e = .returned (.bool true) ∧ w' = w) := hid (fun w => Tryz.strings_Contains_one ⟨#[43, 45, 42, 47, 37]⟩ 43 w)
  have HK1 := hid hk1
  have HK2 := hid hk2
  clear ha hb hs hU hk1 hk2
  unfold VC.arr at HS ⊢
  go_enter Tryz.func12, Tryz.ntmps12
  go_wp2_with fail
  refine (HC.out _).mono ?_
  rintro e w1 ⟨rfl, rfl⟩
  go_wp2_with fail
  refine (HS.out _ (fun b' hb' => ?_) HK1.out HK2.out).mono ?_
  · simp only [World.size_alloc]
    rcases hb' with h | h | h | h
    · have := HU.out _ h
      omega
    · omega
    · omega
    · omega
  rintro e w1 ⟨c', rfl, hb1, hv'⟩
  obtain ⟨hcy, hfy, hsz, hbel⟩ := made_value_at _ (w.heap.size + 2) (by simp only [World.size_alloc]) hb1
  have HB1 : Hid (Below w.heap.size w w1) := hid ((((Below.refl _ _).alloc (Nat.le_refl _) _).alloc (by simp) _).trans (hbel.mono (by simp)))
  have HV' := hid hv'
  clear hb1 hv' hbel
  simp only [zV, Value.cells] at hcy
  unfold VC.arr
  go_wp2_with fail
  refine bodyPost_ret (v := .tuple #[.agg #[.int .i64 c'.kind, .bool c'.bool, .bool c'.neg, .string c'.digits, .int .i64 c'.exp, .int .i64 c'.tkind, .int .i64 c'.day, .int .i64 c'.nano, .int .i64 c'.offset, .string c'.text, .slice c'.ab c'.nb c'.cb, .slice c'.al c'.nl c'.cl, .slice c'.af c'.nf c'.cf], .int .i64 0]) (by simp [results, Tryz.results12, go_sem, hcy]) rfl ⟨c', rfl, ?_, ?_⟩
  · repeat (first | (with_reducible refine Below.setCell ?_ (by simp only []; omega) _) | (with_reducible exact HB1.out))
  · have hg : Goes (fun b => U b ∨ b = w.heap.size ∨ b = w.heap.size + 1 ∨ b = w.heap.size + 2) U w1 w1 := ⟨fun _ _ _ => rfl, fun _ _ h => .inl h⟩
    refine HV'.out.goes ?_
    repeat (first | (with_reducible refine Goes.setCell ?_ (by simp) _) | (with_reducible exact hg))
end Go.Proofs.YtaeclmligojlaaaGreatDoor.D

/- builtin.join of a list of strings, and Apply "join". Conditions: the joined string has at most 64000 bytes and is valid UTF-8; the list is not empty. -/
namespace Go.Proofs.YtaeclmligojlaaaGreatDoor.D
open Go.RowKit

theorem info_string : (Tryz.prog.info? 9).map (fun i => (i.zero, i.size, i.bytes)) = some (some (.string ⟨#[]⟩), 1, 16) := by kernel_rfl
/-- An own row that is not empty: where it lies. -/
theorem own_at {w : World} {base e sz n : Nat} {v : Value} {xs : List Value} (h : w.ownsRow base e sz v n xs) (h0 : 0 < n) : ∃ g c, v = .slice (some ⟨g, 0, none⟩) n c ∧ n ≤ c ∧ g < w.heap.size ∧ base ≤ g ∧ ∀ i, i < n * sz → w.cell? ⟨g, i, none⟩ = xs[i]? := by
  obtain ⟨hl, h⟩ := h
  rcases h with ⟨rfl, rfl⟩ | ⟨g, cap, cur, rfl, hb, hg, hnc, hcm, hcs, htake⟩
  · omega
  · refine ⟨g, cap, rfl, hnc, (Array.getElem?_eq_some_iff.1 hg).1, hb, fun i hi => ?_⟩
    rw [cell_of_row w g _ cur e (0, 0) hg, ← htake, List.getElem?_take, if_pos hi]
    simp

set_option maxRecDepth 100000 in
set_option maxHeartbeats 4000000 in
theorem builtin_join (xs : List ByteArray) (s sep : ByteArray) (c : VC) (U : Nat → Prop) (w : World) (hx : 1 ≤ xs.length) (hx2 : xs.length ≤ 65000) (hj : Lib.join (xs.map (·.data.toList)) sep.data.toList = s.data.toList) (hs : s.size ≤ 64000) (hv : vld s.data.toList = true)
    (hr : VR U w c (lval (xs.map tval))) (hU : ∀ b, U b → b < w.heap.size) :
    Calls Tryz.prog 49 #[.agg c.arr, .string sep] w (ValEnd (tval s) U w) := by
  have hlen : (Lib.join (xs.map (·.data.toList)) sep.data.toList).length ≤ 140737488355328 := by rw [hj, ← Lib.size_eq]; omega
  have HJ := hid (fun (bk o c : Nat) (w : World) (hc : ∀ (j : Nat) x, xs[j]? = some x → w.cell? ⟨bk, o + j, none⟩ = some (.string x)) (hbk : bk < w.heap.size) (hcap : xs.length ≤ c) => Tryz.strings_Join bk o c xs sep w hc hbk (by omega) hcap hlen)
  have HS := hid (fun (w' : World) => builtin_valid (tval s) (tvc s) (fun b => U b ∨ b = w.heap.size ∨ b = w.heap.size + 1) w' (tval_ok _ hv (by omega)) (by simp [Val.deep_eq, tval, Val.list, Val.fields, Val.deepL, Val.deepF]) (by simp [Val.cnt_eq, tval, Val.list, Val.fields, Val.cntL, Val.cntF]) (by simp [tval, Val.weight, Val.weightL, Val.weightF]) (tvc_reads _ _ _))
  have hsj : (⟨(Lib.join (xs.map (·.data.toList)) sep.data.toList).toArray⟩ : ByteArray) = s := by rw [hj]
  have HSJ := hid hsj
  have HU := hid hU
  obtain ⟨_, _, lc, fc, hk, hbo, hn, hdg, he, ht0, ht1, ht2, ht3, htx, hb, hl, hl', hf, hf'⟩ := hr
  have hnl : c.nl ≤ xs.length := by have := hl.1; simp [lval, Val.list] at this; omega
  have hnl' : xs.length ≤ c.nl := by have := hl.1; simp [lval, Val.list] at this; omega
  have HL : Hid (RowAt U w c.al c.nl xs.length 13 (fun i => (lc i).cell)) := hid (by have h := hl; simpa [lval, Val.list] using h)
  have HL' : Hid (∀ i (h : i < xs.length), VR U w (lc i) (tval xs[i])) := hid (fun i h => by
    have := hl' i (by simpa [lval, Val.list] using h)
    simpa [lval, Val.list] using this)
  obtain ⟨k, b, ng, dg, ex, tk, td, tn, to_, tx, ab, nb, cb, al, nl, cl, af, nf, cf⟩ := c
  obtain rfl : k = 6 := hk
  clear hj hs hv hU hlen hsj hbo hn hdg he ht0 ht1 ht2 ht3 htx hb hl hl' hf hf'
  simp only [] at hnl hnl' HL
  unfold VC.arr
  go_enter Tryz.func49, Tryz.ntmps49
  go_wp2_with fail
  go_loopw [6, 16] (fun lv iv wr => ∃ q : Nat, q ≤ nl ∧ iv = .int .i64 q ∧ wr.ownsRow (w.heap.size + 2) 9 1 lv q ((xs.take q).map Value.string) ∧ Below w.heap.size w wr ∧ w.heap.size + 2 ≤ wr.heap.size ∧ wr.heap[w.heap.size + 1]? = some (.cells zV.cells 30 (0, 0)))
    (fun _ iv _ => nl - (intOf iv).toNat)
  case atStart => exact ⟨0, Nat.zero_le _, rfl, World.ownsRow_nil .., ((Below.refl _ _).alloc (Nat.le_refl _) _).alloc (by simp) _, by simp, heap_alloc2_new ..⟩
  case round =>
    obtain ⟨q, hq, rfl, hown, hbel, hsz, hbx⟩ := hrel
    have HO := hid hown
    have HBel := hid hbel
    have HX := hid hbx
    clear hown hbel hbx
    by_cases hlt : q < nl
    · obtain ⟨b0, o0, hal, hb0, hu0, hcell⟩ := HL.out.2.2 (by omega)
      subst hal
      have hcq : ∀ j, j < 13 → wr.cell? ⟨b0, o0 + q * 13 + j, none⟩ = some ((lc q).cell j) := fun j hj => by
        rw [HBel.out.cell hb0]
        exact hcell q (by omega) j hj
      obtain ⟨g0, g1, g2, g3, g4, g5, g6, g7, g8, g9, g10, g11, g12⟩ := val_cells hcq
      obtain ⟨ht1, ht2, _⟩ := text_cells (HL'.out q (by omega))
      clear hcq hcell
      have HTK := hid (take_snoc' xs q (by omega))
      generalize hve : xs[q]'(by omega) = ve at *
      generalize hce : lc q = ce at *
      clear hve hce
      rw [ht1] at g0
      rw [ht2] at g9
      clear ht1 ht2
      obtain ⟨i0, hi, hz0, hz1, hz2⟩ := info_parts info_string
      have hown2 := fun o : Obj => HO.out.alloc o
      have HO2 := hid hown2
      clear hown2
      go_wp2_with (at_builtin; refine wpList_append_own_at _ rfl (.tmp 24) (.tmp 27) 72 rfl (w.heap.size + 2) 9 i0 (.string ⟨#[]⟩) 1 16 Tryz.underlying72 hi hz0 hz1 hz2 rfl (by decide) u6 q _ rfl ((HO2.out _).alloc _) ⟨wr.heap.size + 1, 0, none⟩ 1 1 [.string ve] rfl ?c1 ?c2 ?c3 ?c4 ?c5 ?c6 ?_)
      case c1 => rfl
      case c2 => exact World.news_of_block (cs := #[.string ve]) (t := 9) (fr := (0, 0)) (heap_alloc2_new ..)
      case c3 => simp [Value.oneCell']
      case c4 => unfold maxLen; omega
      case c5 => omega
      case c6 => simp; omega
      intro v3 w3 hown3 hg3 _ hat3
      have HO3 := hid hown3
      have HG3 := hid hg3
      clear hown3 hg3 hat3
      go_wp2_with fail
      go_roundw
      case rel =>
        have hown5 := HO.out
        have hne : some (w.heap.size + 1) ≠ u6.ownBlock := fun e => by have := (hown5.lt _ e.symm).1; omega
        refine ⟨q + 1, by omega, by go_num, by rw [HTK.out]; simpa using HO3.out, ((HBel.out.alloc (by omega) _).alloc (by simp; omega) _).grown HG3.out (by simp; omega) (fun k hk => by have := (hown5.lt k hk).1; omega), by have := HG3.out.size; simp at this; omega, ?_⟩
        rw [HG3.out.block _ (by simp; omega) hne, Below.heap_alloc _ _ _ (by simp; omega), Below.heap_alloc _ _ _ (by omega)]
        exact HX.out
      case measure => simp [intOf]; omega
    · obtain rfl : q = nl := by omega
      have hown5 := HO.out
      rw [List.take_of_length_le (by omega)] at hown5
      obtain ⟨g, cg, hv6, hcg, hg1, hg2, hgc⟩ := own_at hown5 (by omega)
      subst hv6
      have hql : q = xs.length := by omega
      have HQL := hid hql
      have hcells : ∀ (j : Nat) x, xs[j]? = some x → wr.cell? ⟨g, 0 + j, none⟩ = some (.string x) := fun j x hx => by
        have hj : j < xs.length := (List.getElem?_eq_some_iff.1 hx).1
        rw [Nat.zero_add, hgc j (by omega), List.getElem?_map, hx]
        rfl
      have HCELLS := hid hcells
      have hcy : ∀ j, wr.cell? ⟨w.heap.size + 1, j, none⟩ = zV.cells[j]? := fun j => cell_of_row wr _ j _ _ _ HX.out
      have HCY := hid hcy
      have hfy : ∀ j, wr.frozen? ⟨w.heap.size + 1, j, none⟩ = false := fun j => frozen_of_row wr _ j _ _ HX.out
      have HFY := hid hfy
      clear hown5 hgc hql hcells hcy hfy HO HX
      go_wp2_with fail
      rw [HQL.out]
      refine (HJ.out g 0 cg wr HCELLS.out hg1 (by omega)).mono ?_
      rintro e w1 ⟨rfl, hb1⟩
      rw [HSJ.out]
      have HB1 := hid hb1
      clear hb1
      go_wp2_with fail
      refine (value_text _ _).mono ?_
      rintro e w2 ⟨rfl, hb2⟩
      have HB2 := hid hb2
      have hsz2 := hb2.size
      have hsz1 := HB1.out.size
      clear hb2
      unfold tvc VC.arr at HS ⊢
      go_wp2_with fail
      refine (HS.out _ (fun b' hb' => ?_)).mono ?_
      · rcases hb' with h | h | h
        · have := HU.out _ h
          omega
        · omega
        · omega
      rintro e w3 ⟨c', rfl, hb3, hv'⟩
      have hcy : ∀ j, w3.cell? ⟨w.heap.size + 1, j, none⟩ = zV.cells[j]? := fun j => (hb3.cell (p := ⟨w.heap.size + 1, j, none⟩) (show w.heap.size + 1 < w2.heap.size by omega)).trans ((HB2.out.cell (p := ⟨w.heap.size + 1, j, none⟩) (show w.heap.size + 1 < w1.heap.size by omega)).trans ((HB1.out.cell (p := ⟨w.heap.size + 1, j, none⟩) (show w.heap.size + 1 < wr.heap.size by omega)).trans (HCY.out j)))
      have hfy : ∀ j, w3.frozen? ⟨w.heap.size + 1, j, none⟩ = false := fun j => (hb3.frozen (p := ⟨w.heap.size + 1, j, none⟩) (show w.heap.size + 1 < w2.heap.size by omega)).trans ((HB2.out.frozen (p := ⟨w.heap.size + 1, j, none⟩) (show w.heap.size + 1 < w1.heap.size by omega)).trans ((HB1.out.frozen (p := ⟨w.heap.size + 1, j, none⟩) (show w.heap.size + 1 < wr.heap.size by omega)).trans (HFY.out j)))
      have HB3 := hid hb3
      have HV' := hid hv'
      clear hb3 hv'
      simp only [zV, Value.cells] at hcy
      unfold VC.arr
      go_wp2_with fail
      refine bodyPost_ret (v := .tuple #[.agg #[.int .i64 c'.kind, .bool c'.bool, .bool c'.neg, .string c'.digits, .int .i64 c'.exp, .int .i64 c'.tkind, .int .i64 c'.day, .int .i64 c'.nano, .int .i64 c'.offset, .string c'.text, .slice c'.ab c'.nb c'.cb, .slice c'.al c'.nl c'.cl, .slice c'.af c'.nf c'.cf], .int .i64 0]) (by simp [results, Tryz.results49, go_sem, hcy]) rfl ⟨c', rfl, ?_, ?_⟩
      · have hbb := HBel.out.trans ((HB1.out.trans ((HB2.out.trans (HB3.out.mono (by omega))).mono (by omega))).mono (by omega))
        repeat (first | (with_reducible refine Below.setCell ?_ (by simp only []; omega) _) | (with_reducible exact hbb))
      · have hg : Goes (fun b => U b ∨ b = w.heap.size ∨ b = w.heap.size + 1) U w3 w3 := ⟨fun _ _ _ => rfl, fun _ _ h => .inl h⟩
        refine HV'.out.goes ?_
        repeat (first | (with_reducible refine Goes.setCell ?_ (by simp) _) | (with_reducible exact hg))
end Go.Proofs.YtaeclmligojlaaaGreatDoor.D

/- Apply "join" of a list of strings at a string. Conditions: as builtin.join. -/
namespace Go.Proofs.YtaeclmligojlaaaGreatDoor.D
open Go.RowKit

theorem arity_join (w : World) : Calls Tryz.prog 13 #[.string ⟨#[106, 111, 105, 110]⟩] w fun e w' => e = .returned (.tuple #[.int .i64 1, .bool true]) ∧ w = w' := by
  go_enter Tryz.func13, Tryz.ntmps13
  go_wp2
  go_ret2
  exact ⟨rfl, rfl⟩

set_option maxRecDepth 100000 in
set_option maxHeartbeats 4000000 in
theorem unary_join (xs : List ByteArray) (s sep : ByteArray) (c c2 : VC) (U : Nat → Prop) (w : World) (hx : 1 ≤ xs.length) (hx2 : xs.length ≤ 65000) (hj : Lib.join (xs.map (·.data.toList)) sep.data.toList = s.data.toList) (hs : s.size ≤ 64000) (hv : vld s.data.toList = true)
    (hr : VR U w c (lval (xs.map tval))) (h2 : c2.kind = 4 ∧ c2.text = sep) (hU : ∀ b, U b → b < w.heap.size) :
    Calls Tryz.prog 14 #[.string ⟨#[106, 111, 105, 110]⟩, .agg c.arr, .agg c2.arr] w (ValEnd (tval s) U w) := by
  have HJ := hid (fun (w' : World) (g : Goes U (fun b => U b ∨ b = w.heap.size ∨ b = w.heap.size + 1 ∨ b = w.heap.size + 2) w w') => builtin_join xs s sep c (fun b => U b ∨ b = w.heap.size ∨ b = w.heap.size + 1 ∨ b = w.heap.size + 2) w' hx hx2 hj hs hv (hr.goes g))
  have HU := hid hU
  obtain ⟨k2, b2, n2, d2, e2, tk2, td2, tn2, to2, x2, ab2, nb2, cb2, al2, nl2, cl2, af2, nf2, cf2⟩ := c2
  obtain ⟨rfl, rfl⟩ := h2
  have hk : c.kind = 6 := by obtain ⟨_, _, lc, fc, hk, _⟩ := hr; exact hk
  obtain ⟨k, b, ng, dg, ex, tk, td, tn, to_, tx, ab, nb, cb, al, nl, cl, af, nf, cf⟩ := c
  obtain rfl : k = 6 := hk
  clear hj hs hv hU hr
  unfold VC.arr at HJ ⊢
  go_enter Tryz.func14, Tryz.ntmps14
  go_wp2_with fail
  refine (HJ.out _ ⟨fun b hb _ => ?_, fun b hb h => ?_⟩ (fun b' hb' => ?_)).mono ?_
  · exact (Below.heap_alloc _ _ _ (by simp only [World.size_alloc]; omega)).trans ((Below.heap_alloc _ _ _ (by simp only [World.size_alloc]; omega)).trans (Below.heap_alloc _ _ _ hb))
  · rcases h with h | h | h | h
    · exact h
    · omega
    · omega
    · omega
  · simp only [World.size_alloc]
    rcases hb' with h | h | h | h
    · have := HU.out _ h
      omega
    · omega
    · omega
    · omega
  rintro e w1 ⟨c', rfl, hb1, hv'⟩
  obtain ⟨hcy, hfy, hsz, hbel⟩ := made_value_at _ (w.heap.size + 2) (by simp only [World.size_alloc]) hb1
  have HB1 : Hid (Below w.heap.size w w1) := hid ((((Below.refl _ _).alloc (Nat.le_refl _) _).alloc (by simp) _).trans (hbel.mono (by simp)))
  have HV' := hid hv'
  clear hb1 hv' hbel
  simp only [zV, Value.cells] at hcy
  unfold VC.arr
  go_wp2_with fail
  refine bodyPost_ret (v := .tuple #[.agg #[.int .i64 c'.kind, .bool c'.bool, .bool c'.neg, .string c'.digits, .int .i64 c'.exp, .int .i64 c'.tkind, .int .i64 c'.day, .int .i64 c'.nano, .int .i64 c'.offset, .string c'.text, .slice c'.ab c'.nb c'.cb, .slice c'.al c'.nl c'.cl, .slice c'.af c'.nf c'.cf], .int .i64 0]) (by simp [results, Tryz.results14, go_sem, hcy]) rfl ⟨c', rfl, ?_, ?_⟩
  · repeat (first | (with_reducible refine Below.setCell ?_ (by simp only []; omega) _) | (with_reducible exact HB1.out))
  · have hg : Goes (fun b => U b ∨ b = w.heap.size ∨ b = w.heap.size + 1 ∨ b = w.heap.size + 2) U w1 w1 := ⟨fun _ _ _ => rfl, fun _ _ h => .inl h⟩
    refine HV'.out.goes ?_
    repeat (first | (with_reducible refine Goes.setCell ?_ (by simp) _) | (with_reducible exact hg))

theorem below_undrew' {w w2 : World} (h : Below w.drew.heap.size w.drew w2) : Below w.heap.size w w2 := ⟨h.os, h.tape, h.output, h.size, h.block⟩

theorem two_old {w w1 : World} {cs : Array Value} {t : TypeId} {o2 : Obj} (hb : Below ((w.alloc (.cells cs t)).alloc o2).heap.size ((w.alloc (.cells cs t)).alloc o2) w1) :
    (∀ j, w1.cell? ⟨w.heap.size, j, none⟩ = cs[j]?) ∧ (∀ b, b < w.heap.size → ∀ j, w1.cell? ⟨b, j, none⟩ = w.cell? ⟨b, j, none⟩) := by
  refine ⟨fun j => cell_of_row w1 _ j _ t (0, 0) ?_, fun b hl j => World.cell?_of_block ?_⟩
  · rw [hb.block _ (by simp only [World.size_alloc]; omega), Below.heap_alloc _ _ _ (by simp only [World.size_alloc]; omega)]
    exact heap_alloc_new ..
  · exact (hb.block _ (by simp only [World.size_alloc]; omega)).trans ((Below.heap_alloc _ _ _ (by simp only [World.size_alloc]; omega)).trans (Below.heap_alloc _ _ _ hl))

set_option maxRecDepth 100000 in
set_option maxHeartbeats 4000000 in
theorem apply_join (xs : List ByteArray) (s sep : ByteArray) (c c2 : VC) (U : Nat → Prop) (ba : Nat) (w : World) (hx : 1 ≤ xs.length) (hx2 : xs.length ≤ 65000) (hj : Lib.join (xs.map (·.data.toList)) sep.data.toList = s.data.toList) (hs : s.size ≤ 64000) (hv : vld s.data.toList = true)
    (hr : VR U w c (lval (xs.map tval))) (h2 : c2.kind = 4 ∧ c2.text = sep) (hU : ∀ b, U b → b < w.heap.size) (hba : ba < w.heap.size) (ha : ∀ j, j < 13 → w.cell? ⟨ba, j, none⟩ = some (c2.cell j)) :
    Calls Tryz.prog 7 #[.string ⟨#[106, 111, 105, 110]⟩, .agg c.arr, .slice (some ⟨ba, 0, none⟩) 1 1] w (ValEnd (tval s) U w) := by
  have HJ := hid (fun (w' : World) (g : Goes U (fun b => U b ∨ b = w.heap.size ∨ b = w.heap.size + 1) w w') => unary_join xs s sep c c2 (fun b => U b ∨ b = w.heap.size ∨ b = w.heap.size + 1) w' hx hx2 hj hs hv (hr.goes g) h2)
  have HU := hid hU
  have hc : ∀ j, j < 13 → w.cell? ⟨ba, 0 + 0 * 13 + j, none⟩ = some (c2.cell j) := fun j hj => by simpa using ha j hj
  obtain ⟨g0, g1, g2, g3, g4, g5, g6, g7, g8, g9, g10, g11, g12⟩ := val_cells hc
  simp only [Nat.zero_mul, Nat.zero_add] at g0 g1 g2 g3 g4 g5 g6 g7 g8 g9 g10 g11 g12
  clear hj hs hv hU hr h2 ha hc
  unfold VC.arr at HJ ⊢
  have HCall : Hid (∀ o1 o2 : Obj, Calls Tryz.prog 14 #[.string ⟨#[106, 111, 105, 110]⟩, .agg #[.int .i64 c.kind, .bool c.bool, .bool c.neg, .string c.digits, .int .i64 c.exp, .int .i64 c.tkind, .int .i64 c.day, .int .i64 c.nano, .int .i64 c.offset, .string c.text, .slice c.ab c.nb c.cb, .slice c.al c.nl c.cl, .slice c.af c.nf c.cf], .agg #[.int .i64 c2.kind, .bool c2.bool, .bool c2.neg, .string c2.digits, .int .i64 c2.exp, .int .i64 c2.tkind, .int .i64 c2.day, .int .i64 c2.nano, .int .i64 c2.offset, .string c2.text, .slice c2.ab c2.nb c2.cb, .slice c2.al c2.nl c2.cl, .slice c2.af c2.nf c2.cf]] ((w.alloc o1).alloc o2).drew (ValEnd (tval s) (fun b => U b ∨ b = w.heap.size ∨ b = w.heap.size + 1) ((w.alloc o1).alloc o2).drew)) := by
    refine hid (fun o1 o2 => HJ.out _ ⟨fun b hb _ => ?_, fun b hb h => ?_⟩ (fun b' hb' => ?_))
    · exact (Below.heap_alloc _ _ _ (by simp only [World.size_alloc]; omega)).trans (Below.heap_alloc _ _ _ hb)
    · rcases h with h | h | h
      · exact h
      · omega
      · omega
    · show b' < ((w.alloc o1).alloc o2).heap.size
      simp only [World.size_alloc]
      rcases hb' with h | h | h
      · have := HU.out _ h
        omega
      · omega
      · omega
  clear HJ
  have hne1 : ¬ ba = w.heap.size + 1 := by omega
  have hne2 : ¬ w.heap.size + 1 = ba := by omega
  go_enter Tryz.func7, Tryz.ntmps7
  go_wp2_with (go_at_call 13; refine (arity_join _).mono ?_; rintro e w' ⟨rfl, rfl⟩)
  go_region_held3 (fun w' => w'.cell? ⟨w.heap.size, 0, none⟩ = some (.int .i64 c.kind) ∧ w'.cell? ⟨w.heap.size, 1, none⟩ = some (.bool c.bool) ∧ w'.cell? ⟨w.heap.size, 2, none⟩ = some (.bool c.neg) ∧ w'.cell? ⟨w.heap.size, 3, none⟩ = some (.string c.digits) ∧ w'.cell? ⟨w.heap.size, 4, none⟩ = some (.int .i64 c.exp) ∧ w'.cell? ⟨w.heap.size, 5, none⟩ = some (.int .i64 c.tkind) ∧ w'.cell? ⟨w.heap.size, 6, none⟩ = some (.int .i64 c.day) ∧ w'.cell? ⟨w.heap.size, 7, none⟩ = some (.int .i64 c.nano) ∧ w'.cell? ⟨w.heap.size, 8, none⟩ = some (.int .i64 c.offset) ∧ w'.cell? ⟨w.heap.size, 9, none⟩ = some (.string c.text) ∧ w'.cell? ⟨w.heap.size, 10, none⟩ = some (.slice c.ab c.nb c.cb) ∧ w'.cell? ⟨w.heap.size, 11, none⟩ = some (.slice c.al c.nl c.cl) ∧ w'.cell? ⟨w.heap.size, 12, none⟩ = some (.slice c.af c.nf c.cf) ∧ w'.cell? ⟨ba, 0, none⟩ = some (.int .i64 c2.kind) ∧ w'.cell? ⟨ba, 1, none⟩ = some (.bool c2.bool) ∧ w'.cell? ⟨ba, 2, none⟩ = some (.bool c2.neg) ∧ w'.cell? ⟨ba, 3, none⟩ = some (.string c2.digits) ∧ w'.cell? ⟨ba, 4, none⟩ = some (.int .i64 c2.exp) ∧ w'.cell? ⟨ba, 5, none⟩ = some (.int .i64 c2.tkind) ∧ w'.cell? ⟨ba, 6, none⟩ = some (.int .i64 c2.day) ∧ w'.cell? ⟨ba, 7, none⟩ = some (.int .i64 c2.nano) ∧ w'.cell? ⟨ba, 8, none⟩ = some (.int .i64 c2.offset) ∧ w'.cell? ⟨ba, 9, none⟩ = some (.string c2.text) ∧ w'.cell? ⟨ba, 10, none⟩ = some (.slice c2.ab c2.nb c2.cb) ∧ w'.cell? ⟨ba, 11, none⟩ = some (.slice c2.al c2.nl c2.cl) ∧ w'.cell? ⟨ba, 12, none⟩ = some (.slice c2.af c2.nf c2.cf))
    (go_keep)
    ((go_at_call 14; refine (HCall.out _ _).mono ?_; rintro e w1 ⟨c', rfl, hb1, hv'⟩; have hb2 := below_undrew' hb1; obtain ⟨hcy, hfy, hsz, hbel⟩ := made_value_at (w.alloc _) (w.heap.size + 1) (by simp only [World.size_alloc]) hb2; have hkeep := two_old hb2; obtain ⟨hc1, hc2⟩ := hkeep; have hc3 := hc2 ba hba; have HB1 := hid hbel; have HV' := hid hv'; clear hb1 hb2 hv' hbel hc2; simp only [zV, Value.cells] at hcy; unfold VC.arr))
  go_wp2_with fail
  refine bodyPost_ret (v := .tuple #[.agg #[.int .i64 c'.kind, .bool c'.bool, .bool c'.neg, .string c'.digits, .int .i64 c'.exp, .int .i64 c'.tkind, .int .i64 c'.day, .int .i64 c'.nano, .int .i64 c'.offset, .string c'.text, .slice c'.ab c'.nb c'.cb, .slice c'.al c'.nl c'.cl, .slice c'.af c'.nf c'.cf], .int .i64 0]) (by simp [results, Tryz.results7, go_sem, hcy]) rfl ⟨c', rfl, ?_, ?_⟩
  · have hbb := ((Below.refl w.heap.size w).alloc (Nat.le_refl _) (.cells #[.int .i64 c.kind, .bool c.bool, .bool c.neg, .string c.digits, .int .i64 c.exp, .int .i64 c.tkind, .int .i64 c.day, .int .i64 c.nano, .int .i64 c.offset, .string c.text, .slice c.ab c.nb c.cb, .slice c.al c.nl c.cl, .slice c.af c.nf c.cf] 30)).trans (HB1.out.mono (by omega))
    repeat (first | (with_reducible refine Below.setCell ?_ (by simp only []; omega) _) | (with_reducible exact hbb))
  · have hg : Goes (fun b => U b ∨ b = w.heap.size ∨ b = w.heap.size + 1) U w1 w1 := ⟨fun _ _ _ => rfl, fun _ _ h => .inl h⟩
    refine HV'.out.goes ?_
    repeat (first | (with_reducible refine Goes.setCell ?_ (by simp) _) | (with_reducible exact hg))
end Go.Proofs.YtaeclmligojlaaaGreatDoor.D
