/- DERIVED: THE SHELF's CONTRACTS AT THIS DUMP, IN PLAIN WORDS (tools/lay-plain.mjs out of 'YtaeclmligojlaaaGreatDoorShelfF.lean', which tools/lay-shelf.mjs wrote): THE SAME DECLARATIONS UNDER THE SAME NAMES: 'import', 'namespace', 'open', 'def', 'theorem' AND NOTHING ELSE: no command of the shelf's: FOR A HAND-IN. Each laying: the table of numbers ('.._ren') and one theorem, a field a fact of the dump's own or the kernel's comparison; each contract: ONE APPLICATION. | builtin.Names and Arity at "to_entries" and "from_entries". Conditions: the table strings.asciiSpace is as the library's text lays it. | Apply "to_entries" of a map. Conditions: sizes within the limits; the table strings.asciiSpace as laid. | builtin.entries: the map of a list of maps of a key and a value, no key twice. Conditions: sizes within the limits. | Apply "from_entries" of the list that "to_entries" makes of a map. Conditions: sizes within the limits; the table strings.asciiSpace as laid. -/
import Derived.Shelf.Strings.Fields
import Derived.Shelf.Slices.Turned
import Derived.Test.YtaeclmligojlaaaGreatDoorProg
import Derived.Test.YtaeclmligojlaaaGreatDoorB7
import Derived.Lib.SmallJoins
import Derived.Maps.OwnSet
/- DERIVED: THE SHELF's CONTRACTS AT THIS DUMP, IN PLAIN WORDS (tools/lay-plain.mjs out of 'YtaeclmligojlaaaGreatDoorShelfF.lean', which tools/lay-shelf.mjs wrote): THE SAME DECLARATIONS UNDER THE SAME NAMES: 'import', 'namespace', 'open', 'def', 'theorem' AND NOTHING ELSE: no command of the shelf's: FOR A HAND-IN. Each laying: the table of numbers ('.._ren') and one theorem, a field a fact of the dump's own or the kernel's comparison; each contract: ONE APPLICATION. -/
namespace Go.Proofs
open Go.Shelf
def Tryz.lays157_ren : Go.Shelf.Ren := ⟨fun | 157 => 110 | 229 => 171 | 199 => 172 | 261 => 240 | 311 => 278 | 312 => 279 | n => n, fun | 9 => 9 | 31 => 72 | 3 => 3 | 5 => 5 | 4 => 4 | 119 => 188 | 0 => 0 | 40 => 190 | 152 => 237 | 21 => 21 | 154 => 239 | 51 => 231 | 141 => 241 | 196 => 271 | 193 => 268 | 198 => 274 | 49 => 272 | 194 => 269 | 201 => 277 | 226 => 285 | 46 => 168 | 227 => 286 | n => n, fun | 0 => 0 | 6 => 2 | n => n⟩
theorem Tryz.lays157 : Go.Proofs.Lays.n157 Tryz.prog Tryz.lays157_ren := {
  mixed := by kernel_rfl
  f157 := Tryz.func110.trans (congrArg some (by kernel_rfl))
  f199 := Tryz.func172.trans (congrArg some (by kernel_rfl))
  f229 := Tryz.func171.trans (congrArg some (by kernel_rfl))
  f261 := Tryz.func240.trans (congrArg some (by kernel_rfl))
  f311 := Tryz.func278.trans (congrArg some (by kernel_rfl))
  f312 := Tryz.func279.trans (congrArg some (by kernel_rfl))
  t0 := Tryz.underlying0
  a0 := Tryz.isAgg0
  z0 := Tryz.sizeOf0
  v0 := Tryz.zeroValue0
  t3 := Tryz.underlying3
  a3 := Tryz.isAgg3
  z3 := Tryz.sizeOf3
  v3 := Tryz.zeroValue3
  t4 := Tryz.underlying4
  a4 := Tryz.isAgg4
  z4 := Tryz.sizeOf4
  v4 := Tryz.zeroValue4
  t5 := Tryz.underlying5
  a5 := Tryz.isAgg5
  z5 := Tryz.sizeOf5
  v5 := Tryz.zeroValue5
  t9 := Tryz.underlying9
  a9 := Tryz.isAgg9
  z9 := Tryz.sizeOf9
  v9 := Tryz.zeroValue9
  t21 := Tryz.underlying21
  a21 := Tryz.isAgg21
  z21 := Tryz.sizeOf21
  v21 := Tryz.zeroValue21
  t31 := Tryz.underlying72
  a31 := Tryz.isAgg72
  z31 := Tryz.sizeOf72
  v31 := Tryz.zeroValue72
  t40 := Tryz.underlying190
  a40 := Tryz.isAgg190
  z40 := Tryz.sizeOf190
  v40 := Tryz.zeroValue190
  t46 := Tryz.underlying168
  a46 := Tryz.isAgg168
  z46 := Tryz.sizeOf168
  v46 := Tryz.zeroValue168
  t49 := Tryz.underlying272
  a49 := Tryz.isAgg272
  z49 := Tryz.sizeOf272
  v49 := Tryz.zeroValue272
  t51 := Tryz.underlying231
  a51 := Tryz.isAgg231
  z51 := Tryz.sizeOf231
  v51 := Tryz.zeroValue231
  t119 := Tryz.underlying188
  a119 := Tryz.isAgg188
  z119 := Tryz.sizeOf188
  t141 := Tryz.underlying241
  a141 := Tryz.isAgg241
  z141 := Tryz.sizeOf241
  v141 := Tryz.zeroValue241
  t152 := Tryz.underlying237
  a152 := Tryz.isAgg237
  z152 := Tryz.sizeOf237
  v152 := Tryz.zeroValue237
  t154 := Tryz.underlying239
  a154 := Tryz.isAgg239
  z154 := Tryz.sizeOf239
  v154 := Tryz.zeroValue239
  t193 := Tryz.underlying268
  a193 := Tryz.isAgg268
  z193 := Tryz.sizeOf268
  v193 := Tryz.zeroValue268
  t194 := Tryz.underlying269
  a194 := Tryz.isAgg269
  z194 := Tryz.sizeOf269
  v194 := Tryz.zeroValue269
  t196 := Tryz.underlying271
  a196 := Tryz.isAgg271
  z196 := Tryz.sizeOf271
  v196 := Tryz.zeroValue271
  t198 := Tryz.underlying274
  a198 := Tryz.isAgg274
  z198 := Tryz.sizeOf274
  v198 := Tryz.zeroValue274
  t201 := Tryz.underlying277
  a201 := Tryz.isAgg277
  z201 := Tryz.sizeOf277
  v201 := Tryz.zeroValue277
  t226 := Tryz.underlying285
  a226 := Tryz.isAgg285
  z226 := Tryz.sizeOf285
  v226 := Tryz.zeroValue285
  t227 := Tryz.underlying286
  a227 := Tryz.isAgg286
  z227 := Tryz.sizeOf286
  v227 := Tryz.zeroValue286
  g0 := by kernel_rfl
  g6 := by kernel_rfl }
open Go.RowKit Go.Lib in
/-- strings.Fields, the table by 'Lib.TabIs' (as strings.TrimSpace's contract). 'hg': the table's number, by its name: at a dump 'by kernel_rfl'. (LAID: no walk: one application.) -/
theorem Tryz.strings_Fields (s : ByteArray) (w : World) (hs : s.size < 4294967281) (hascii : ∀ (j : Nat) b, s.data.toList[j]? = some b → b.toNat < 128) (htab : Lib.TabIs Tryz.prog w "strings.asciiSpace" .u8 Lib.asciiSpaceTab) :
    Calls Tryz.prog 110 #[.string s] w fun e w' =>
      e = .returned (.slice (some ⟨w.heap.size, 0, none⟩) (Lib.fields s.data.toList).length (Lib.fields s.data.toList).length) ∧ w' = w.alloc (.cells ((Lib.fields s.data.toList).map fun l => Value.string ⟨l.toArray⟩).toArray 9) := Any.strings_Fields Tryz.lays157 (by kernel_rfl) (by kernel_rfl) s w hs hascii htab
def Tryz.lays110_ren : Go.Shelf.Ren := ⟨fun | 110 => 44 | 109 => 109 | n => n, fun | 31 => 72 | 9 => 9 | 4 => 4 | 3 => 3 | 0 => 0 | n => n, fun | n => n⟩
theorem Tryz.lays110 : Go.Proofs.Lays.n110 Tryz.prog Tryz.lays110_ren := {
  mixed := by kernel_rfl
  f109 := Tryz.func109.trans (congrArg some (by kernel_rfl))
  f110 := Tryz.func44.trans (congrArg some (by kernel_rfl))
  t0 := Tryz.underlying0
  a0 := Tryz.isAgg0
  z0 := Tryz.sizeOf0
  v0 := Tryz.zeroValue0
  t3 := Tryz.underlying3
  a3 := Tryz.isAgg3
  z3 := Tryz.sizeOf3
  v3 := Tryz.zeroValue3
  t4 := Tryz.underlying4
  a4 := Tryz.isAgg4
  z4 := Tryz.sizeOf4
  v4 := Tryz.zeroValue4
  t9 := Tryz.underlying9
  a9 := Tryz.isAgg9
  z9 := Tryz.sizeOf9
  v9 := Tryz.zeroValue9
  t31 := Tryz.underlying72
  a31 := Tryz.isAgg72
  z31 := Tryz.sizeOf72
  v31 := Tryz.zeroValue72 }
open Go.Lib in
/-- slices.Contains at []string: "Contains reports whether v is present in s.": IT RETURNS 'Lib.containsS (the elements) v', which is true just where v is among them ('Lib.containsS_iff'); the world is as it was. ITS CALLEE slices.Index IS MET BY ITS OWN CONTRACT OFF THE SHELF (lay that first): no loop is walked here. (LAID: no walk: one application.) -/
theorem Tryz.slices_Contains_string (b off n c : Nat) (zs : List ByteArray) (x : ByteArray) (w : World) (hz : n ≤ zs.length) (hbig : n ≤ 9223372036854775807) (hc : ∀ j, j < zs.length → w.cell? ⟨b, off + j, none⟩ = some (.string (zs.getD j ByteArray.empty))) :
    Calls Tryz.prog 44 #[.slice (some ⟨b, off, none⟩) n c, .string x] w fun e w' => e = .returned (.bool (Lib.containsS (zs.take n) x)) ∧ w' = w := Any.slices_Contains_string Tryz.lays110 b off n c zs x w hz hbig hc
open Go.Lib in
/-- The same at a slice of length 0, a nil one too. (LAID: no walk: one application.) -/
theorem Tryz.slices_Contains_string_empty (a : Option Addr) (c : Nat) (x : ByteArray) (w : World) :
    Calls Tryz.prog 44 #[.slice a 0 c, .string x] w fun e w' => e = .returned (.bool false) ∧ w' = w := Any.slices_Contains_string_empty Tryz.lays110 a c x w
end Go.Proofs

/- builtin.Names and Arity at "to_entries" and "from_entries". Conditions: the table strings.asciiSpace is as the library's text lays it. -/
namespace Go.Proofs.YtaeclmligojlaaaGreatDoor.D
open Go.RowKit

/-- The table strings.asciiSpace, in every world in which nothing that was there has changed. -/
def Tab (w : World) : Prop := Lib.TabIs Tryz.prog w "strings.asciiSpace" .u8 Lib.asciiSpaceTab
theorem Tab.below {w w' : World} (h : Tab w) (hb : Below w.heap.size w w') : Tab w' := Go.Joins.tab_stays (g := 0) (by kernel_rfl) h hb (Nat.le_refl _)

def namesS : List UInt8 := ([95, 103, 114, 111, 117, 112, 32, 95, 114, 97, 110, 103, 101, 32, 97, 98, 115, 32, 97, 100, 100, 32, 97, 108, 108, 32, 97, 110, 121, 32, 99, 101, 105, 108, 32, 99, 111, 110, 116, 97, 105, 110, 115, 32, 101, 110, 100, 115, 119, 105, 116, 104, 32, 101, 114, 114].append [111, 114, 32, 102, 108, 97, 116, 116, 101, 110, 32, 102, 108, 111, 111, 114, 32, 102, 114, 111, 109, 95, 101, 110, 116, 114, 105, 101, 115, 32, 104, 97, 115, 32, 106, 111, 105, 110, 32, 107, 101, 121, 115, 32, 108, 101, 110, 103, 116, 104, 32, 109, 97, 120, 32, 109, 105]).append ([110, 32, 110, 111, 116, 32, 113, 117, 111, 32, 114, 101, 118, 101, 114, 115, 101, 32, 114, 111, 117, 110, 100, 32, 115, 111, 114, 116, 32, 115, 112, 108, 105, 116, 32, 115, 116, 97, 114, 116, 115, 119, 105, 116, 104, 32, 116, 101, 115, 116, 32, 116, 111, 95, 101, 110].append [116, 114, 105, 101, 115, 32, 116, 111, 98, 121, 116, 101, 115, 32, 116, 111, 110, 117, 109, 98, 101, 114, 32, 116, 111, 115, 116, 114, 105, 110, 103, 32, 116, 111, 116, 105, 109, 101, 32, 116, 121, 112, 101, 32, 117, 110, 105, 113, 117, 101, 32, 118, 97, 108, 117, 101, 115])
noncomputable def namesL : List ByteArray := (Lib.fields namesS).map fun l => ⟨l.toArray⟩
theorem namesL_len : (Lib.fields namesS).length = 35 := by decide +kernel
theorem names_ascii : namesS.all (fun b => b.toNat < 128) = true := by decide +kernel
theorem names_to : (⟨#[116, 111, 95, 101, 110, 116, 114, 105, 101, 115]⟩ : ByteArray) ∈ namesL := List.mem_map.2 ⟨[116, 111, 95, 101, 110, 116, 114, 105, 101, 115], by decide +kernel, rfl⟩
theorem names_from : (⟨#[102, 114, 111, 109, 95, 101, 110, 116, 114, 105, 101, 115]⟩ : ByteArray) ∈ namesL := List.mem_map.2 ⟨[102, 114, 111, 109, 95, 101, 110, 116, 114, 105, 101, 115], by decide +kernel, rfl⟩

set_option maxRecDepth 100000 in
theorem builtin_names (w : World) (ht : Tab w) : Calls Tryz.prog 45 #[] w fun e w' => e = .returned (.slice (some ⟨w.heap.size, 0, none⟩) 35 35) ∧ w' = w.alloc (.cells (namesL.map Value.string).toArray 9) := by
  have HF := hid (fun (s : ByteArray) (hs : s = ⟨namesS.toArray⟩) => Tryz.strings_Fields s w (by rw [hs]; decide +kernel) (by
    intro j b hj
    rw [hs] at hj
    have h := List.all_eq_true.1 names_ascii b (List.mem_of_getElem? hj)
    simpa using h) ht)
  clear ht
  go_enter Tryz.func45, Tryz.ntmps45
  go_wp2_with fail
  refine (HF.out _ rfl).mono ?_
  rintro e w1 ⟨rfl, rfl⟩
  have e1 : (Lib.fields (⟨namesS.toArray⟩ : ByteArray).data.toList).length = 35 := namesL_len
  have e2 : ((Lib.fields (⟨namesS.toArray⟩ : ByteArray).data.toList).map fun l => Value.string ⟨l.toArray⟩) = namesL.map Value.string := by simp [namesL]
  rw [e1, e2]
  clear e1 e2
  go_wp2_with fail
  go_ret
  exact ⟨rfl, rfl⟩

theorem below1' (w : World) (o1 : Obj) : Below w.heap.size w (w.alloc o1) := (Below.refl _ _).alloc (Nat.le_refl _) _
set_option maxRecDepth 100000 in
theorem arity_name (x : ByteArray) (w : World) (ht : Tab w) (hx : x ∈ namesL) (h1 : x = ⟨#[116, 111, 95, 101, 110, 116, 114, 105, 101, 115]⟩ ∨ x = ⟨#[102, 114, 111, 109, 95, 101, 110, 116, 114, 105, 101, 115]⟩) :
    Calls Tryz.prog 13 #[.string x] w fun e w' => e = .returned (.tuple #[.int .i64 0, .bool true]) ∧ Below w.heap.size w w' := by
  have HN := hid (builtin_names w ht)
  have hlen : namesL.length = 35 := by unfold namesL; rw [List.length_map]; exact namesL_len
  have HC : Hid (Calls Tryz.prog 44 #[.slice (some ⟨w.heap.size, 0, none⟩) 35 35, .string x] (w.alloc (.cells (namesL.map Value.string).toArray 9)) fun e w' => e = .returned (.bool true) ∧ w' = w.alloc (.cells (namesL.map Value.string).toArray 9)) := by
    refine hid ((Tryz.slices_Contains_string w.heap.size 0 35 35 namesL x _ (by rw [hlen]; exact Nat.le_refl _) (by decide) (fun j hj => ?_)).mono ?_)
    · rw [cell_of_row _ w.heap.size _ _ 9 (0, 0) (heap_alloc_new ..), Nat.zero_add]
      simp [List.getD_eq_getElem?_getD, hj]
    · rintro e w' ⟨rfl, rfl⟩
      refine ⟨?_, rfl⟩
      have : Lib.containsS (namesL.take 35) x = true := by
        rw [List.take_of_length_le (by rw [hlen]; exact Nat.le_refl _), Lib.containsS_iff]
        exact hx
      rw [this]
  have HB := hid (below1' w (.cells (namesL.map Value.string).toArray 9))
  clear ht hx hlen
  rcases h1 with rfl | rfl
  all_goals
    go_enter Tryz.func13, Tryz.ntmps13
    go_wp2_with fail
    refine HN.out.mono ?_
    rintro e w1 ⟨rfl, rfl⟩
    go_wp2_with fail
    refine HC.out.mono ?_
    rintro e w1 ⟨rfl, rfl⟩
    go_wp2_with fail
    go_ret2
    exact ⟨rfl, HB.out⟩
end Go.Proofs.YtaeclmligojlaaaGreatDoor.D

/- Apply "to_entries" of a map. Conditions: sizes within the limits; the table strings.asciiSpace as laid. -/
namespace Go.Proofs.YtaeclmligojlaaaGreatDoor.D
open Go.RowKit

theorem below2' (w : World) (o1 o2 : Obj) : Below w.heap.size w ((w.alloc o1).alloc o2) := ((Below.refl _ _).alloc (Nat.le_refl _) _).alloc (by simp) _

set_option maxRecDepth 100000 in
set_option maxHeartbeats 4000000 in
theorem apply_to (v : Val) (c : VC) (U : Nat → Prop) (w : World) (ht : Tab w) (hk7 : v.kind = 7) (hok : OkV v) (hd : v.deep ≤ 46) (hn : v.cnt ≤ 150) (hw : v.weight ≤ 2000000000) (hv : VR U w c v) (hU : ∀ b, U b → b < w.heap.size) :
    Calls Tryz.prog 7 #[.string ⟨#[116, 111, 95, 101, 110, 116, 114, 105, 101, 115]⟩, .agg c.arr, .slice none 0 0] w (ValEnd (lval (entriesOf v.fields)) U w) := by
  have HP := hid (fun (w' : World) => parts_entries v c (fun b => U b ∨ b = w.heap.size ∨ b = w.heap.size + 1) w' hk7 hok hd hn hw)
  have HA := hid (fun (w' : World) (h : Tab w') => arity_name ⟨#[116, 111, 95, 101, 110, 116, 114, 105, 101, 115]⟩ w' h names_to (.inl rfl))
  have HT := hid ht
  have HV := hid hv
  have HU := hid hU
  clear ht hk7 hok hd hn hw hv hU
  simp only [VC.arr] at HP ⊢
  go_enter Tryz.func7, Tryz.ntmps7
  go_wp2_with fail
  refine (HA.out _ (HT.out.below (below2' _ _ _))).mono ?_
  rintro e w1 ⟨rfl, hb1⟩
  have hx1 : w1.heap[w.heap.size]? = some (.cells #[.int .i64 c.kind, .bool c.bool, .bool c.neg, .string c.digits, .int .i64 c.exp, .int .i64 c.tkind, .int .i64 c.day, .int .i64 c.nano, .int .i64 c.offset, .string c.text, .slice c.ab c.nb c.cb, .slice c.al c.nl c.cl, .slice c.af c.nf c.cf] 30 (0, 0)) := by rw [hb1.block _ (by simp only [World.size_alloc]; omega)]; exact heap_alloc2_old ..
  have hcx : ∀ j, w1.cell? ⟨w.heap.size, j, none⟩ = (#[.int .i64 c.kind, .bool c.bool, .bool c.neg, .string c.digits, .int .i64 c.exp, .int .i64 c.tkind, .int .i64 c.day, .int .i64 c.nano, .int .i64 c.offset, .string c.text, .slice c.ab c.nb c.cb, .slice c.al c.nl c.cl, .slice c.af c.nf c.cf] : Array Value)[j]? := fun j => cell_of_row w1 w.heap.size j _ 30 (0, 0) hx1
  obtain ⟨hcy, hfy, hsz, hbel⟩ := made_value_at (w.alloc _) (w.heap.size + 1) (by simp only [World.size_alloc]) hb1
  have HB1 : Hid (Below w.heap.size w w1) := hid (((Below.refl _ _).alloc (Nat.le_refl _) _).trans (hbel.mono (by omega)))
  have HY := hid hcy
  have HFY := hid hfy
  clear hb1 hbel hx1 hcy hfy
  go_wp2_with fail
  refine (HP.out _ (HV.out.goes ⟨fun b hb _ => HB1.out.block b hb, fun b hb h => ?_⟩) (fun b hb => ?_)).mono ?_
  · rcases h with h | h | h
    · exact h
    · omega
    · omega
  · rcases hb with hb | hb | hb
    · have := HU.out b hb
      omega
    · omega
    · omega
  rintro e w2 ⟨c', rfl, hb2, hv2⟩
  have hcy : ∀ j, w2.cell? ⟨w.heap.size + 1, j, none⟩ = zV.cells[j]? := fun j => (hb2.cell (p := ⟨w.heap.size + 1, j, none⟩) hsz).trans (HY.out j)
  have hfy : ∀ j, w2.frozen? ⟨w.heap.size + 1, j, none⟩ = false := fun j => (hb2.frozen (p := ⟨w.heap.size + 1, j, none⟩) hsz).trans (HFY.out j)
  have HB2 := hid hb2
  have HV' := hid hv2
  clear hb2 hv2 hcx
  simp only [zV, Value.cells] at hcy
  simp only [VC.arr]
  go_wp2_with fail
  refine bodyPost_ret (v := .tuple #[.agg #[.int .i64 c'.kind, .bool c'.bool, .bool c'.neg, .string c'.digits, .int .i64 c'.exp, .int .i64 c'.tkind, .int .i64 c'.day, .int .i64 c'.nano, .int .i64 c'.offset, .string c'.text, .slice c'.ab c'.nb c'.cb, .slice c'.al c'.nl c'.cl, .slice c'.af c'.nf c'.cf], .int .i64 0]) (by simp [results, Tryz.results7, go_sem, hcy]) rfl ⟨c', rfl, ?_, ?_⟩
  · have hbb := HB1.out.trans (HB2.out.mono (by omega))
    repeat (first | (with_reducible refine Below.setCell ?_ (by simp only []; omega) _) | (with_reducible exact hbb))
  · have hg : Goes (fun b => U b ∨ b = w.heap.size ∨ b = w.heap.size + 1) U w2 w2 := ⟨fun _ _ _ => rfl, fun _ _ h => .inl h⟩
    refine HV'.out.goes ?_
    repeat (first | (with_reducible refine Goes.setCell ?_ (by simp) _) | (with_reducible exact hg))
end Go.Proofs.YtaeclmligojlaaaGreatDoor.D

/- builtin.entries: the map of a list of maps of a key and a value, no key twice. Conditions: sizes within the limits. -/
namespace Go.Proofs.YtaeclmligojlaaaGreatDoor.D
open Go.RowKit Go.Maps Go.ChangeMaps

/-- From w to w' only blocks of R have changed, of those that w had. -/
structure Kp (R : Nat → Prop) (w w' : World) : Prop where
  os : w'.os = w.os
  tape : w'.tape = w.tape
  output : w'.output = w.output
  size : w.heap.size ≤ w'.heap.size
  block : ∀ b, b < w.heap.size → ¬ R b → w'.heap[b]? = w.heap[b]?
theorem Kp.refl (R : Nat → Prop) (w : World) : Kp R w w := ⟨rfl, rfl, rfl, Nat.le_refl _, fun _ _ _ => rfl⟩
theorem Kp.alloc {R : Nat → Prop} {w w' : World} (h : Kp R w w') (o : Obj) : Kp R w (w'.alloc o) :=
  ⟨h.os, h.tape, h.output, by simp only [World.size_alloc]; have := h.size; omega, fun b hb hr => (Below.heap_alloc _ _ _ (Nat.lt_of_lt_of_le hb h.size)).trans (h.block b hb hr)⟩
theorem Kp.below {R : Nat → Prop} {w w1 w2 : World} (h : Kp R w w1) (g : Below w1.heap.size w1 w2) : Kp R w w2 :=
  ⟨g.os.trans h.os, g.tape.trans h.tape, g.output.trans h.output, Nat.le_trans h.size g.size, fun b hb hr => (g.block b (Nat.lt_of_lt_of_le hb h.size)).trans (h.block b hb hr)⟩
theorem Kp.grown {R : Nat → Prop} {w w1 w2 : World} {r : Option Nat} (h : Kp R w w1) (g : w1.grownBy w2 r) (hr : ∀ k, r = some k → k < w.heap.size → R k) : Kp R w w2 :=
  ⟨g.os.trans h.os, g.tape.trans h.tape, g.output.trans h.output, Nat.le_trans h.size g.size, fun b hb hn => (g.block b (Nat.lt_of_lt_of_le hb h.size) (fun e => hn (hr b e.symm hb))).trans (h.block b hb hn)⟩
theorem Kp.set {R : Nat → Prop} {w w1 : World} (h : Kp R w w1) (p : Addr) (v : Value) (hp : p.block < w.heap.size → R p.block) : Kp R w (w1.setCell p v) :=
  ⟨h.os, h.tape, h.output, by simp [World.setCell]; exact h.size, fun b hb hn => (heap_setCell_other _ _ _ _ (fun e => hn (by rw [e]; exact hp (by rw [← e]; exact hb)))).trans (h.block b hb hn)⟩
theorem Kp.to_below {R : Nat → Prop} {B : Nat} {w0 w w' : World} (hb : Below B w0 w) (h : Kp R w w') (hB : B ≤ w.heap.size) (hR : ∀ b, R b → B ≤ b) : Below B w0 w' :=
  ⟨h.os.trans hb.os, h.tape.trans hb.tape, h.output.trans hb.output, Nat.le_trans hb.size h.size, fun b hlt => (h.block b (Nat.lt_of_lt_of_le hlt hB) (fun hr => by have := hR b hr; omega)).trans (hb.block b hlt)⟩
theorem Kp.goes {R U V : Nat → Prop} {w w' : World} (h : Kp R w w') (hR : ∀ b, R b → U b) (hV : ∀ b, b < w.heap.size → V b → U b) : Goes U V w w' := ⟨fun b hb hu => h.block b hb (fun hr => hu (hR b hr)), hV⟩

theorem wf_nat (q : Nat) (h : q ≤ 1000) : (Lit.int .i64 (q : Int)).wf = true := by
  simp [Lit.wf, IntKind.min, IntKind.max, IntKind.bits, IntKind.signed]
  omega
theorem kv_ne : kKey ≠ kValue := by decide
theorem keyedS : Keyed Tryz.prog 9 := string_keyed Tryz.underlying9
theorem zero_int (w : World) : (zeroValue 3).run Tryz.prog w = .ok (.int .i64 0) w := by kernel_rfl
/-- The map from the keys to their places. -/
def placeOf (l : List ByteArray) : DataW Unit := (List.range l.length).foldl (fun m i => m.put (.string (l.getD i default).data.toList) (.lit (.int .i64 i))) (.map [])
theorem placeOf_snoc (l : List ByteArray) (x : ByteArray) : placeOf (l ++ [x]) = (placeOf l).put (.string x.data.toList) (.lit (.int .i64 l.length)) := by
  have hg : ∀ (k : Nat), k ≤ l.length → (List.range k).foldl (fun (m : DataW Unit) i => m.put (.string ((l ++ [x]).getD i default).data.toList) (.lit (.int .i64 i))) (.map []) = (List.range k).foldl (fun (m : DataW Unit) i => m.put (.string (l.getD i default).data.toList) (.lit (.int .i64 i))) (.map []) := by
    intro k
    induction k with
    | zero => intro _; rfl
    | succ k ih =>
      intro hk
      rw [List.range_succ, List.foldl_append, List.foldl_append, ih (by omega)]
      simp only [List.foldl_cons, List.foldl_nil]
      rw [show (l ++ [x]).getD k default = l.getD k default by simp [List.getD_eq_getElem?_getD, List.getElem?_append_left (show k < l.length by omega)]]
  unfold placeOf
  rw [List.length_append, List.length_singleton, List.range_succ, List.foldl_append, hg l.length (Nat.le_refl _)]
  simp only [List.foldl_cons, List.foldl_nil]
  rw [show (l ++ [x]).getD l.length default = x by simp [List.getD_eq_getElem?_getD]]
theorem placeOf_none (l : List ByteArray) (x : ByteArray) (h : x ∉ l) : has (placeOf l) (.string x.data.toList) = false := by
  have hg : ∀ (k : Nat), k ≤ l.length → has ((List.range k).foldl (fun (m : DataW Unit) i => m.put (.string (l.getD i default).data.toList) (.lit (.int .i64 i))) (.map [])) (.string x.data.toList) = false := by
    intro k
    induction k with
    | zero => intro _; rfl
    | succ k ih =>
      intro hk
      rw [List.range_succ, List.foldl_append]
      simp only [List.foldl_cons, List.foldl_nil]
      rw [has_put_other]
      · exact ih (by omega)
      · intro e
        have hm : l.getD k default ∈ l := by
          rw [List.getD_eq_getElem?_getD, List.getElem?_eq_getElem (show k < l.length by omega)]
          exact List.getElem_mem _
        exact h (ByteArray.ext (Array.toList_inj.1 (Lit.string.inj e)) ▸ hm)
  exact hg _ (Nat.le_refl _)
theorem map_at (l : List ByteArray) (x : ByteArray) (h : x ∉ l) : (placeOf l).atKey (.string x.data.toList) (.lit (.int .i64 0)) = .lit (.int .i64 0) := atKey_of_not_has (placeOf_none l x h) _

theorem after_map {w2 w3 : World} {m : Nat} {cs : Array Value} {t : TypeId} (hg : (w2.alloc (.cells cs t)).grownBy w3 (some m)) :
    (∀ b, b < w2.heap.size → b ≠ m → w3.heap[b]? = w2.heap[b]?) ∧ (w2.heap.size ≠ m → w3.heap[w2.heap.size]? = some (.cells cs t (0, 0))) ∧ w2.heap.size + 1 ≤ w3.heap.size := by
  have hs := hg.size
  simp only [World.size_alloc] at hs
  refine ⟨fun b hb hm => ?_, fun hm => ?_, hs⟩
  · rw [hg.block b (by simp only [World.size_alloc]; omega) (by simpa using hm), Below.heap_alloc _ _ _ hb]
  · rw [hg.block _ (by simp only [World.size_alloc]; omega) (by simpa using hm)]
    exact heap_alloc_new ..
theorem own_map {w2 w3 : World} {o : Obj} {m base e sz n : Nat} {v : Value} {xs : List Value} (h : w2.ownsRow base e sz v n xs) (hg : (w2.alloc o).grownBy w3 (some m)) (hm : m < base) : w3.ownsRow base e sz v n xs :=
  (h.alloc o).kept hg (by
    rcases hv : v.ownBlock with _ | k
    · exact .inl rfl
    · right
      have := (h.lt k hv).1
      simp; omega)
theorem out_kept {w3 w4 : World} {o ob : Obj} {base e sz n p : Nat} {v : Value} {xs : List Value} (h : w3.ownsRow base e sz v n xs) (hg : (w3.alloc o).grownBy w4 v.ownBlock) (hp : w3.heap[p]? = some ob) (hlt : p < w3.heap.size) (hb : p < base) : w4.heap[p]? = some ob := by
  rw [hg.block p (by simp only [World.size_alloc]; omega) (fun e => by have := (h.lt p e.symm).1; omega), Below.heap_alloc _ _ _ hlt]
  exact hp

set_option maxRecDepth 100000 in
set_option maxHeartbeats 8000000 in
theorem builtin_entries (vf : List (ByteArray × Val)) (U : Nat → Prop) (A : Option Addr) (n cp : Nat) (lc : Nat → VC) (w : World) (hkeys : KeysOk vf) (hfok : ∀ i (h : i < vf.length), OkV vf[i].2) (hd : Val.deepF vf ≤ 46) (hn : Val.cntF vf ≤ 150) (hw : Val.weightF vf ≤ 2000000000)
    (hr : RowAt U w A n vf.length 13 (fun i => (lc i).cell)) (hv : ∀ i (h : i < vf.length), VR U w (lc i) (eval vf[i].1 vf[i].2)) (hU : ∀ b, U b → b < w.heap.size) :
    Calls Tryz.prog 88 #[.slice A n cp] w (ValEnd (.mk 7 false zD zT ⟨#[]⟩ [] [] vf) U w) := by
  have hlen := Val.cntF_len vf
  have hlq : vf.length ≤ 150 := by omega
  have hokm : OkV (.mk 7 false zD zT ⟨#[]⟩ [] [] vf) := ⟨_, ⟨⟨by simp [Val.kind], by simp [Val.kind], fun _ => rfl, fun _ => rfl, fun _ => rfl, fun _ => rfl, fun _ => rfl, fun _ => rfl, fun h => absurd rfl h⟩, fun h => absurd h (by simp [Val.kind]), fun h => absurd h (by simp [Val.kind]), rfl, Nat.zero_le _, by simp [Val.bytes], hkeys⟩, fun i h => absurd h (by simp [Val.list]), fun i h => hfok i h⟩
  have HVD := hid (fun (c' : VC) (w' : World) => builtin_valid (.mk 7 false zD zT ⟨#[]⟩ [] [] vf) c' (fun b => U b ∨ b = w.heap.size ∨ b = w.heap.size + 1 ∨ b = w.heap.size + 2) w' hokm (by simp only [Val.deep_eq, Val.list, Val.fields, Val.deepL]; omega) (by simp only [Val.cnt_eq, Val.list, Val.fields, Val.cntL]; omega) (by simp only [Val.weight, Val.weightL, List.length_nil]; omega))
  have HR := hid hr
  have HV := hid hv
  have HU := hid hU
  have HK := hid hkeys
  have hwq : ∀ i (h : i < vf.length), (eval vf[i].1 vf[i].2).weight ≤ 4294967296 ∧ (eval vf[i].1 vf[i].2).deep ≤ 65536 := fun i h => by
    have h1 := (Val.weightF_get vf).2 i h
    have h2 := Val.deepF_get vf i h
    rw [eval_weight, eval_deep]
    omega
  have HWQ := hid hwq
  have hn1 : n ≤ vf.length := Nat.le_of_eq hr.1
  have hn2 : vf.length ≤ n := Nat.le_of_eq hr.1.symm
  clear hkeys hfok hd hn hw hr hv hU hokm hwq hlen
  have hmm := @run_makeMap Tryz.prog
  go_enter Tryz.func88, Tryz.ntmps88
  go_wp2_with fail
  go_loopw [18] (fun iv wr => ∃ (q : Nat) (fs : List (ByteArray × VC)) (fv : Value), q ≤ n ∧ iv = .int .i64 q ∧ Below w.heap.size w wr ∧ w.heap.size + 3 ≤ wr.heap.size ∧
      wr.heap[w.heap.size]? = some (.cells zV.cells 30 (0, 0)) ∧ wr.heap[w.heap.size + 1]? = some (.cells #[.int .i64 7, .bool false, .bool false, .string ⟨#[]⟩, .int .i64 0, .int .i64 0, .int .i64 0, .int .i64 0, .int .i64 0, .string ⟨#[]⟩, .slice none 0 0, .slice none 0 0, fv] 30 (0, 0)) ∧
      wr.ownsMap Tryz.prog 9 (plainElem Tryz.prog 3) (w.heap.size + 2) q (placeOf ((vf.take q).map (·.1))) ∧
      wr.ownsRow (w.heap.size + 3) 41 14 fv q (fs.flatMap fcells) ∧ FRL (Uo (fun b => U b ∨ b = w.heap.size ∨ b = w.heap.size + 1 ∨ b = w.heap.size + 2) fv) wr fs (vf.take q))
    (fun iv _ => n - (intOf iv).toNat)
  case atStart =>
    have hm := World.ownsMap_made (H := Unit) ((w.alloc (.cells zV.cells 30)).alloc (.cells #[.int .i64 7, .bool false, .bool false, .string ⟨#[]⟩, .int .i64 0, .int .i64 0, .int .i64 0, .int .i64 0, .int .i64 0, .string ⟨#[]⟩, .slice none 0 0, .slice none 0 0, .slice none 0 0] 30)) Tryz.prog 9 (plainElem Tryz.prog 3)
    simp only [World.size_alloc] at hm
    exact ⟨0, [], .slice none 0 0, Nat.zero_le _, rfl, (((Below.refl _ _).alloc (Nat.le_refl _) _).alloc (by simp) _).alloc (by simp only [World.size_alloc]; omega) _, by simp only [World.size_alloc]; omega, (Below.heap_alloc _ _ _ (by simp only [World.size_alloc]; omega)).trans (heap_alloc2_old ..), (Below.heap_alloc _ _ _ (by simp only [World.size_alloc]; omega)).trans (heap_alloc2_new ..), hm, World.ownsRow_nil .., FRL.nil ..⟩
  case round =>
    obtain ⟨q, fs, fv, hq, rfl, hbel, hsz, hx0, hx1, hmap, hown, hfr⟩ := hrel
    obtain ⟨Af, cf, hfv⟩ : ∃ Af cf, fv = .slice Af q cf := by
      obtain ⟨A', c', e, _⟩ := own_row hown
      exact ⟨A', c', e⟩
    subst hfv
    have HBel := hid hbel
    have HX0 := hid hx0
    have HX1 := hid hx1
    have HM := hid hmap
    have HO := hid hown
    have HFR := hid hfr
    clear hbel hx0 hx1 hmap hown hfr
    by_cases hlt : q < n
    · obtain ⟨b0, o0, hal, hb0, hu0, hcell⟩ := HR.out.2.2 (by omega)
      subst hal
      have hqf : q < vf.length := by omega
      have hcq : ∀ j, j < 13 → wr.cell? ⟨b0, o0 + q * 13 + j, none⟩ = some ((lc q).cell j) := fun j hj => by
        rw [HBel.out.cell hb0]
        exact hcell q (by omega) j hj
      obtain ⟨g0, g1, g2, g3, g4, g5, g6, g7, g8, g9, g10, g11, g12⟩ := val_cells hcq
      clear hcq hcell
      have HV0 := hid (HV.out q hqf)
      have HW0 := hid (HWQ.out q hqf)
      have hks := (HK.out.ok q hqf).2
      have hnot : (vf[q]'hqf).1 ∉ (vf.take q).map (·.1) := by
        intro hm
        obtain ⟨y, hy, he⟩ := List.mem_map.1 hm
        obtain ⟨j, hj, rfl⟩ := List.mem_iff_getElem.1 hy
        simp only [List.getElem_take] at he
        have hjq : j < q := by simp only [List.length_take] at hj; omega
        exact HK.out.apart j q hjq hqf he
      have HNOT := hid hnot
      have HTK := hid (take_snoc' vf q hqf)
      clear hnot
      generalize hke : (vf[q]'hqf) = kv at *
      obtain ⟨key, ve⟩ := kv
      simp only [] at HV0 HW0 hks HNOT
      clear hke
      generalize lc q = ce at *
      have hlts := HBel.out.size
      have HFK := hid (fun (w' : World) (g : Goes U (fun b => Uo (fun b => U b ∨ b = w.heap.size ∨ b = w.heap.size + 1 ∨ b = w.heap.size + 2) (.slice Af q cf) b) w w') => value_field (eval key ve) ce (fun b => Uo (fun b => U b ∨ b = w.heap.size ∨ b = w.heap.size + 1 ∨ b = w.heap.size + 2) (.slice Af q cf) b) w' 0 kKey rfl (by simp [eval, Val.fields]) rfl (fun j h => absurd h (by omega)) HW0.out.1 HW0.out.2 (HV0.out.goes g))
      have HFV := hid (fun (w' : World) (g : Goes U (fun b => Uo (fun b => U b ∨ b = w.heap.size ∨ b = w.heap.size + 1 ∨ b = w.heap.size + 2) (.slice Af q cf) b) w w') => value_field (eval key ve) ce (fun b => Uo (fun b => U b ∨ b = w.heap.size ∨ b = w.heap.size + 1 ∨ b = w.heap.size + 2) (.slice Af q cf) b) w' 1 kValue rfl (by simp [eval, Val.fields]) rfl (fun j h => by obtain rfl : j = 0 := (by omega); exact kv_ne) HW0.out.1 HW0.out.2 (HV0.out.goes g))
      simp only [VC.arr, kKey, kValue] at HFK HFV
      have hown5 := HO.out
      have hgo : ∀ W : World, (∀ b, b < w.heap.size → W.heap[b]? = w.heap[b]?) → Goes U (fun b => Uo (fun b => U b ∨ b = w.heap.size ∨ b = w.heap.size + 1 ∨ b = w.heap.size + 2) (.slice Af q cf) b) w W := fun W hW => ⟨fun b hb _ => hW b hb, fun b hb hu => by
        rcases hu with (hu | hu | hu | hu) | hu
        · exact hu
        · omega
        · omega
        · omega
        · have := (hown5.lt b hu).1
          omega⟩
      have hbd : ∀ W : World, wr.heap.size ≤ W.heap.size → ∀ b, Uo (fun b => U b ∨ b = w.heap.size ∨ b = w.heap.size + 1 ∨ b = w.heap.size + 2) (.slice Af q cf) b → b < W.heap.size := fun W hW b hu => by
        rcases hu with (hu | hu | hu | hu) | hu
        · have := HU.out b hu
          omega
        · omega
        · omega
        · omega
        · have := (hown5.lt b hu).2
          omega
      have HGO := hid hgo
      have HBD := hid hbd
      clear hown5 hgo hbd
      go_wp2_with fail
      refine (HFK.out _ (HGO.out _ (fun b hb => (Below.heap_alloc _ _ _ (by omega)).trans (HBel.out.block b hb))) (HBD.out _ (by simp only [World.size_alloc]; omega))).mono ?_
      rintro e w1 ⟨ck, rfl, hb1, hvk⟩
      obtain ⟨hck1, hck2, hck3⟩ := text_cells hvk
      clear hck3
      obtain ⟨kk, bk, ngk, dgk, exk, tkk, tdk, tnk, tok, txk, abk, nbk, cbk, alk, nlk, clk, afk, nfk, cfk⟩ := ck
      simp only [] at hck1 hck2
      subst hck1 hck2
      have hs1 := hb1.size
      simp only [World.size_alloc] at hs1
      have hs1' : wr.heap.size < w1.heap.size := by omega
      have h7 : w1.heap[wr.heap.size]? = some (.cells #[.int .i64 ce.kind, .bool ce.bool, .bool ce.neg, .string ce.digits, .int .i64 ce.exp, .int .i64 ce.tkind, .int .i64 ce.day, .int .i64 ce.nano, .int .i64 ce.offset, .string ce.text, .slice ce.ab ce.nb ce.cb, .slice ce.al ce.nl ce.cl, .slice ce.af ce.nf ce.cf] 30 (0, 0)) := by rw [hb1.block _ (by simp only [World.size_alloc]; omega)]; exact heap_alloc_new ..
      have hc7 : ∀ j, w1.cell? ⟨wr.heap.size, j, none⟩ = (#[.int .i64 ce.kind, .bool ce.bool, .bool ce.neg, .string ce.digits, .int .i64 ce.exp, .int .i64 ce.tkind, .int .i64 ce.day, .int .i64 ce.nano, .int .i64 ce.offset, .string ce.text, .slice ce.ab ce.nb ce.cb, .slice ce.al ce.nl ce.cl, .slice ce.af ce.nf ce.cf] : Array Value)[j]? := fun j => cell_of_row w1 _ j _ 30 (0, 0) h7
      have HB1 := hid hb1
      clear hb1 h7 hvk
      simp only [VC.arr]
      go_wp2_with fail
      have hbl1 : ∀ b, b < wr.heap.size → w1.heap[b]? = wr.heap[b]? := fun b hb => (HB1.out.block b (by simp only [World.size_alloc]; omega)).trans (Below.heap_alloc _ _ _ hb)
      have HBL1 := hid hbl1
      clear hbl1
      refine (HFV.out _ (HGO.out _ (fun b hb => (Below.heap_alloc _ _ _ (by omega)).trans ((HBL1.out b (by omega)).trans (HBel.out.block b hb)))) (HBD.out _ (by simp only [World.size_alloc]; omega))).mono ?_
      rintro e w2 ⟨cv, rfl, hb2, hvv⟩
      have hs2 := hb2.size
      simp only [World.size_alloc] at hs2
      have h8 : w2.heap[w1.heap.size]? = some (.cells #[.int .i64 4, .bool bk, .bool ngk, .string dgk, .int .i64 exk, .int .i64 tkk, .int .i64 tdk, .int .i64 tnk, .int .i64 tok, .string txk, .slice abk nbk cbk, .slice alk nlk clk, .slice afk nfk cfk] 30 (0, 0)) := by rw [hb2.block _ (by simp only [World.size_alloc]; omega)]; exact heap_alloc_new ..
      have hc8 : ∀ j, w2.cell? ⟨w1.heap.size, j, none⟩ = (#[.int .i64 4, .bool bk, .bool ngk, .string dgk, .int .i64 exk, .int .i64 tkk, .int .i64 tdk, .int .i64 tnk, .int .i64 tok, .string txk, .slice abk nbk cbk, .slice alk nlk clk, .slice afk nfk cfk] : Array Value)[j]? := fun j => cell_of_row w2 _ j _ 30 (0, 0) h8
      have hbl2 : ∀ b, b < wr.heap.size → w2.heap[b]? = wr.heap[b]? := fun b hb => (hb2.block b (by simp only [World.size_alloc]; omega)).trans ((Below.heap_alloc _ _ _ (by omega)).trans (HBL1.out b hb))
      have ho2 : w2.heap[w.heap.size + 1]? = some (.cells #[.int .i64 7, .bool false, .bool false, .string ⟨#[]⟩, .int .i64 0, .int .i64 0, .int .i64 0, .int .i64 0, .int .i64 0, .string ⟨#[]⟩, .slice none 0 0, .slice none 0 0, .slice Af q cf] 30 (0, 0)) := (hbl2 _ (by omega)).trans HX1.out
      have hco : ∀ j, w2.cell? ⟨w.heap.size + 1, j, none⟩ = (#[.int .i64 7, .bool false, .bool false, .string ⟨#[]⟩, .int .i64 0, .int .i64 0, .int .i64 0, .int .i64 0, .int .i64 0, .string ⟨#[]⟩, .slice none 0 0, .slice none 0 0, .slice Af q cf] : Array Value)[j]? := fun j => cell_of_row w2 _ j _ 30 (0, 0) ho2
      have HB2 := hid hb2
      have HBL2 := hid hbl2
      have HO2H := hid ho2
      have H8 := hid h8
      have HVV := hid hvv
      have hmap2 : w2.ownsMap Tryz.prog 9 (plainElem Tryz.prog 3) (w.heap.size + 2) q (placeOf ((vf.take q).map (·.1))) :=
        (((HM.out.alloc _).kept (grownBy_of_below HB1.out none) (by simp)).alloc _).kept (grownBy_of_below hb2 none) (by simp)
      have hown2 : w2.ownsRow (w.heap.size + 3) 41 14 (.slice Af q cf) q (fs.flatMap fcells) := own_below ((own_below (HO.out.alloc _) HB1.out).alloc _) hb2
      have HM2 := hid hmap2
      have HO2 := hid hown2
      have hkq : keyOf Tryz.prog 9 (.string txk) = some (.string txk.data.toList) := Go.WideMaps.keyOf_string_mk Tryz.underlying9 (by unfold maxLen; omega)
      have hhas : has (placeOf ((vf.take q).map (·.1))) (.string txk.data.toList) = false := placeOf_none _ _ HNOT.out
      have hwfq : (Lit.int .i64 (q : Int)).wf = true := wf_nat q (by omega)
      have HBEL2 := hid hb2
      have hsA : w.heap.size < w2.heap.size := by omega
      obtain ⟨i0, hi, hz0, hz1, hz2⟩ := info_parts info_Field
      have hsB : w.heap.size + 1 < w2.heap.size := by omega
      have hsC : w.heap.size + 2 < w2.heap.size := by omega
      have hsD : w1.heap.size < w2.heap.size := by omega
      clear hb2 hvv h8 ho2 hbl2 hmap2 hown2 hc7
      simp only [VC.arr]
      go_wp2_with (first
        | (at_lookup; refine wpList_lookup_own_ok_int _ rfl _ _ 176 rfl 9 3 .i64 keyedS Tryz.underlying176 Tryz.underlying3 (zero_int _) (w.heap.size + 2) q _ rfl (HM2.out.alloc _) _ _ rfl hkq ?_; intro c0 hat0 hwc0; clear hat0 hwc0; rw [hhas])
        | (at_mapUpdate; refine wpList_mapUpdate_own _ rfl _ _ _ 176 rfl 9 3 keyedS Tryz.underlying176 _ (w.heap.size + 2) q _ rfl (HM2.out.alloc _) (by unfold maxLen; omega) _ _ _ rfl rfl hkq _ [] (plainElem_int Tryz.underlying3 hwfq) ?_; intro w3 hmap3 hgrow3; have hm1 := after_map hgrow3; obtain ⟨hm1, hm2, hm3⟩ := hm1; have HM1 := hid hm1; have ho3 := (hm1 (w.heap.size + 1) (by omega) (by omega)).trans HO2H.out; have h83 := (hm1 w1.heap.size (by omega) (by omega)).trans H8.out; have h103 := hm2 (by omega); have HMAP3 := hid hmap3; have HGR3 := hid hgrow3; have HO3H := hid ho3; have hco3 : ∀ j, w3.cell? ⟨w.heap.size + 1, j, none⟩ = (#[.int .i64 7, .bool false, .bool false, .string ⟨#[]⟩, .int .i64 0, .int .i64 0, .int .i64 0, .int .i64 0, .int .i64 0, .string ⟨#[]⟩, .slice none 0 0, .slice none 0 0, .slice Af q cf] : Array Value)[j]? := (fun j => cell_of_row w3 _ j _ 30 (0, 0) ho3); have hc83 : ∀ j, w3.cell? ⟨w1.heap.size, j, none⟩ = (#[.int .i64 4, .bool bk, .bool ngk, .string dgk, .int .i64 exk, .int .i64 tkk, .int .i64 tdk, .int .i64 tnk, .int .i64 tok, .string txk, .slice abk nbk cbk, .slice alk nlk clk, .slice afk nfk cfk] : Array Value)[j]? := (fun j => cell_of_row w3 _ j _ 30 (0, 0) h83); have hc103 : ∀ j, w3.cell? ⟨w2.heap.size, j, none⟩ = (#[.int .i64 cv.kind, .bool cv.bool, .bool cv.neg, .string cv.digits, .int .i64 cv.exp, .int .i64 cv.tkind, .int .i64 cv.day, .int .i64 cv.nano, .int .i64 cv.offset, .string cv.text, .slice cv.ab cv.nb cv.cb, .slice cv.al cv.nl cv.cl, .slice cv.af cv.nf cv.cf] : Array Value)[j]? := (fun j => cell_of_row w3 _ j _ 30 (0, 0) h103); have hsE : w.heap.size + 1 < w3.heap.size := (by omega); have hown3 := own_map HO2.out hgrow3 (by omega); have HOW3 := hid hown3; clear hm1 hm2 hmap3 hgrow3 ho3 h83 h103 hown3 hco hc8)
        | (at_builtin; refine wpList_append_own_at _ rfl (.tmp 61) (.tmp 66) 28 rfl (w.heap.size + 3) 41 i0 zF 14 184 Tryz.underlying28 hi hz0 hz1 hz2 rfl (by decide) (.slice Af q cf) q (fs.flatMap fcells) rfl (HOW3.out.alloc _) ⟨w3.heap.size, 0, none⟩ 1 1 [.string txk, .int .i64 cv.kind, .bool cv.bool, .bool cv.neg, .string cv.digits, .int .i64 cv.exp, .int .i64 cv.tkind, .int .i64 cv.day, .int .i64 cv.nano, .int .i64 cv.offset, .string cv.text, .slice cv.ab cv.nb cv.cb, .slice cv.al cv.nl cv.cl, .slice cv.af cv.nf cv.cf] rfl rfl (World.news_of_block (cs := #[.string txk, .int .i64 cv.kind, .bool cv.bool, .bool cv.neg, .string cv.digits, .int .i64 cv.exp, .int .i64 cv.tkind, .int .i64 cv.day, .int .i64 cv.nano, .int .i64 cv.offset, .string cv.text, .slice cv.ab cv.nb cv.cb, .slice cv.al cv.nl cv.cl, .slice cv.af cv.nf cv.cf]) (t := 41) (fr := (0, 0)) (heap_alloc_new w3 _)) (by simp [Value.oneCell']) (by unfold maxLen; omega) (by omega) (by simp; omega) ?_; intro v4 w4 hown4 hg4 hg4b hat4; obtain ⟨A4, c4, hv4, hrr4⟩ := own_row hown4; clear hrr4; subst hv4; have ho4 := out_kept HOW3.out hg4 HO3H.out hsE (by omega); have HO4H := hid ho4; have hco4 : ∀ j, w4.cell? ⟨w.heap.size + 1, j, none⟩ = (#[.int .i64 7, .bool false, .bool false, .string ⟨#[]⟩, .int .i64 0, .int .i64 0, .int .i64 0, .int .i64 0, .int .i64 0, .string ⟨#[]⟩, .slice none 0 0, .slice none 0 0, .slice Af q cf] : Array Value)[j]? := (fun j => cell_of_row w4 _ j _ 30 (0, 0) ho4); have hfo4 : ∀ j, w4.frozen? ⟨w.heap.size + 1, j, none⟩ = false := (fun j => frozen_of_row w4 _ j _ 30 ho4); have HOW4 := hid hown4; have HG4 := hid hg4; have HAT4 := hid hat4; clear hown4 hg4 hg4b hat4 ho4 hco3 hc83 hc103))
      go_wp2_with fail
      go_roundw
      case rel =>
        have hown5 := HO.out
        have hs3 := HGR3.out.size
        have hs4 := HG4.out.size
        simp only [World.size_alloc] at hs3 hs4
        have hkp : Kp (fun b => b = w.heap.size + 1 ∨ b = w.heap.size + 2 ∨ (Value.slice Af q cf).ownBlock = some b) wr (w4.setCell ⟨w.heap.size + 1, 12, none⟩ (.slice A4 (q + 1) c4)) :=
          ((((((((Kp.refl _ wr).alloc _).below HB1.out).alloc _).below HB2.out).alloc _).grown HGR3.out (fun k hk _ => by cases hk; exact .inr (.inl rfl))).alloc _ |>.grown HG4.out (fun k hk _ => .inr (.inr hk))).set _ _ (fun _ => .inl rfl)
        have hsA := hkp.size
        have hout : (w4.setCell ⟨w.heap.size + 1, 12, none⟩ (.slice A4 (q + 1) c4)).heap[w.heap.size + 1]? = some (.cells #[.int .i64 7, .bool false, .bool false, .string ⟨#[]⟩, .int .i64 0, .int .i64 0, .int .i64 0, .int .i64 0, .int .i64 0, .string ⟨#[]⟩, .slice none 0 0, .slice none 0 0, .slice A4 (q + 1) c4] 30 (0, 0)) := by
          rw [heap_setCell_same _ _ _ _ _ _ HO4H.out]
          rfl
        have hgrow : w4.grownBy (w4.setCell ⟨w.heap.size + 1, 12, none⟩ (.slice A4 (q + 1) c4)) (some (w.heap.size + 1)) := grown_set (grown_refl _ _) 12 _
        have hat : (Value.slice A4 (q + 1) c4).ownBlock = (Value.slice Af q cf).ownBlock ∨ (Value.slice A4 (q + 1) c4).ownBlock = some (w3.heap.size + 1) := by simpa using HAT4.out
        have hV : ∀ b, b < w2.heap.size → Uo (fun b => U b ∨ b = w.heap.size ∨ b = w.heap.size + 1 ∨ b = w.heap.size + 2) (.slice A4 (q + 1) c4) b → Uo (fun b => U b ∨ b = w.heap.size ∨ b = w.heap.size + 1 ∨ b = w.heap.size + 2) (.slice Af q cf) b := fun b hb hu => by
          rcases hu with hu | hu
          · exact .inl hu
          · rcases hat with h | h
            · exact .inr (h ▸ hu)
            · rw [h] at hu
              cases hu
              omega
        have hgo : Goes (Uo (fun b => U b ∨ b = w.heap.size ∨ b = w.heap.size + 1 ∨ b = w.heap.size + 2) (.slice Af q cf)) (Uo (fun b => U b ∨ b = w.heap.size ∨ b = w.heap.size + 1 ∨ b = w.heap.size + 2) (.slice A4 (q + 1) c4)) wr (w4.setCell ⟨w.heap.size + 1, 12, none⟩ (.slice A4 (q + 1) c4)) :=
          hkp.goes (fun b hb => by
            rcases hb with hb | hb | hb
            · exact .inl (.inr (.inr (.inl hb)))
            · exact .inl (.inr (.inr (.inr hb)))
            · exact .inr hb) (fun b hb hu => hV b (by omega) hu)
        have hkp2 : Kp (fun b => b = w.heap.size + 1 ∨ b = w.heap.size + 2 ∨ (Value.slice Af q cf).ownBlock = some b) w2 (w4.setCell ⟨w.heap.size + 1, 12, none⟩ (.slice A4 (q + 1) c4)) :=
          (((((Kp.refl _ w2).alloc _).grown HGR3.out (fun k hk _ => by cases hk; exact .inr (.inl rfl))).alloc _ |>.grown HG4.out (fun k hk _ => .inr (.inr hk))).set _ _ (fun _ => .inl rfl))
        have hgo2 : Goes (Uo (fun b => U b ∨ b = w.heap.size ∨ b = w.heap.size + 1 ∨ b = w.heap.size + 2) (.slice Af q cf)) (Uo (fun b => U b ∨ b = w.heap.size ∨ b = w.heap.size + 1 ∨ b = w.heap.size + 2) (.slice A4 (q + 1) c4)) w2 (w4.setCell ⟨w.heap.size + 1, 12, none⟩ (.slice A4 (q + 1) c4)) :=
          hkp2.goes (fun b hb => by
            rcases hb with hb | hb | hb
            · exact .inl (.inr (.inr (.inl hb)))
            · exact .inl (.inr (.inr (.inr hb)))
            · exact .inr hb) hV
        refine ⟨q + 1, fs ++ [(txk, cv)], .slice A4 (q + 1) c4, by omega, by go_num, ?_, by omega, ?_, hout, ?_, ?_, ?_⟩
        · refine hkp.to_below HBel.out (by omega) (fun b hb => ?_)
          rcases hb with hb | hb | hb
          · omega
          · omega
          · have := (hown5.lt b hb).1
            omega
        · rw [hkp.block _ (by omega) (fun h => by
            rcases h with h | h | h
            · omega
            · omega
            · have := (hown5.lt _ h).1
              omega)]
          exact HX0.out
        · rw [HTK.out, List.map_append]
          have hl : ((vf.take q).map (·.1)).length = q := by simp; omega
          have e : placeOf ((vf.take q).map (·.1) ++ [(txk, ve)].map (·.1)) = (placeOf ((vf.take q).map (·.1))).put (.string txk.data.toList) (.lit (.int .i64 (q : Int))) := by
            have h := placeOf_snoc ((vf.take q).map (·.1)) txk
            rw [hl] at h
            exact h
          rw [e]
          refine ((HMAP3.out.alloc _).kept HG4.out ?_).kept hgrow (by simp)
          intro h
          have := (hown5.lt _ h.symm).1
          omega
        · refine (?_ : w4.ownsRow (w.heap.size + 3) 41 14 (.slice A4 (q + 1) c4) (q + 1) ((fs ++ [(txk, cv)]).flatMap fcells)).kept hgrow ?_
          · simpa [List.flatMap_append, fcells, VC.arr] using HOW4.out
          · right
            intro h
            have := (HOW4.out.lt _ h).1
            omega
        · rw [HTK.out]
          exact (HFR.out.goes hgo).snoc (HVV.out.goes hgo2)
      case measure => simp [intOf]; omega
    · obtain rfl : q = n := by omega
      have hown5 := HO.out
      obtain ⟨hqn, A2, c2, hfv2, hrow⟩ := own_fields hown5
      obtain ⟨rfl, _, rfl⟩ := Value.slice.inj hfv2
      have hrow2 := hrow (fun b => U b ∨ b = w.heap.size ∨ b = w.heap.size + 1 ∨ b = w.heap.size + 2) (fun k hk hu => by
        have := (hown5.lt k hk).1
        rcases hu with hu | hu | hu | hu
        · have := HU.out k hu
          omega
        · omega
        · omega
        · omega)
      have hfr2 := HFR.out
      rw [List.take_of_length_le (by omega)] at hfr2
      have hvr : VR (fun b => U b ∨ b = w.heap.size ∨ b = w.heap.size + 1 ∨ b = w.heap.size + 2) wr ⟨7, false, false, ⟨#[]⟩, 0, 0, 0, 0, 0, ⟨#[]⟩, none, 0, 0, none, 0, 0, Af, q, cf⟩ (.mk 7 false zD zT ⟨#[]⟩ [] [] vf) :=
        VR.build _ _ [] fs ⟨rfl, rfl, rfl, rfl, rfl, rfl, rfl, rfl, rfl, rfl⟩ (RowAt.nil ..) (RowAt.nil ..) (VRL.nil ..) hrow2 (hfr2.goes ⟨fun _ _ _ => rfl, fun _ _ h => .inl h⟩)
      have HVR := hid hvr
      have hco : ∀ j, wr.cell? ⟨w.heap.size + 1, j, none⟩ = (#[.int .i64 7, .bool false, .bool false, .string ⟨#[]⟩, .int .i64 0, .int .i64 0, .int .i64 0, .int .i64 0, .int .i64 0, .string ⟨#[]⟩, .slice none 0 0, .slice none 0 0, .slice Af q cf] : Array Value)[j]? := fun j => cell_of_row wr _ j _ 30 (0, 0) HX1.out
      have hcy : ∀ j, wr.cell? ⟨w.heap.size, j, none⟩ = zV.cells[j]? := fun j => cell_of_row wr _ j _ _ _ HX0.out
      have hfy : ∀ j, wr.frozen? ⟨w.heap.size, j, none⟩ = false := fun j => frozen_of_row wr _ j _ _ HX0.out
      have HCY := hid hcy
      have HFY := hid hfy
      clear hrow hown5 HO hqn hfv2 hrow2 hfr2 hvr hcy hfy
      simp only [VC.arr] at HVD
      go_wp2_with fail
      refine (HVD.out ⟨7, false, false, ⟨#[]⟩, 0, 0, 0, 0, 0, ⟨#[]⟩, none, 0, 0, none, 0, 0, Af, q, cf⟩ wr HVR.out (fun b hb => ?_)).mono ?_
      · rcases hb with hb | hb | hb | hb
        · have := HU.out b hb
          have := HBel.out.size
          omega
        · omega
        · omega
        · omega
      rintro e w1 ⟨c1, rfl, hb1, hv'⟩
      have HB1 := hid hb1
      have HV' := hid hv'
      have hcy : ∀ j, w1.cell? ⟨w.heap.size, j, none⟩ = zV.cells[j]? := fun j => (hb1.cell (p := ⟨w.heap.size, j, none⟩) (show w.heap.size < wr.heap.size by omega)).trans (HCY.out j)
      have hfz : ∀ j, w1.frozen? ⟨w.heap.size, j, none⟩ = false := fun j => (hb1.frozen (p := ⟨w.heap.size, j, none⟩) (show w.heap.size < wr.heap.size by omega)).trans (HFY.out j)
      clear hb1 hv' hco
      simp only [zV, Value.cells] at hcy
      simp only [VC.arr]
      go_wp2_with fail
      refine bodyPost_ret (v := .tuple #[.agg #[.int .i64 c1.kind, .bool c1.bool, .bool c1.neg, .string c1.digits, .int .i64 c1.exp, .int .i64 c1.tkind, .int .i64 c1.day, .int .i64 c1.nano, .int .i64 c1.offset, .string c1.text, .slice c1.ab c1.nb c1.cb, .slice c1.al c1.nl c1.cl, .slice c1.af c1.nf c1.cf], .int .i64 0]) (by simp [results, Tryz.results88, go_sem, hcy]) rfl ⟨c1, rfl, ?_, ?_⟩
      · have hbb := HBel.out.trans (HB1.out.mono (by omega))
        repeat (first | (with_reducible refine Below.setCell ?_ (by simp only []; omega) _) | (with_reducible exact hbb))
      · have hg : Goes (fun b => U b ∨ b = w.heap.size ∨ b = w.heap.size + 1 ∨ b = w.heap.size + 2) U w1 w1 := ⟨fun _ _ _ => rfl, fun _ _ h => .inl h⟩
        refine HV'.out.goes ?_
        repeat (first | (with_reducible refine Goes.setCell ?_ (by simp) _) | (with_reducible exact hg))
end Go.Proofs.YtaeclmligojlaaaGreatDoor.D

/- Apply "from_entries" of the list that "to_entries" makes of a map. Conditions: sizes within the limits; the table strings.asciiSpace as laid. -/
namespace Go.Proofs.YtaeclmligojlaaaGreatDoor.D
open Go.RowKit

set_option maxRecDepth 100000 in
set_option maxHeartbeats 4000000 in
theorem lists_from (vf : List (ByteArray × Val)) (U : Nat → Prop) (A : Option Addr) (n cp : Nat) (lc : Nat → VC) (w : World) (hkeys : KeysOk vf) (hfok : ∀ i (h : i < vf.length), OkV vf[i].2) (hd : Val.deepF vf ≤ 46) (hn : Val.cntF vf ≤ 150) (hw : Val.weightF vf ≤ 2000000000)
    (hr : RowAt U w A n vf.length 13 (fun i => (lc i).cell)) (hv : ∀ i (h : i < vf.length), VR U w (lc i) (eval vf[i].1 vf[i].2)) (hU : ∀ b, U b → b < w.heap.size) :
    Calls Tryz.prog 24 #[.string ⟨#[102, 114, 111, 109, 95, 101, 110, 116, 114, 105, 101, 115]⟩, .slice A n cp] w (ValEnd (.mk 7 false zD zT ⟨#[]⟩ [] [] vf) U w) := by
  have hgo : Goes U (fun b => U b ∨ b = w.heap.size) w (w.alloc (.cells zV.cells 30)) := ⟨fun b hb _ => Below.heap_alloc _ _ _ hb, fun b hb h => by rcases h with h | h; exact h; omega⟩
  have HC := hid (builtin_entries vf (fun b => U b ∨ b = w.heap.size) A n cp lc (w.alloc (.cells zV.cells 30)) hkeys hfok hd hn hw (hr.goes hgo) (fun i h => (hv i h).goes hgo) (fun b hb => by
    simp only [World.size_alloc]
    rcases hb with hb | hb
    · have := hU b hb
      omega
    · omega))
  clear hkeys hfok hd hn hw hr hv hU hgo
  unfold zV Value.cells at HC
  simp only [] at HC
  go_enter Tryz.func24, Tryz.ntmps24
  go_wp2_with fail
  refine HC.out.mono ?_
  rintro e w1 ⟨c', rfl, hb1, hv'⟩
  obtain ⟨hcy, hfy, hsz, hbel⟩ := made_value1 w hb1
  have HB1 := hid hbel
  have HV' := hid hv'
  clear hb1 hv' hbel
  simp only [zV, Value.cells] at hcy
  simp only [VC.arr]
  go_wp2_with fail
  refine bodyPost_ret (v := .tuple #[.agg #[.int .i64 c'.kind, .bool c'.bool, .bool c'.neg, .string c'.digits, .int .i64 c'.exp, .int .i64 c'.tkind, .int .i64 c'.day, .int .i64 c'.nano, .int .i64 c'.offset, .string c'.text, .slice c'.ab c'.nb c'.cb, .slice c'.al c'.nl c'.cl, .slice c'.af c'.nf c'.cf], .int .i64 0]) (by simp [results, Tryz.results24, go_sem, hcy]) rfl ⟨c', rfl, ?_, ?_⟩
  · have hbb := HB1.out
    repeat (first | (with_reducible refine Below.setCell ?_ (by simp only []; omega) _) | (with_reducible exact hbb))
  · have hg : Goes (fun b => U b ∨ b = w.heap.size) U w1 w1 := ⟨fun _ _ _ => rfl, fun _ _ h => .inl h⟩
    refine HV'.out.goes ?_
    repeat (first | (with_reducible refine Goes.setCell ?_ (by simp) _) | (with_reducible exact hg))

set_option maxRecDepth 100000 in
set_option maxHeartbeats 4000000 in
theorem apply_from (vf : List (ByteArray × Val)) (c : VC) (U : Nat → Prop) (w : World) (ht : Tab w) (hkeys : KeysOk vf) (hfok : ∀ i (h : i < vf.length), OkV vf[i].2) (hd : Val.deepF vf ≤ 46) (hn : Val.cntF vf ≤ 150) (hw : Val.weightF vf ≤ 2000000000) (hv : VR U w c (lval (entriesOf vf))) (hU : ∀ b, U b → b < w.heap.size) :
    Calls Tryz.prog 7 #[.string ⟨#[102, 114, 111, 109, 95, 101, 110, 116, 114, 105, 101, 115]⟩, .agg c.arr, .slice none 0 0] w (ValEnd (.mk 7 false zD zT ⟨#[]⟩ [] [] vf) U w) := by
  have hk : c.kind = 6 := by obtain ⟨_, _, lc, fc, hk, _⟩ := hv; exact hk
  have hle : (lval (entriesOf vf)).list = vf.map (fun x => eval x.1 x.2) := rfl
  obtain ⟨lc, hl, hl'⟩ : ∃ lc : Nat → VC, RowAt U w c.al c.nl vf.length 13 (fun i => (lc i).cell) ∧ ∀ i (h : i < vf.length), VR U w (lc i) (eval vf[i].1 vf[i].2) := by
    obtain ⟨_, _, lc, fc, _, hbo, hn_, hdg, he, ht0, ht1, ht2, ht3, htx, hb, hl, hl', hf, hf'⟩ := hv
    refine ⟨lc, by simpa [hle] using hl, fun i h => ?_⟩
    have := hl' i (by simpa [hle] using h)
    simpa [hle] using this
  have HP := hid (fun (w' : World) (g : Goes U (fun b => U b ∨ b = w.heap.size ∨ b = w.heap.size + 1) w w') => lists_from vf (fun b => U b ∨ b = w.heap.size ∨ b = w.heap.size + 1) c.al c.nl c.cl lc w' hkeys hfok hd hn hw (hl.goes g) (fun i h => (hl' i h).goes g))
  have HA := hid (fun (w' : World) (h : Tab w') => arity_name ⟨#[102, 114, 111, 109, 95, 101, 110, 116, 114, 105, 101, 115]⟩ w' h names_from (.inr rfl))
  have HT := hid ht
  have HU := hid hU
  clear ht hkeys hfok hd hn hw hv hU hl hl' hle
  obtain ⟨k, b, ng, dg, ex, tk, td, tn, to_, tx, ab, nb, cb, al, nl, cl, af, nf, cf⟩ := c
  obtain rfl : k = 6 := hk
  simp only [VC.arr] at HP ⊢
  go_enter Tryz.func7, Tryz.ntmps7
  go_wp2_with fail
  refine (HA.out _ (HT.out.below (below2' _ _ _))).mono ?_
  rintro e w1 ⟨rfl, hb1⟩
  have hx1 : w1.heap[w.heap.size]? = some (.cells #[.int .i64 6, .bool b, .bool ng, .string dg, .int .i64 ex, .int .i64 tk, .int .i64 td, .int .i64 tn, .int .i64 to_, .string tx, .slice ab nb cb, .slice al nl cl, .slice af nf cf] 30 (0, 0)) := by rw [hb1.block _ (by simp only [World.size_alloc]; omega)]; exact heap_alloc2_old ..
  have hcx : ∀ j, w1.cell? ⟨w.heap.size, j, none⟩ = (#[.int .i64 6, .bool b, .bool ng, .string dg, .int .i64 ex, .int .i64 tk, .int .i64 td, .int .i64 tn, .int .i64 to_, .string tx, .slice ab nb cb, .slice al nl cl, .slice af nf cf] : Array Value)[j]? := fun j => cell_of_row w1 w.heap.size j _ 30 (0, 0) hx1
  obtain ⟨hcy, hfy, hsz, hbel⟩ := made_value_at (w.alloc _) (w.heap.size + 1) (by simp only [World.size_alloc]) hb1
  have HB1 : Hid (Below w.heap.size w w1) := hid (((Below.refl _ _).alloc (Nat.le_refl _) _).trans (hbel.mono (by omega)))
  have HY := hid hcy
  have HFY := hid hfy
  clear hb1 hbel hx1 hcy hfy
  go_wp2_with fail
  refine (HP.out _ ⟨fun b hb _ => HB1.out.block b hb, fun b hb h => ?_⟩ (fun b hb => ?_)).mono ?_
  · rcases h with h | h | h
    · exact h
    · omega
    · omega
  · rcases hb with hb | hb | hb
    · have := HU.out b hb
      omega
    · omega
    · omega
  rintro e w2 ⟨c', rfl, hb2, hv2⟩
  have hcy : ∀ j, w2.cell? ⟨w.heap.size + 1, j, none⟩ = zV.cells[j]? := fun j => (hb2.cell (p := ⟨w.heap.size + 1, j, none⟩) hsz).trans (HY.out j)
  have hfy : ∀ j, w2.frozen? ⟨w.heap.size + 1, j, none⟩ = false := fun j => (hb2.frozen (p := ⟨w.heap.size + 1, j, none⟩) hsz).trans (HFY.out j)
  have HB2 := hid hb2
  have HV' := hid hv2
  clear hb2 hv2 hcx
  simp only [zV, Value.cells] at hcy
  simp only [VC.arr]
  go_wp2_with fail
  refine bodyPost_ret (v := .tuple #[.agg #[.int .i64 c'.kind, .bool c'.bool, .bool c'.neg, .string c'.digits, .int .i64 c'.exp, .int .i64 c'.tkind, .int .i64 c'.day, .int .i64 c'.nano, .int .i64 c'.offset, .string c'.text, .slice c'.ab c'.nb c'.cb, .slice c'.al c'.nl c'.cl, .slice c'.af c'.nf c'.cf], .int .i64 0]) (by simp [results, Tryz.results7, go_sem, hcy]) rfl ⟨c', rfl, ?_, ?_⟩
  · have hbb := HB1.out.trans (HB2.out.mono (by omega))
    repeat (first | (with_reducible refine Below.setCell ?_ (by simp only []; omega) _) | (with_reducible exact hbb))
  · have hg : Goes (fun b => U b ∨ b = w.heap.size ∨ b = w.heap.size + 1) U w2 w2 := ⟨fun _ _ _ => rfl, fun _ _ h => .inl h⟩
    refine HV'.out.goes ?_
    repeat (first | (with_reducible refine Goes.setCell ?_ (by simp) _) | (with_reducible exact hg))
end Go.Proofs.YtaeclmligojlaaaGreatDoor.D
