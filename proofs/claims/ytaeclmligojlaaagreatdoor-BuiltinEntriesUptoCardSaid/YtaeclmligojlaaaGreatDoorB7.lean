/- value.Field of a map, at a key that it has; value.Bool; builtin.has of a map and a string. Conditions: sizes within the limits. | builtin.has, and Apply "has", of a map and a key that it has: true. Conditions: sizes within the limits. | builtin.entry: a map of a key and a value. Conditions: none. | builtin.parts, at "to_entries", of a map: a list of maps of a key and a value. Conditions: sizes within the limits. -/
import Derived.Test.YtaeclmligojlaaaGreatDoorB5
import Derived.Deep.RegionHeld3
/- value.Field of a map, at a key that it has; value.Bool; builtin.has of a map and a string. Conditions: sizes within the limits. -/
namespace Go.Proofs.YtaeclmligojlaaaGreatDoor.D
open Go.RowKit

theorem bytes_ne {a b : ByteArray} (h : a ≠ b) : (a.toList == b.toList) = false := by
  rw [beq_eq_false_iff_ne, ByteArray.toList_eq, ByteArray.toList_eq]
  exact fun e => h (ByteArray.ext (Array.toList_inj.1 e))
def FieldEnd (v : Val) (U : Nat → Prop) (w : World) (e : Ending) (w' : World) : Prop := ∃ c' : VC, e = .returned (.tuple #[.agg c'.arr, .bool true]) ∧ Below w.heap.size w w' ∧ VR U w' c' v

set_option maxRecDepth 100000 in
set_option maxHeartbeats 4000000 in
theorem value_field (v : Val) (c : VC) (U : Nat → Prop) (w : World) (i : Nat) (key : ByteArray) (hk7 : v.kind = 7) (hi : i < v.fields.length) (hkey : v.fields[i].1 = key) (hne : ∀ j (h : j < i), (v.fields[j]'(by omega)).1 ≠ key) (hw : v.weight ≤ 4294967296) (hd : v.deep ≤ 65536) (hv : VR U w c v) (hU : ∀ b, U b → b < w.heap.size) :
    Calls Tryz.prog 112 #[.agg c.arr, .string key] w (FieldEnd v.fields[i].2 U w) := by
  have hdp := Val.deep_eq v
  obtain ⟨_, _, lc, fc, hk, hbo, hn, hdg, he, ht0, ht1, ht2, ht3, htx, hb, hl, hl', hf, hf'⟩ := hv
  obtain ⟨k, b, ng, dg, ex, tk, td, tn, to_, tx, ab, nb, cb, al, nl, cl, af, nf, cf⟩ := c
  obtain ⟨vk, vb, vn, vt, vx, vbs, vl, vf⟩ := v
  simp only [Val.kind, Val.bool, Val.num, Val.time, Val.text, Val.bytes, Val.list, Val.fields, Val.weight] at *
  subst hk7
  have hi' : i < vf.length := hi
  have hnf : nf ≤ vf.length := Nat.le_of_eq hf.1
  have hnf' : vf.length ≤ nf := Nat.le_of_eq hf.1.symm
  have hmx := hf.2.1
  have HF := hid hf
  have HU := hid hU
  have HNE := hid hne
  have HKEY := hid hkey
  have hwi := (Val.weightF_get vf).2 i hi
  have hdi := Val.deepF_get vf i hi
  have HP := hid (fun (w' : World) (g : Goes U U w w') => copied_any vf[i].2.deep vf[i].2 (fc i) (fun b => U b ∨ b = w.heap.size ∨ b = w.heap.size + 1) 65536 w' (Nat.le_refl _) (by omega) (by omega) (by decide))
  have HV := hid (hf' i hi)
  obtain rfl : k = 7 := hk
  clear hbo hn hdg he ht0 ht1 ht2 ht3 htx hb hl hl' hf hf' hU hne hkey hdp hw hd hwi hdi
  simp only [VC.arr] at HP ⊢
  go_enter Tryz.func112, Tryz.ntmps112
  go_wp2_with fail
  go_loopw [11] (fun iv wr => ∃ q : Nat, q ≤ i ∧ iv = .int .i64 q ∧ Below w.heap.size w wr ∧ w.heap.size + 2 ≤ wr.heap.size ∧
      wr.heap[w.heap.size]? = some (.cells #[.int .i64 7, .bool b, .bool ng, .string dg, .int .i64 ex, .int .i64 tk, .int .i64 td, .int .i64 tn, .int .i64 to_, .string tx, .slice ab nb cb, .slice al nl cl, .slice af nf cf] 30 (0, 0)) ∧
      wr.heap[w.heap.size + 1]? = some (.cells zV.cells 30 (0, 0)))
    (fun iv _ => nf - (intOf iv).toNat)
  case atStart => exact ⟨0, Nat.zero_le _, rfl, ((Below.refl _ _).alloc (Nat.le_refl _) _).alloc (by simp) _, by simp, heap_alloc2_old .., heap_alloc2_new ..⟩
  case round =>
    obtain ⟨q, hq, rfl, hbel, hsz, hx1, hx2⟩ := hrel
    have HBel := hid hbel
    have HX1 := hid hx1
    have HX2 := hid hx2
    have hcx : ∀ j, wr.cell? ⟨w.heap.size, j, none⟩ = (#[.int .i64 7, .bool b, .bool ng, .string dg, .int .i64 ex, .int .i64 tk, .int .i64 td, .int .i64 tn, .int .i64 to_, .string tx, .slice ab nb cb, .slice al nl cl, .slice af nf cf] : Array Value)[j]? := fun j => cell_of_row wr w.heap.size j _ 30 (0, 0) hx1
    clear hbel hx1 hx2
    obtain ⟨b0, o0, hal, hb0, hu0, hcell⟩ := HF.out.2.2 (by omega)
    subst hal
    have hqf : q < vf.length := by omega
    have hcq : ∀ j, j < 14 → wr.cell? ⟨b0, o0 + q * 14 + j, none⟩ = some (fcell (vf[q]'hqf).1 (fc q) j) := fun j hj => by
      rw [HBel.out.cell hb0]
      have := hcell q (by omega) j hj
      simpa [hqf] using this
    obtain ⟨g0, g1, g2, g3, g4, g5, g6, g7, g8, g9, g10, g11, g12, g13⟩ := field_cells hcq
    clear hcq hcell
    have hlt : (q : Int) < nf := by omega
    have hs3 : w.heap.size < wr.heap.size := by omega
    by_cases hqi : q < i
    · have hkq : ((vf[q]'hqf).1.toList == key.toList) = false := bytes_ne (HNE.out q hqi)
      generalize (vf[q]'hqf).1 = kq at *
      generalize fc q = ce at *
      go_wp2_with fail
      go_roundw
      case rel =>
        refine ⟨q + 1, by omega, by go_num, HBel.out.alloc (by omega) _, by simp; omega, ?_, ?_⟩
        · rw [Below.heap_alloc _ _ _ (by omega)]; exact HX1.out
        · rw [Below.heap_alloc _ _ _ (by omega)]; exact HX2.out
      case measure => simp [intOf]; omega
    · obtain rfl : q = i := by omega
      have hkq : (vf[q]'hqf).1 = key := HKEY.out
      rw [hkq] at g0
      have hcy : ∀ j, wr.cell? ⟨w.heap.size + 1, j, none⟩ = zV.cells[j]? := fun j => cell_of_row wr (w.heap.size + 1) j _ 30 (0, 0) HX2.out
      have hfy : ∀ j, wr.frozen? ⟨w.heap.size + 1, j, none⟩ = false := fun j => frozen_of_row wr (w.heap.size + 1) j _ _ HX2.out
      have HCY := hid hcy
      have HFY := hid hfy
      clear hkq HNE HKEY hcy hfy
      generalize hve : (vf[q]'hqf).2 = ve at *
      generalize fc q = ce at *
      go_wp2_with fail
      refine (HP.out _ (Goes.below (HBel.out.alloc (by omega) _)) (HV.out.goes ⟨fun b hb _ => ?_, fun b hb h => ?_⟩) (fun b hb => ?_)).mono ?_
      · exact (Below.heap_alloc _ _ _ (by omega)).trans (HBel.out.block b hb)
      · rcases h with h | h | h
        · exact h
        · omega
        · omega
      · simp only [World.size_alloc]
        rcases hb with hb | hb | hb
        · have := HU.out b hb
          omega
        · omega
        · omega
      rintro e w1 ⟨c', rfl, hb1, hv'⟩
      have hs1 := hb1.size
      simp only [World.size_alloc] at hs1
      have hcy : ∀ j, w1.cell? ⟨w.heap.size + 1, j, none⟩ = zV.cells[j]? := fun j => (World.cell?_of_block ((hb1.block (w.heap.size + 1) (by simp only [World.size_alloc]; omega)).trans (Below.heap_alloc _ _ (w.heap.size + 1) (by omega)))).trans (HCY.out j)
      have hfy : ∀ j, w1.frozen? ⟨w.heap.size + 1, j, none⟩ = false := fun j => by
        have h1 := (hb1.block (w.heap.size + 1) (by simp only [World.size_alloc]; omega)).trans (Below.heap_alloc wr _ _ (by omega))
        have h2 := HFY.out j
        simp only [World.frozen?, h1] at h2 ⊢
        exact h2
      have HB1 : Hid (Below w.heap.size w w1) := hid ((HBel.out.alloc (by omega) _).trans (hb1.mono (by simp only [World.size_alloc]; omega)))
      have HV' := hid hv'
      clear hb1 hv' hcx
      simp only [zV, Value.cells] at hcy
      go_wp2_with fail
      refine bodyPost_ret (v := .tuple #[.agg #[.int .i64 c'.kind, .bool c'.bool, .bool c'.neg, .string c'.digits, .int .i64 c'.exp, .int .i64 c'.tkind, .int .i64 c'.day, .int .i64 c'.nano, .int .i64 c'.offset, .string c'.text, .slice c'.ab c'.nb c'.cb, .slice c'.al c'.nl c'.cl, .slice c'.af c'.nf c'.cf], .bool true]) (by simp [results, Tryz.results112, go_sem, hcy]) rfl ⟨c', rfl, ?_, ?_⟩
      · repeat (first | (with_reducible refine Below.setCell ?_ (by simp only []; omega) _) | (with_reducible exact HB1.out))
      · have hg : Goes (fun b => U b ∨ b = w.heap.size ∨ b = w.heap.size + 1) U w1 w1 := ⟨fun _ _ _ => rfl, fun _ _ h => .inl h⟩
        have hvv := HV'.out
        rw [← hve] at hvv
        refine hvv.goes ?_
        repeat (first | (with_reducible refine Goes.setCell ?_ (by simp) _) | (with_reducible exact hg))

def bvc (b : Bool) : VC := ⟨1, b, false, ⟨#[]⟩, 0, 0, 0, 0, 0, ⟨#[]⟩, none, 0, 0, none, 0, 0, none, 0, 0⟩
theorem value_bool (b : Bool) (w : World) : Calls Tryz.prog 19 #[.bool b] w fun e w' => e = .returned (.agg (bvc b).arr) ∧ Below w.heap.size w w' := by
  unfold bvc VC.arr
  go_enter Tryz.func19, Tryz.ntmps19
  go_wp2
  exact bodyPost_ret (v := .agg #[.int .i64 1, .bool b, .bool false, .string ⟨#[]⟩, .int .i64 0, .int .i64 0, .int .i64 0, .int .i64 0, .int .i64 0, .string ⟨#[]⟩, .slice none 0 0, .slice none 0 0, .slice none 0 0]) (by simp [results, Tryz.results19, go_sem]) rfl ⟨rfl, (Below.refl _ _).alloc (Nat.le_refl _) _⟩
end Go.Proofs.YtaeclmligojlaaaGreatDoor.D

/- builtin.has, and Apply "has", of a map and a key that it has: true. Conditions: sizes within the limits. -/
namespace Go.Proofs.YtaeclmligojlaaaGreatDoor.D
open Go.RowKit

def HasEnd (w : World) (e : Ending) (w' : World) : Prop := e = .returned (.tuple #[.agg (bvc true).arr, .int .i64 0]) ∧ Below w.heap.size w w'

set_option maxRecDepth 100000 in
set_option maxHeartbeats 4000000 in
theorem builtin_has (v : Val) (c : VC) (U : Nat → Prop) (w : World) (i : Nat) (key : ByteArray) (hk7 : v.kind = 7) (hi : i < v.fields.length) (hkey : v.fields[i].1 = key) (hne : ∀ j (h : j < i), (v.fields[j]'(by omega)).1 ≠ key) (hw : v.weight ≤ 4294967296) (hd : v.deep ≤ 65536) (hv : VR U w c v) (hU : ∀ b, U b → b < w.heap.size) :
    Calls Tryz.prog 47 #[.agg c.arr, .agg (tvc key).arr] w (HasEnd w) := by
  have hk : c.kind = 7 := by obtain ⟨_, _, lc, fc, hk, _⟩ := hv; rw [hk]; exact hk7
  have HC := hid (fun (w' : World) (g : Goes U U w w') (hu : ∀ b, U b → b < w'.heap.size) => value_field v c U w' i key hk7 hi hkey hne hw hd (hv.goes g) hu)
  have HU := hid hU
  obtain ⟨k, b, ng, dg, ex, tk, td, tn, to_, tx, ab, nb, cb, al, nl, cl, af, nf, cf⟩ := c
  obtain rfl : k = 7 := hk
  clear hk7 hkey hne hw hd hv hU
  unfold HasEnd bvc
  simp only [VC.arr, tvc] at HC ⊢
  go_enter Tryz.func47, Tryz.ntmps47
  go_wp2_with fail
  refine (HC.out _ ⟨fun b hb _ => ?_, fun _ _ h => h⟩ (fun b hu => ?_)).mono ?_
  · exact (Below.heap_alloc _ _ _ (by simp only [World.size_alloc]; omega)).trans ((Below.heap_alloc _ _ _ (by simp only [World.size_alloc]; omega)).trans (Below.heap_alloc _ _ _ hb))
  · have := HU.out b hu
    simp only [World.size_alloc]; omega
  rintro e w1 ⟨c', rfl, hb1, _⟩
  obtain ⟨hcy, hfy, hsz, hbel⟩ := made_value_at _ (w.heap.size + 2) (by simp only [World.size_alloc]) hb1
  have HB1 : Hid (Below w.heap.size w w1) := hid ((((Below.refl _ _).alloc (Nat.le_refl _) _).alloc (by simp) _).trans (hbel.mono (by omega)))
  have HY := hid hcy
  have HFY := hid hfy
  clear hb1 hbel hcy hfy
  simp only [VC.arr]
  go_wp2_with fail
  refine (value_bool true _).mono ?_
  rintro e w2 ⟨rfl, hb2⟩
  have hs2 := hb2.size
  simp only [World.size_alloc] at hs2
  have hcy : ∀ j, w2.cell? ⟨w.heap.size + 2, j, none⟩ = zV.cells[j]? := fun j => (World.cell?_of_block ((hb2.block (w.heap.size + 2) (by simp only [World.size_alloc]; omega)).trans (Below.heap_alloc _ _ (w.heap.size + 2) hsz))).trans (HY.out j)
  have hfy : ∀ j, w2.frozen? ⟨w.heap.size + 2, j, none⟩ = false := fun j => by
    have h1 := (hb2.block (w.heap.size + 2) (by simp only [World.size_alloc]; omega)).trans (Below.heap_alloc w1 _ _ hsz)
    have h2 := HFY.out j
    simp only [World.frozen?, h1] at h2 ⊢
    exact h2
  have HB2 : Hid (Below w.heap.size w w2) := hid ((HB1.out.alloc (by omega) _).trans (hb2.mono (by simp only [World.size_alloc]; omega)))
  clear hb2
  simp only [zV, Value.cells] at hcy
  unfold bvc VC.arr
  go_wp2_with fail
  refine bodyPost_ret (v := .tuple #[.agg #[.int .i64 1, .bool true, .bool false, .string ⟨#[]⟩, .int .i64 0, .int .i64 0, .int .i64 0, .int .i64 0, .int .i64 0, .string ⟨#[]⟩, .slice none 0 0, .slice none 0 0, .slice none 0 0], .int .i64 0]) (by simp [results, Tryz.results47, go_sem, hcy]) rfl ⟨rfl, ?_⟩
  repeat (first | (with_reducible refine Below.setCell ?_ (by simp only []; omega) _) | (with_reducible exact HB2.out))

theorem arity_has (w : World) : Calls Tryz.prog 13 #[.string ⟨#[104, 97, 115]⟩] w fun e w' => e = .returned (.tuple #[.int .i64 1, .bool true]) ∧ w = w' := by
  go_enter Tryz.func13, Tryz.ntmps13
  go_wp2
  go_ret2
  exact ⟨rfl, rfl⟩

set_option maxRecDepth 100000 in
set_option maxHeartbeats 4000000 in
theorem unary_has (v : Val) (c : VC) (U : Nat → Prop) (w : World) (i : Nat) (key : ByteArray) (hk7 : v.kind = 7) (hi : i < v.fields.length) (hkey : v.fields[i].1 = key) (hne : ∀ j (h : j < i), (v.fields[j]'(by omega)).1 ≠ key) (hw : v.weight ≤ 4294967296) (hd : v.deep ≤ 65536) (hv : VR U w c v) (hU : ∀ b, U b → b < w.heap.size) :
    Calls Tryz.prog 14 #[.string ⟨#[104, 97, 115]⟩, .agg c.arr, .agg (tvc key).arr] w (HasEnd w) := by
  have HC := hid (fun (w' : World) (g : Goes U U w w') (hu : ∀ b, U b → b < w'.heap.size) => builtin_has v c U w' i key hk7 hi hkey hne hw hd (hv.goes g) hu)
  have HU := hid hU
  clear hk7 hkey hne hw hd hv hU hi
  unfold HasEnd bvc at *
  simp only [VC.arr, tvc] at HC ⊢
  go_enter Tryz.func14, Tryz.ntmps14
  go_wp2_with fail
  refine (HC.out _ ⟨fun b hb _ => ?_, fun _ _ h => h⟩ (fun b hu => ?_)).mono ?_
  · exact (Below.heap_alloc _ _ _ (by simp only [World.size_alloc]; omega)).trans ((Below.heap_alloc _ _ _ (by simp only [World.size_alloc]; omega)).trans (Below.heap_alloc _ _ _ hb))
  · have := HU.out b hu
    simp only [World.size_alloc]; omega
  rintro e w1 ⟨rfl, hb1⟩
  obtain ⟨hcy, hfy, hsz, hbel⟩ := made_value_at _ (w.heap.size + 2) (by simp only [World.size_alloc]) hb1
  have HB1 : Hid (Below w.heap.size w w1) := hid ((((Below.refl _ _).alloc (Nat.le_refl _) _).alloc (by simp) _).trans (hbel.mono (by omega)))
  clear hb1 hbel
  simp only [zV, Value.cells] at hcy
  go_wp2_with fail
  refine bodyPost_ret (v := .tuple #[.agg #[.int .i64 1, .bool true, .bool false, .string ⟨#[]⟩, .int .i64 0, .int .i64 0, .int .i64 0, .int .i64 0, .int .i64 0, .string ⟨#[]⟩, .slice none 0 0, .slice none 0 0, .slice none 0 0], .int .i64 0]) (by simp [results, Tryz.results14, go_sem, hcy]) rfl ⟨rfl, ?_⟩
  repeat (first | (with_reducible refine Below.setCell ?_ (by simp only []; omega) _) | (with_reducible exact HB1.out))

set_option maxRecDepth 100000 in
set_option maxHeartbeats 4000000 in
theorem apply_has (v : Val) (c : VC) (U : Nat → Prop) (ba : Nat) (w : World) (i : Nat) (key : ByteArray) (hk7 : v.kind = 7) (hi : i < v.fields.length) (hkey : v.fields[i].1 = key) (hne : ∀ j (h : j < i), (v.fields[j]'(by omega)).1 ≠ key) (hw : v.weight ≤ 4294967296) (hd : v.deep ≤ 65536) (hv : VR U w c v) (hU : ∀ b, U b → b < w.heap.size)
    (hba : ba < w.heap.size) (ha : ∀ j, j < 13 → w.cell? ⟨ba, j, none⟩ = some ((tvc key).cell j)) :
    Calls Tryz.prog 7 #[.string ⟨#[104, 97, 115]⟩, .agg c.arr, .slice (some ⟨ba, 0, none⟩) 1 1] w (HasEnd w) := by
  have HJ := hid (fun (w' : World) (g : Goes U U w w') (hu : ∀ b, U b → b < w'.heap.size) => unary_has v c U w' i key hk7 hi hkey hne hw hd (hv.goes g) hu)
  have HU := hid hU
  have hc : ∀ j, j < 13 → w.cell? ⟨ba, 0 + 0 * 13 + j, none⟩ = some ((tvc key).cell j) := fun j hj => by rw [show 0 + 0 * 13 + j = j by omega]; exact ha j hj
  obtain ⟨g0, g1, g2, g3, g4, g5, g6, g7, g8, g9, g10, g11, g12⟩ := val_cells hc
  simp only [Nat.zero_mul, Nat.zero_add, tvc] at g0 g1 g2 g3 g4 g5 g6 g7 g8 g9 g10 g11 g12
  clear hk7 hkey hne hw hd hv hU hi ha hc
  simp only [VC.arr, tvc] at HJ ⊢
  have HCall : Hid (∀ o1 o2 : Obj, Calls Tryz.prog 14 #[.string ⟨#[104, 97, 115]⟩, .agg #[.int .i64 c.kind, .bool c.bool, .bool c.neg, .string c.digits, .int .i64 c.exp, .int .i64 c.tkind, .int .i64 c.day, .int .i64 c.nano, .int .i64 c.offset, .string c.text, .slice c.ab c.nb c.cb, .slice c.al c.nl c.cl, .slice c.af c.nf c.cf], .agg #[.int .i64 4, .bool false, .bool false, .string ⟨#[]⟩, .int .i64 0, .int .i64 0, .int .i64 0, .int .i64 0, .int .i64 0, .string key, .slice none 0 0, .slice none 0 0, .slice none 0 0]] ((w.alloc o1).alloc o2).drew (HasEnd ((w.alloc o1).alloc o2).drew)) := by
    refine hid (fun o1 o2 => HJ.out _ ⟨fun b hb _ => ?_, fun b hb h => h⟩ (fun b' hb' => ?_))
    · exact (Below.heap_alloc _ _ _ (by simp only [World.size_alloc]; omega)).trans (Below.heap_alloc _ _ _ hb)
    · show b' < ((w.alloc o1).alloc o2).heap.size
      simp only [World.size_alloc]
      have := HU.out _ hb'
      omega
  clear HJ
  unfold HasEnd bvc at *
  simp only [VC.arr] at HCall ⊢
  have hne1 : ¬ ba = w.heap.size + 1 := by omega
  have hne2 : ¬ w.heap.size + 1 = ba := by omega
  go_enter Tryz.func7, Tryz.ntmps7
  go_wp2_with (go_at_call 13; refine (arity_has _).mono ?_; rintro e w' ⟨rfl, rfl⟩)
  go_region_held3 (fun w' => w'.cell? ⟨w.heap.size, 0, none⟩ = some (.int .i64 c.kind) ∧ w'.cell? ⟨w.heap.size, 1, none⟩ = some (.bool c.bool) ∧ w'.cell? ⟨w.heap.size, 2, none⟩ = some (.bool c.neg) ∧ w'.cell? ⟨w.heap.size, 3, none⟩ = some (.string c.digits) ∧ w'.cell? ⟨w.heap.size, 4, none⟩ = some (.int .i64 c.exp) ∧ w'.cell? ⟨w.heap.size, 5, none⟩ = some (.int .i64 c.tkind) ∧ w'.cell? ⟨w.heap.size, 6, none⟩ = some (.int .i64 c.day) ∧ w'.cell? ⟨w.heap.size, 7, none⟩ = some (.int .i64 c.nano) ∧ w'.cell? ⟨w.heap.size, 8, none⟩ = some (.int .i64 c.offset) ∧ w'.cell? ⟨w.heap.size, 9, none⟩ = some (.string c.text) ∧ w'.cell? ⟨w.heap.size, 10, none⟩ = some (.slice c.ab c.nb c.cb) ∧ w'.cell? ⟨w.heap.size, 11, none⟩ = some (.slice c.al c.nl c.cl) ∧ w'.cell? ⟨w.heap.size, 12, none⟩ = some (.slice c.af c.nf c.cf) ∧ w'.cell? ⟨ba, 0, none⟩ = some (.int .i64 4) ∧ w'.cell? ⟨ba, 1, none⟩ = some (.bool false) ∧ w'.cell? ⟨ba, 2, none⟩ = some (.bool false) ∧ w'.cell? ⟨ba, 3, none⟩ = some (.string ⟨#[]⟩) ∧ w'.cell? ⟨ba, 4, none⟩ = some (.int .i64 0) ∧ w'.cell? ⟨ba, 5, none⟩ = some (.int .i64 0) ∧ w'.cell? ⟨ba, 6, none⟩ = some (.int .i64 0) ∧ w'.cell? ⟨ba, 7, none⟩ = some (.int .i64 0) ∧ w'.cell? ⟨ba, 8, none⟩ = some (.int .i64 0) ∧ w'.cell? ⟨ba, 9, none⟩ = some (.string key) ∧ w'.cell? ⟨ba, 10, none⟩ = some (.slice none 0 0) ∧ w'.cell? ⟨ba, 11, none⟩ = some (.slice none 0 0) ∧ w'.cell? ⟨ba, 12, none⟩ = some (.slice none 0 0))
    (go_keep)
    ((go_at_call 14; refine (HCall.out _ _).mono ?_; rintro e w1 ⟨rfl, hb1⟩; have hb2 := below_undrew' hb1; obtain ⟨hcy, hfy, hsz, hbel⟩ := made_value_at (w.alloc _) (w.heap.size + 1) (by simp only [World.size_alloc]) hb2; have hkeep := two_old hb2; obtain ⟨hc1, hc2⟩ := hkeep; have hc3 := hc2 ba hba; have HB1 := hid hbel; clear hb1 hb2 hbel hc2; simp only [zV, Value.cells] at hcy))
  go_wp2_with fail
  refine bodyPost_ret (v := .tuple #[.agg #[.int .i64 1, .bool true, .bool false, .string ⟨#[]⟩, .int .i64 0, .int .i64 0, .int .i64 0, .int .i64 0, .int .i64 0, .string ⟨#[]⟩, .slice none 0 0, .slice none 0 0, .slice none 0 0], .int .i64 0]) (by simp [results, Tryz.results7, go_sem, hcy]) rfl ⟨rfl, ?_⟩
  have hbb := ((Below.refl w.heap.size w).alloc (Nat.le_refl _) (.cells #[.int .i64 c.kind, .bool c.bool, .bool c.neg, .string c.digits, .int .i64 c.exp, .int .i64 c.tkind, .int .i64 c.day, .int .i64 c.nano, .int .i64 c.offset, .string c.text, .slice c.ab c.nb c.cb, .slice c.al c.nl c.cl, .slice c.af c.nf c.cf] 30)).trans (HB1.out.mono (by omega))
  repeat (first | (with_reducible refine Below.setCell ?_ (by simp only []; omega) _) | (with_reducible exact hbb))
end Go.Proofs.YtaeclmligojlaaaGreatDoor.D

/- builtin.entry: a map of a key and a value. Conditions: none. -/
namespace Go.Proofs.YtaeclmligojlaaaGreatDoor.D
open Go.RowKit

def kKey : ByteArray := ⟨#[107, 101, 121]⟩
def kValue : ByteArray := ⟨#[118, 97, 108, 117, 101]⟩
def eval (key : ByteArray) (v : Val) : Val := .mk 7 false zD zT ⟨#[]⟩ [] [] [(kKey, tval key), (kValue, v)]

theorem fields_of_block {w : World} {n : Nat} {fs : List (ByteArray × VC)} {t : TypeId} {fr : Nat × Nat} {U : Nat → Prop} (h : w.heap[n]? = some (.cells (fs.flatMap fcells).toArray t fr)) (hU : ¬ U n) (hl : fs.length ≤ 9223372036854775807) :
    RowAt U w (some ⟨n, 0, none⟩) fs.length fs.length 14 (fun i => fcell (fs.getD i default).1 (fs.getD i default).2) := by
  refine ⟨rfl, hl, fun _ => ⟨n, 0, rfl, (Array.getElem?_eq_some_iff.1 h).1, hU, fun i hi j hj => ?_⟩⟩
  have hlen := flat_length fcells 14 fcells_length fs
  have hlt : i * 14 + j < fs.length * 14 := by omega
  rw [cell_of_row w n _ _ t fr h, Nat.zero_add, List.getElem?_toArray, List.getElem?_eq_getElem (by omega)]
  have h1 := flat_getD fcells 14 fcells_length fs i hi j hj
  rw [List.getD_eq_getElem?_getD, List.getElem?_eq_getElem (by omega)] at h1
  simp only [Option.getD_some] at h1
  rw [h1, fcells_eq]

theorem entry_close {U U' : Nat → Prop} {w1 W0 : World} {c : VC} {v : Val} {key : ByteArray} (hs : W0.heap.size = w1.heap.size) (hg : Goes U' U w1 W0) (hv : VR U' w1 c v) (hu : ¬ U w1.heap.size) :
    VR U (W0.alloc (.cells ([(kKey, tvc key), (kValue, c)].flatMap fcells).toArray 41)) ⟨7, false, false, ⟨#[]⟩, 0, 0, 0, 0, 0, ⟨#[]⟩, none, 0, 0, none, 0, 0, some ⟨w1.heap.size, 0, none⟩, 2, 2⟩ (eval key v) := by
  have hnew := heap_alloc_new W0 (.cells ([(kKey, tvc key), (kValue, c)].flatMap fcells).toArray 41)
  rw [hs] at hnew
  have hvv := (hv.goes hg).goes (Goes.below (Below.alloc (Below.refl _ _) (Nat.le_refl _) (.cells ([(kKey, tvc key), (kValue, c)].flatMap fcells).toArray 41)))
  exact VR.build _ _ [] [(kKey, tvc key), (kValue, c)] ⟨rfl, rfl, rfl, rfl, rfl, rfl, rfl, rfl, rfl, rfl⟩ (RowAt.nil ..) (RowAt.nil ..) (VRL.nil ..) (fields_of_block hnew hu (by simp)) (((FRL.nil ..).snoc (tvc_reads _ _ _)).snoc hvv)

set_option maxRecDepth 100000 in
set_option maxHeartbeats 4000000 in
theorem builtin_entry (v : Val) (c : VC) (U : Nat → Prop) (w : World) (key : ByteArray) (hv : VR U w c v) (hU : ∀ b, U b → b < w.heap.size) :
    Calls Tryz.prog 70 #[.string key, .agg c.arr] w fun e w' => ∃ c' : VC, e = .returned (.agg c'.arr) ∧ Below w.heap.size w w' ∧ VR U w' c' (eval key v) := by
  have HV := hid hv
  have HU := hid hU
  clear hv hU
  simp only [VC.arr]
  go_enter Tryz.func70, Tryz.ntmps70
  go_wp2_with fail
  go_region_held3 (fun w' => w'.cell? ⟨w.heap.size, 0, none⟩ = some (.int .i64 c.kind) ∧ w'.cell? ⟨w.heap.size, 1, none⟩ = some (.bool c.bool) ∧ w'.cell? ⟨w.heap.size, 2, none⟩ = some (.bool c.neg) ∧ w'.cell? ⟨w.heap.size, 3, none⟩ = some (.string c.digits) ∧ w'.cell? ⟨w.heap.size, 4, none⟩ = some (.int .i64 c.exp) ∧ w'.cell? ⟨w.heap.size, 5, none⟩ = some (.int .i64 c.tkind) ∧ w'.cell? ⟨w.heap.size, 6, none⟩ = some (.int .i64 c.day) ∧ w'.cell? ⟨w.heap.size, 7, none⟩ = some (.int .i64 c.nano) ∧ w'.cell? ⟨w.heap.size, 8, none⟩ = some (.int .i64 c.offset) ∧ w'.cell? ⟨w.heap.size, 9, none⟩ = some (.string c.text) ∧ w'.cell? ⟨w.heap.size, 10, none⟩ = some (.slice c.ab c.nb c.cb) ∧ w'.cell? ⟨w.heap.size, 11, none⟩ = some (.slice c.al c.nl c.cl) ∧ w'.cell? ⟨w.heap.size, 12, none⟩ = some (.slice c.af c.nf c.cf))
    (go_keep)
    ((go_at_call 17; refine (value_text _ _).mono ?_; rintro e w1 ⟨rfl, hb1⟩; have hb2 := below_undrew' hb1; obtain ⟨hcy, hfy, hsz, hbel⟩ := made_value_at (w.alloc _) (w.heap.size + 1) (by simp only [World.size_alloc]) hb2; have hkeep := two_old hb2; obtain ⟨hc1, hc2⟩ := hkeep; have HB1 := hid hbel; clear hb1 hb2 hbel hc2; simp only [zV, Value.cells] at hcy; unfold tvc VC.arr))
  go_wp2_with fail
  have hbb := ((Below.refl w.heap.size w).alloc (Nat.le_refl _) (.cells #[.int .i64 c.kind, .bool c.bool, .bool c.neg, .string c.digits, .int .i64 c.exp, .int .i64 c.tkind, .int .i64 c.day, .int .i64 c.nano, .int .i64 c.offset, .string c.text, .slice c.ab c.nb c.cb, .slice c.al c.nl c.cl, .slice c.af c.nf c.cf] 30)).trans (HB1.out.mono (by omega))
  refine bodyPost_ret (v := .agg #[.int .i64 7, .bool false, .bool false, .string ⟨#[]⟩, .int .i64 0, .int .i64 0, .int .i64 0, .int .i64 0, .int .i64 0, .string ⟨#[]⟩, .slice none 0 0, .slice none 0 0, .slice (some ⟨w1.heap.size, 0, none⟩) 2 2]) (by simp [results, Tryz.results70, go_sem, hcy, hsz]) rfl ⟨⟨7, false, false, ⟨#[]⟩, 0, 0, 0, 0, 0, ⟨#[]⟩, none, 0, 0, none, 0, 0, some ⟨w1.heap.size, 0, none⟩, 2, 2⟩, rfl, ?_, ?_⟩
  · refine Below.alloc ?_ ?_ _
    · repeat (first | (with_reducible refine Below.setCell ?_ (by simp only []; omega) _) | (with_reducible exact hbb))
    · have := hbb.size
      simpa [World.setCell] using this
  · refine entry_close (U := U) (U' := fun b => U b ∨ b = w.heap.size + 1) (w1 := w1) (by simp [World.setCell]) ?_ (HV.out.goes ⟨fun b hb _ => hbb.block b hb, fun b hb h => by rcases h with h | h; exact h; omega⟩) (fun h => by have := HU.out _ h; omega)
    have hg : Goes (fun b => U b ∨ b = w.heap.size + 1) U w1 w1 := ⟨fun _ _ _ => rfl, fun _ _ h => .inl h⟩
    repeat (first | (with_reducible refine Goes.setCell ?_ (by simp) _) | (with_reducible exact hg))
end Go.Proofs.YtaeclmligojlaaaGreatDoor.D

/- builtin.parts, at "to_entries", of a map: a list of maps of a key and a value. Conditions: sizes within the limits. -/
namespace Go.Proofs.YtaeclmligojlaaaGreatDoor.D
open Go.RowKit

def entriesOf (l : List (ByteArray × Val)) : List Val := l.map fun x => eval x.1 x.2
theorem eval_deep (k : ByteArray) (v : Val) : (eval k v).deep = 1 + max 1 v.deep := by
  have e : (tval k).deep = 1 := by simp [Val.deep_eq, tval, Val.list, Val.fields, Val.deepL, Val.deepF]
  rw [Val.deep_eq]; simp only [eval, Val.list, Val.fields, Val.deepL, Val.deepF, e]; omega
theorem eval_cnt (k : ByteArray) (v : Val) : (eval k v).cnt = 2 + v.cnt := by
  have e : (tval k).cnt = 1 := by simp [Val.cnt_eq, tval, Val.list, Val.fields, Val.cntL, Val.cntF]
  rw [Val.cnt_eq]; simp only [eval, Val.list, Val.fields, Val.cntL, Val.cntF, e]; omega
theorem eval_weight (k : ByteArray) (v : Val) : (eval k v).weight = 2 + v.weight := by
  have e : (tval k).weight = 1 := by simp [tval, Val.weight, Val.weightL, Val.weightF]
  simp only [eval, Val.weight, Val.weightL, Val.weightF, e, List.length_nil]; omega
theorem entries_deep (l : List (ByteArray × Val)) : Val.deepL (entriesOf l) ≤ 2 + Val.deepF l := by
  induction l with
  | nil => simp [entriesOf, Val.deepL]
  | cons x l ih => simp only [entriesOf, List.map_cons, Val.deepL, Val.deepF, eval_deep] at ih ⊢; omega
theorem entries_cnt (l : List (ByteArray × Val)) : Val.cntL (entriesOf l) = 2 * l.length + Val.cntF l := by
  induction l with
  | nil => simp [entriesOf, Val.cntL, Val.cntF]
  | cons x l ih => simp only [entriesOf, List.map_cons, Val.cntL, Val.cntF, eval_cnt, List.length_cons] at ih ⊢; omega
theorem entries_weight (l : List (ByteArray × Val)) : Val.weightL (entriesOf l) = 2 * l.length + Val.weightF l := by
  induction l with
  | nil => simp [entriesOf, Val.weightL, Val.weightF]
  | cons x l ih => simp only [entriesOf, List.map_cons, Val.weightL, Val.weightF, eval_weight, List.length_cons] at ih ⊢; omega
theorem vld_kKey : vld kKey.data.toList = true := by decide
theorem vld_kValue : vld kValue.data.toList = true := by decide
theorem eval_ok (k : ByteArray) (v : Val) (hk : vld k.data.toList = true) (hs : k.size ≤ 65536) (hv : OkV v) : OkV (eval k v) := by
  refine ⟨_, ⟨⟨by simp [eval, Val.kind], by simp [eval, Val.kind], fun _ => rfl, fun _ => rfl, fun _ => rfl, fun _ => rfl, fun _ => rfl, fun _ => rfl, fun h => absurd rfl h⟩, fun h => absurd h (by simp [eval, Val.kind]), fun h => absurd h (by simp [eval, Val.kind]), rfl, Nat.zero_le _, by simp [eval, Val.bytes], ⟨fun i h => ?_, fun i j hij h => ?_⟩⟩, fun i h => absurd h (by simp [eval, Val.list]), fun i h => ?_⟩
  · have h' : i < 2 := h
    rcases (by omega : i = 0 ∨ i = 1) with rfl | rfl
    · exact ⟨vld_kKey, (by decide : kKey.size ≤ 1024)⟩
    · exact ⟨vld_kValue, (by decide : kValue.size ≤ 1024)⟩
  · have h' : j < 2 := h
    obtain rfl : i = 0 := by omega
    obtain rfl : j = 1 := by omega
    show kKey ≠ kValue
    decide
  · have h' : i < 2 := h
    rcases (by omega : i = 0 ∨ i = 1) with rfl | rfl
    · exact tval_ok k hk hs
    · exact hv

theorem set_size (w : World) (a : Addr) (u : Value) : (w.setCell a u).heap.size = w.heap.size := by simp [World.setCell]
theorem grown_refl (w : World) (r : Option Nat) : w.grownBy w r := ⟨rfl, rfl, rfl, Nat.le_refl _, fun _ _ _ => rfl⟩
theorem grown_set {w w' : World} {p : Nat} (h : w.grownBy w' (some p)) (j : Nat) (v : Value) : w.grownBy (w'.setCell ⟨p, j, none⟩ v) (some p) :=
  ⟨h.os, h.tape, h.output, by simp [World.setCell]; exact h.size, fun i hi hr => by rw [heap_setCell_other _ _ _ _ (fun e => hr (by simpa using e))]; exact h.block i hi hr⟩
/-- A round: two new blocks, a call, stores into the second block, a new block, an append. -/
theorem turn_same {wr w2 W2 w3 : World} {o1 o2 o3 : Obj} {r : Option Nat} (hb : Below ((wr.alloc o1).alloc o2).heap.size ((wr.alloc o1).alloc o2) w2) (hs : w2.grownBy W2 (some (wr.heap.size + 1))) (hg : (W2.alloc o3).grownBy w3 r) :
    (∀ b, b < wr.heap.size → some b ≠ r → w3.heap[b]? = wr.heap[b]?) ∧ wr.heap.size + 2 ≤ w3.heap.size := by
  have h1 := hb.size
  have h2 := hs.size
  have h3 := hg.size
  simp only [World.size_alloc] at h1 h3
  refine ⟨fun b hlt hne => ?_, by omega⟩
  rw [hg.block b (by simp only [World.size_alloc]; omega) hne, Below.heap_alloc _ _ _ (by omega), hs.block b (by omega) (by simp; omega), hb.block b (by simp only [World.size_alloc]; omega), Below.heap_alloc _ _ _ (by simp only [World.size_alloc]; omega), Below.heap_alloc _ _ _ hlt]
theorem turn_goes {U V : Nat → Prop} {v v' : Value} {wr w2 W2 w3 : World} {o3 : Obj} (hs : w2.grownBy W2 (some (wr.heap.size + 1))) (hsz : W2.heap.size = w2.heap.size) (hg : (W2.alloc o3).grownBy w3 v.ownBlock) (hat : v'.ownBlock = v.ownBlock ∨ v'.ownBlock = some (W2.alloc o3).heap.size)
    (hV : ∀ b, U b ∨ v.ownBlock = some b ∨ b = wr.heap.size + 1 → V b) : Goes V (Uo U v') w2 w3 := by
  refine ⟨fun b hb hu => ?_, fun b hb hu => ?_⟩
  · rw [hg.block b (by simp only [World.size_alloc]; omega) (fun e => hu (hV b (.inr (.inl e.symm)))), Below.heap_alloc _ _ _ (by omega), hs.block b hb (fun e => hu (hV b (.inr (.inr (by simpa using e)))))]
  · rcases hu with hu | hu
    · exact hV b (.inl hu)
    · rcases hat with h | h
      · exact hV b (.inr (.inl (h ▸ hu)))
      · rw [h] at hu
        simp only [World.size_alloc] at hu
        cases hu
        omega

set_option maxRecDepth 100000 in
set_option maxHeartbeats 8000000 in
theorem parts_entries (v : Val) (c : VC) (U : Nat → Prop) (w : World) (hk7 : v.kind = 7) (hok : OkV v) (hd : v.deep ≤ 46) (hn : v.cnt ≤ 150) (hw : v.weight ≤ 2000000000) (hv : VR U w c v) (hU : ∀ b, U b → b < w.heap.size) :
    Calls Tryz.prog 21 #[.string ⟨#[116, 111, 95, 101, 110, 116, 114, 105, 101, 115]⟩, .agg c.arr] w (ValEnd (lval (entriesOf v.fields)) U w) := by
  have hkeys := hok.one.keys
  have hfok := hok.hf
  have hdp := Val.deep_eq v
  have hcn := Val.cnt_eq v
  obtain ⟨_, _, lc, fc, hk, hbo, hn_, hdg, he, ht0, ht1, ht2, ht3, htx, hb, hl, hl', hf, hf'⟩ := hv
  obtain ⟨k, b, ng, dg, ex, tk, td, tn, to_, tx, ab, nb, cb, al, nl, cl, af, nf, cf⟩ := c
  obtain ⟨vk, vb, vn, vt, vx, vbs, vl, vf⟩ := v
  simp only [Val.kind, Val.bool, Val.num, Val.time, Val.text, Val.bytes, Val.list, Val.fields, Val.weight] at *
  subst hk7
  obtain rfl : k = 7 := hk
  have hnf : nf ≤ vf.length := Nat.le_of_eq hf.1
  have hnf' : vf.length ≤ nf := Nat.le_of_eq hf.1.symm
  have hlen := Val.cntF_len vf
  have hlq : vf.length ≤ 150 := by omega
  have hmx := hf.2.1
  have HL := hid (fun (A' : Option Addr) (n' cp' : Nat) (els : Nat → VC) (w' : World) => builtin_list (entriesOf vf) (fun b => U b ∨ b = w.heap.size ∨ b = w.heap.size + 1) A' n' cp' els w'
    (fun x hx => by
      obtain ⟨y, hy, rfl⟩ := List.mem_map.1 hx
      obtain ⟨i, hi, rfl⟩ := List.mem_iff_getElem.1 hy
      exact eval_ok _ _ (hkeys.ok i hi).1 (by have := (hkeys.ok i hi).2; omega) (hfok i hi)) (by have := entries_deep vf; omega) (by rw [entries_cnt]; omega) (by rw [entries_weight]; omega))
  have HF := hid hf
  have HF' := hid hf'
  have HU := hid hU
  clear hbo hn_ hdg he ht0 ht1 ht2 ht3 htx hb hl hl' hf hf' hU hkeys hfok hdp hcn hok hd hn hw
  simp only [VC.arr]
  go_enter Tryz.func21, Tryz.ntmps21
  go_wp2_with fail
  go_loopw [6, 17] (fun lv iv wr => ∃ (q : Nat) (els : List VC), q ≤ nf ∧ iv = .int .i64 q ∧
      wr.ownsRow (w.heap.size + 2) 30 13 lv q (els.flatMap (·.arr.toList)) ∧ Below w.heap.size w wr ∧ w.heap.size + 2 ≤ wr.heap.size ∧
      wr.heap[w.heap.size + 1]? = some (.cells zV.cells 30 (0, 0)) ∧
      VRL (Uo (fun b => U b ∨ b = w.heap.size ∨ b = w.heap.size + 1) lv) wr els (entriesOf (vf.take q)))
    (fun _ iv _ => nf - (intOf iv).toNat)
  case atStart => exact ⟨0, [], Nat.zero_le _, rfl, World.ownsRow_nil .., ((Below.refl _ _).alloc (Nat.le_refl _) _).alloc (by simp) _, by simp, heap_alloc2_new .., VRL.nil ..⟩
  case round =>
    obtain ⟨q, els, hq, rfl, hown, hbel, hsz, hbx, hvr⟩ := hrel
    have HO := hid hown
    have HBel := hid hbel
    have HX := hid hbx
    have HV := hid hvr
    clear hown hbel hbx hvr
    by_cases hlt : q < nf
    · obtain ⟨b0, o0, hal, hb0, hu0, hcell⟩ := HF.out.2.2 (by omega)
      subst hal
      have hqf : q < vf.length := by omega
      have hcq : ∀ j, j < 14 → wr.cell? ⟨b0, o0 + q * 14 + j, none⟩ = some (fcell (vf[q]'hqf).1 (fc q) j) := fun j hj => by
        rw [HBel.out.cell hb0]
        have := hcell q (by omega) j hj
        simpa [hqf] using this
      obtain ⟨g0, g1, g2, g3, g4, g5, g6, g7, g8, g9, g10, g11, g12, g13⟩ := field_cells hcq
      clear hcq hcell
      have HV0 := hid (HF'.out q hqf)
      have HTK := hid (take_snoc' vf q hqf)
      generalize hke : (vf[q]'hqf) = kv at *
      obtain ⟨key, ve⟩ := kv
      simp only [] at g0 HV0
      clear hke
      generalize fc q = ce at *
      have hlts := HBel.out.size
      have hown5 := HO.out
      go_wp2_with fail
      refine (builtin_entry ve ce (fun b => Uo (fun b => U b ∨ b = w.heap.size ∨ b = w.heap.size + 1) u6 b ∨ b = wr.heap.size ∨ b = wr.heap.size + 1) _ key (HV0.out.goes ⟨fun b hb hu => ?_, fun b hb hu => ?_⟩) (fun b hu => ?_)).mono ?_
      · exact (Below.heap_alloc _ _ _ (by simp only [World.size_alloc]; omega)).trans ((Below.heap_alloc _ _ _ (by omega)).trans (HBel.out.block b hb))
      · rcases hu with ((hu | hu | hu) | hu) | hu | hu
        · exact hu
        · omega
        · omega
        · have := (hown5.lt b hu).1
          omega
        · omega
        · omega
      · simp only [World.size_alloc]
        rcases hu with ((hu | hu | hu) | hu) | hu | hu
        · have := HU.out b hu
          omega
        · omega
        · omega
        · have := (hown5.lt b hu).2
          omega
        · omega
        · omega
      rintro e w2 ⟨c', rfl, hb2, hv2⟩
      have hs2 := hb2.size
      simp only [World.size_alloc] at hs2
      have hx13 : w2.heap[wr.heap.size + 1]? = some (.cells #[.int .i64 ce.kind, .bool ce.bool, .bool ce.neg, .string ce.digits, .int .i64 ce.exp, .int .i64 ce.tkind, .int .i64 ce.day, .int .i64 ce.nano, .int .i64 ce.offset, .string ce.text, .slice ce.ab ce.nb ce.cb, .slice ce.al ce.nl ce.cl, .slice ce.af ce.nf ce.cf] 30 (0, 0)) := by
        rw [hb2.block _ (by simp only [World.size_alloc]; omega)]
        exact heap_alloc2_new ..
      have hcz : ∀ j, w2.cell? ⟨wr.heap.size + 1, j, none⟩ = (#[.int .i64 ce.kind, .bool ce.bool, .bool ce.neg, .string ce.digits, .int .i64 ce.exp, .int .i64 ce.tkind, .int .i64 ce.day, .int .i64 ce.nano, .int .i64 ce.offset, .string ce.text, .slice ce.ab ce.nb ce.cb, .slice ce.al ce.nl ce.cl, .slice ce.af ce.nf ce.cf] : Array Value)[j]? := fun j => cell_of_row w2 _ j _ 30 (0, 0) hx13
      have hfz : ∀ j, w2.frozen? ⟨wr.heap.size + 1, j, none⟩ = false := fun j => frozen_of_row w2 _ j _ 30 hx13
      have hgs : w2.grownBy (World.setCell (World.setCell (World.setCell (World.setCell (World.setCell (World.setCell (World.setCell (World.setCell (World.setCell (World.setCell (World.setCell (World.setCell (World.setCell w2 ⟨wr.heap.size + 1, 0, none⟩ (.int .i64 c'.kind)) ⟨wr.heap.size + 1, 1, none⟩ (.bool c'.bool)) ⟨wr.heap.size + 1, 2, none⟩ (.bool c'.neg)) ⟨wr.heap.size + 1, 3, none⟩ (.string c'.digits)) ⟨wr.heap.size + 1, 4, none⟩ (.int .i64 c'.exp)) ⟨wr.heap.size + 1, 5, none⟩ (.int .i64 c'.tkind)) ⟨wr.heap.size + 1, 6, none⟩ (.int .i64 c'.day)) ⟨wr.heap.size + 1, 7, none⟩ (.int .i64 c'.nano)) ⟨wr.heap.size + 1, 8, none⟩ (.int .i64 c'.offset)) ⟨wr.heap.size + 1, 9, none⟩ (.string c'.text)) ⟨wr.heap.size + 1, 10, none⟩ (.slice c'.ab c'.nb c'.cb)) ⟨wr.heap.size + 1, 11, none⟩ (.slice c'.al c'.nl c'.cl)) ⟨wr.heap.size + 1, 12, none⟩ (.slice c'.af c'.nf c'.cf)) (some (wr.heap.size + 1)) := by
        repeat (first | (with_reducible refine grown_set ?_ _ _) | (with_reducible exact grown_refl _ _))
      have hownW : World.ownsRow (World.setCell (World.setCell (World.setCell (World.setCell (World.setCell (World.setCell (World.setCell (World.setCell (World.setCell (World.setCell (World.setCell (World.setCell (World.setCell w2 ⟨wr.heap.size + 1, 0, none⟩ (.int .i64 c'.kind)) ⟨wr.heap.size + 1, 1, none⟩ (.bool c'.bool)) ⟨wr.heap.size + 1, 2, none⟩ (.bool c'.neg)) ⟨wr.heap.size + 1, 3, none⟩ (.string c'.digits)) ⟨wr.heap.size + 1, 4, none⟩ (.int .i64 c'.exp)) ⟨wr.heap.size + 1, 5, none⟩ (.int .i64 c'.tkind)) ⟨wr.heap.size + 1, 6, none⟩ (.int .i64 c'.day)) ⟨wr.heap.size + 1, 7, none⟩ (.int .i64 c'.nano)) ⟨wr.heap.size + 1, 8, none⟩ (.int .i64 c'.offset)) ⟨wr.heap.size + 1, 9, none⟩ (.string c'.text)) ⟨wr.heap.size + 1, 10, none⟩ (.slice c'.ab c'.nb c'.cb)) ⟨wr.heap.size + 1, 11, none⟩ (.slice c'.al c'.nl c'.cl)) ⟨wr.heap.size + 1, 12, none⟩ (.slice c'.af c'.nf c'.cf)) (w.heap.size + 2) 30 13 u6 q (els.flatMap (·.arr.toList)) :=
        (own_below ((HO.out.alloc _).alloc _) hb2).kept hgs (by
          rcases hu : u6.ownBlock with _ | k
          · exact .inl rfl
          · right
            have := (hown5.lt k hu).2
            simp; omega)
      have HB2 := hid hb2
      have HV2 := hid hv2
      have HGS := hid hgs
      clear hb2 hv2 hx13 hgs hown5
      obtain ⟨i0, hi, hz0, hz1, hz2⟩ := info_parts info_Value
      unfold VC.arr
      go_wp2_with (at_builtin; refine wpList_append_own_at _ rfl (.tmp 29) (.tmp 31) 22 rfl (w.heap.size + 2) 30 i0 zV 13 168 Tryz.underlying22 hi hz0 hz1 hz2 rfl (by decide) u6 q (els.flatMap (·.arr.toList)) rfl (hownW.alloc _) ⟨w2.heap.size, 0, none⟩ 1 1 c'.arr.toList rfl ?c1 ?c2 ?c3 ?c4 ?c5 ?c6 ?_)
      case c1 => rfl
      case c2 =>
        refine World.news_of_block (cs := c'.arr) (t := 30) (fr := (0, 0)) ?_
        have h := heap_alloc_new (World.setCell (World.setCell (World.setCell (World.setCell (World.setCell (World.setCell (World.setCell (World.setCell (World.setCell (World.setCell (World.setCell (World.setCell (World.setCell w2 ⟨wr.heap.size + 1, 0, none⟩ (.int .i64 c'.kind)) ⟨wr.heap.size + 1, 1, none⟩ (.bool c'.bool)) ⟨wr.heap.size + 1, 2, none⟩ (.bool c'.neg)) ⟨wr.heap.size + 1, 3, none⟩ (.string c'.digits)) ⟨wr.heap.size + 1, 4, none⟩ (.int .i64 c'.exp)) ⟨wr.heap.size + 1, 5, none⟩ (.int .i64 c'.tkind)) ⟨wr.heap.size + 1, 6, none⟩ (.int .i64 c'.day)) ⟨wr.heap.size + 1, 7, none⟩ (.int .i64 c'.nano)) ⟨wr.heap.size + 1, 8, none⟩ (.int .i64 c'.offset)) ⟨wr.heap.size + 1, 9, none⟩ (.string c'.text)) ⟨wr.heap.size + 1, 10, none⟩ (.slice c'.ab c'.nb c'.cb)) ⟨wr.heap.size + 1, 11, none⟩ (.slice c'.al c'.nl c'.cl)) ⟨wr.heap.size + 1, 12, none⟩ (.slice c'.af c'.nf c'.cf)) (.cells c'.arr 30)
        simp only [set_size] at h
        exact h
      case c3 => simp [VC.arr, Value.oneCell']
      case c4 => unfold maxLen; omega
      case c5 => omega
      case c6 => simp only [World.size_alloc, set_size]; omega
      intro v3 w3 hown3 hg3 _ hat3
      have HO3 := hid hown3
      have HG3 := hid hg3
      have HA3 := hid hat3
      clear hown3 hg3 hat3 hownW hcz hfz
      go_wp2_with fail
      go_roundw
      case rel =>
        have hown5 := HO.out
        have hne : some (w.heap.size + 1) ≠ u6.ownBlock := fun e => by have := (hown5.lt _ e.symm).1; omega
        have htu := turn_same HB2.out HGS.out HG3.out
        have hat : v3.ownBlock = u6.ownBlock ∨ v3.ownBlock = some (World.alloc (World.setCell (World.setCell (World.setCell (World.setCell (World.setCell (World.setCell (World.setCell (World.setCell (World.setCell (World.setCell (World.setCell (World.setCell (World.setCell w2 ⟨wr.heap.size + 1, 0, none⟩ (.int .i64 c'.kind)) ⟨wr.heap.size + 1, 1, none⟩ (.bool c'.bool)) ⟨wr.heap.size + 1, 2, none⟩ (.bool c'.neg)) ⟨wr.heap.size + 1, 3, none⟩ (.string c'.digits)) ⟨wr.heap.size + 1, 4, none⟩ (.int .i64 c'.exp)) ⟨wr.heap.size + 1, 5, none⟩ (.int .i64 c'.tkind)) ⟨wr.heap.size + 1, 6, none⟩ (.int .i64 c'.day)) ⟨wr.heap.size + 1, 7, none⟩ (.int .i64 c'.nano)) ⟨wr.heap.size + 1, 8, none⟩ (.int .i64 c'.offset)) ⟨wr.heap.size + 1, 9, none⟩ (.string c'.text)) ⟨wr.heap.size + 1, 10, none⟩ (.slice c'.ab c'.nb c'.cb)) ⟨wr.heap.size + 1, 11, none⟩ (.slice c'.al c'.nl c'.cl)) ⟨wr.heap.size + 1, 12, none⟩ (.slice c'.af c'.nf c'.cf)) (.cells c'.arr 30)).heap.size := by
          simpa only [World.size_alloc, set_size] using HA3.out
        have hgo : Goes (Uo (fun b => U b ∨ b = w.heap.size ∨ b = w.heap.size + 1) u6) (Uo (fun b => U b ∨ b = w.heap.size ∨ b = w.heap.size + 1) v3) wr w3 := by
          refine ⟨fun b hb hu => htu.1 b hb (fun e => hu (.inr e.symm)), fun b hb hu => ?_⟩
          rcases hu with hu | hu
          · exact .inl hu
          · rcases hat with h | h
            · exact .inr (h ▸ hu)
            · rw [h] at hu
              simp only [World.size_alloc, set_size] at hu
              cases hu
              omega
        refine ⟨q + 1, els ++ [c'], by omega, by go_num, by simpa [List.flatMap_append] using HO3.out, ?_, by have := htu.2; omega, ?_, ?_⟩
        · refine Below.grown (Below.alloc ?_ ?_ _) HG3.out (by simp only [World.size_alloc, set_size]; omega) (fun k hk => by have := (hown5.lt k hk).1; omega)
          · have hbb : Below w.heap.size w w2 := ((HBel.out.alloc (by omega) _).alloc (by simp only [World.size_alloc]; omega) _).trans (HB2.out.mono (by simp only [World.size_alloc]; omega))
            repeat (first | (with_reducible refine Below.setCell ?_ (by simp only []; omega) _) | (with_reducible exact hbb))
          · simp only [set_size]; omega
        · rw [htu.1 _ (by omega) hne]; exact HX.out
        · rw [HTK.out]
          unfold entriesOf
          rw [List.map_append]
          refine (HV.out.goes hgo).snoc ?_
          exact HV2.out.goes (turn_goes HGS.out (by simp only [set_size]) HG3.out hat (fun b h => by
            rcases h with h | h | h
            · exact .inl (.inl h)
            · exact .inl (.inr h)
            · exact .inr (.inr h)))
      case measure => simp [intOf]; omega
    · obtain rfl : q = nf := by omega
      have hown5 := HO.out
      obtain ⟨hqn, A', c', hv6, hrow⟩ := own_vals hown5
      subst hv6
      have hcy : ∀ j, wr.cell? ⟨w.heap.size + 1, j, none⟩ = zV.cells[j]? := fun j => cell_of_row wr _ j _ _ _ HX.out
      have hfy : ∀ j, wr.frozen? ⟨w.heap.size + 1, j, none⟩ = false := fun j => frozen_of_row wr _ j _ _ HX.out
      have HCY := hid hcy
      have hel : els.length = (entriesOf vf).length := by
        have := HV.out.1
        rwa [List.take_of_length_le (by omega)] at this
      have HROW : Hid (RowAt (fun b => U b ∨ b = w.heap.size ∨ b = w.heap.size + 1) wr A' q (entriesOf vf).length 13 (fun i => (els.getD i default).cell)) := by
        rw [← hel]
        exact hid (hrow (fun b => U b ∨ b = w.heap.size ∨ b = w.heap.size + 1) (fun k hk hu => by
          have := (hown5.lt k hk).1
          rcases hu with hu | hu | hu
          · have := HU.out k hu
            omega
          · omega
          · omega))
      have HEL : Hid (∀ i (h : i < (entriesOf vf).length), VR (fun b => U b ∨ b = w.heap.size ∨ b = w.heap.size + 1) wr (els.getD i default) (entriesOf vf)[i]) := hid (fun i h => by
        have hv1 := HV.out
        rw [List.take_of_length_le (by omega)] at hv1
        have h1 := (hv1.2 i (by omega) h).goes (U' := fun b => U b ∨ b = w.heap.size ∨ b = w.heap.size + 1) ⟨fun _ _ _ => rfl, fun _ _ h => .inl h⟩
        simpa [List.getD_eq_getElem?_getD, show i < els.length by omega] using h1)
      clear hrow hown5 HO hqn hel hcy
      go_wp2_with fail
      refine (HL.out A' q c' (fun i => els.getD i default) wr HROW.out HEL.out (fun b hb => ?_)).mono ?_
      · rcases hb with hb | hb | hb
        · have := HU.out b hb
          have := HBel.out.size
          omega
        · omega
        · omega
      rintro e w1 ⟨c1, rfl, hb1, hv'⟩
      have HB1 := hid hb1
      have HV' := hid hv'
      have hcy : ∀ j, w1.cell? ⟨w.heap.size + 1, j, none⟩ = zV.cells[j]? := fun j => (hb1.cell (p := ⟨w.heap.size + 1, j, none⟩) (show w.heap.size + 1 < wr.heap.size by omega)).trans (HCY.out j)
      have hfz : ∀ j, w1.frozen? ⟨w.heap.size + 1, j, none⟩ = false := fun j => (hb1.frozen (p := ⟨w.heap.size + 1, j, none⟩) (show w.heap.size + 1 < wr.heap.size by omega)).trans (hfy j)
      clear hb1 hv' hfy
      simp only [zV, Value.cells] at hcy
      unfold VC.arr
      go_wp2_with fail
      refine bodyPost_ret (v := .tuple #[.agg #[.int .i64 c1.kind, .bool c1.bool, .bool c1.neg, .string c1.digits, .int .i64 c1.exp, .int .i64 c1.tkind, .int .i64 c1.day, .int .i64 c1.nano, .int .i64 c1.offset, .string c1.text, .slice c1.ab c1.nb c1.cb, .slice c1.al c1.nl c1.cl, .slice c1.af c1.nf c1.cf], .int .i64 0]) (by simp [results, Tryz.results21, go_sem, hcy]) rfl ⟨c1, rfl, ?_, ?_⟩
      · have hbb := HBel.out.trans (HB1.out.mono (by omega))
        repeat (first | (with_reducible refine Below.setCell ?_ (by simp only []; omega) _) | (with_reducible exact hbb))
      · have hg : Goes (fun b => U b ∨ b = w.heap.size ∨ b = w.heap.size + 1) U w1 w1 := ⟨fun _ _ _ => rfl, fun _ _ h => .inl h⟩
        refine HV'.out.goes ?_
        repeat (first | (with_reducible refine Goes.setCell ?_ (by simp) _) | (with_reducible exact hg))
end Go.Proofs.YtaeclmligojlaaaGreatDoor.D
