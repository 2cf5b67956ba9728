/- The law BuiltinEntries: it returns true; nothing that was there has changed. Conditions: strings and rows within the limits; the table strings.asciiSpace as laid. | What the bound on the bulk gives. Conditions: none. | A reading of type api.Value, opened: the cells read as a value; its size is at most the bulk of the reading. Conditions: none but the bulk. -/
import Derived.Test.YtaeclmligojlaaaGreatDoorB8
import Derived.Test.YtaeclmligojlaaaGreatDoorB6
import Derived.Deep.RegionHeld3
import Derived.Test.YtaeclmligojlaaaGreatDoorRows
import Derived.Test.YtaeclmligojlaaaGreatDoorB4
import Derived.WalkKit
import Derived.ProofKit
import Derived.OpenShut
import Derived.Deep.Slices
import Derived.ChangeSame
import Derived.Deep.Strs
import Derived.Lib.SmallJoins
/- The law BuiltinEntries: it returns true; nothing that was there has changed. Conditions: strings and rows within the limits; the table strings.asciiSpace as laid. -/
namespace Go.Proofs.YtaeclmligojlaaaGreatDoor.D
open Go.RowKit

/-- A block that holds the cells of a value. -/
def At (w : World) (n : Nat) (c : VC) : Prop := w.heap[n]? = some (.cells c.arr 30 (0, 0))
theorem At.lt {w : World} {n : Nat} {c : VC} (h : At w n c) : n < w.heap.size := (Array.getElem?_eq_some_iff.1 h).1
theorem At.then {w1 w2 : World} {n : Nat} {c : VC} (h : At w1 n c) (hb : Below w1.heap.size w1 w2) : At w2 n c := (hb.block n h.lt).trans h
theorem At.alloc {w : World} {n : Nat} {c : VC} (h : At w n c) (o : Obj) : At (w.alloc o) n c := (Below.heap_alloc _ _ _ h.lt).trans h
theorem At.cells {w : World} {n : Nat} {c : VC} (h : At w n c) : ∀ j, w.cell? ⟨n, j, none⟩ = c.arr[j]? := fun j => cell_of_row w n j _ _ _ h
theorem below1 (w : World) (o1 : Obj) : Below w.heap.size w (w.alloc o1) := (Below.refl _ _).alloc (Nat.le_refl _) _

theorem vc_cell (c : VC) (j : Nat) (h : j < 13) : c.arr[j]? = some (c.cell j) := by
  have hs : c.arr.size = 13 := rfl
  simp [VC.cell, Array.getD_eq_getD_getElem?, Array.getElem?_eq_getElem (show j < c.arr.size by omega)]

theorem at_s1 (w : World) (key : ByteArray) : At (w.alloc (.cells #[.int .i64 4, .bool false, .bool false, .string ⟨#[]⟩, .int .i64 0, .int .i64 0, .int .i64 0, .int .i64 0, .int .i64 0, .string key, .slice none 0 0, .slice none 0 0, .slice none 0 0] 30)) w.heap.size (tvc key) := heap_alloc_new ..
theorem at_s2 (w : World) (key : ByteArray) (o : Obj) : At ((w.alloc (.cells #[.int .i64 4, .bool false, .bool false, .string ⟨#[]⟩, .int .i64 0, .int .i64 0, .int .i64 0, .int .i64 0, .int .i64 0, .string key, .slice none 0 0, .slice none 0 0, .slice none 0 0] 30)).alloc o) w.heap.size (tvc key) := heap_alloc2_old ..
theorem at_s3 (w : World) (key : ByteArray) (o : Obj) : At ((w.alloc o).alloc (.cells #[.int .i64 4, .bool false, .bool false, .string ⟨#[]⟩, .int .i64 0, .int .i64 0, .int .i64 0, .int .i64 0, .int .i64 0, .string key, .slice none 0 0, .slice none 0 0, .slice none 0 0] 30)) (w.heap.size + 1) (tvc key) := heap_alloc2_new ..
theorem has_drew {wr W : World} {f : FuncId} {args : Array Value} (hB : Below wr.heap.size wr W) (h : Calls Tryz.prog f args W.drew (HasEnd W.drew)) :
    Calls Tryz.prog f args W.drew fun e w6 => e = .returned (.tuple #[.agg #[.int .i64 1, .bool true, .bool false, .string ⟨#[]⟩, .int .i64 0, .int .i64 0, .int .i64 0, .int .i64 0, .int .i64 0, .string ⟨#[]⟩, .slice none 0 0, .slice none 0 0, .slice none 0 0], .int .i64 0]) ∧ Below wr.heap.size wr w6 ∧ Below W.heap.size W w6 :=
  h.mono fun _ _ ⟨he, hb⟩ => ⟨he, hB.trans ((below_undrew' hb).mono hB.size), below_undrew' hb⟩
theorem box_b {w w1 : World} {o : Obj} (hb : Below ((w.alloc o).alloc (.cells #[.int .i64 0, .bool false, .bool false, .string ⟨#[]⟩, .int .i64 0, .int .i64 0, .int .i64 0, .int .i64 0, .int .i64 0, .string ⟨#[]⟩, .slice none 0 0, .slice none 0 0, .slice none 0 0] 30)).heap.size ((w.alloc o).alloc (.cells #[.int .i64 0, .bool false, .bool false, .string ⟨#[]⟩, .int .i64 0, .int .i64 0, .int .i64 0, .int .i64 0, .int .i64 0, .string ⟨#[]⟩, .slice none 0 0, .slice none 0 0, .slice none 0 0] 30)) w1) :
    (∀ j, w1.cell? ⟨w.heap.size + 1, j, none⟩ = (#[.int .i64 0, .bool false, .bool false, .string ⟨#[]⟩, .int .i64 0, .int .i64 0, .int .i64 0, .int .i64 0, .int .i64 0, .string ⟨#[]⟩, .slice none 0 0, .slice none 0 0, .slice none 0 0] : Array Value)[j]?) ∧ (∀ j, w1.frozen? ⟨w.heap.size + 1, j, none⟩ = false) ∧ w.heap.size + 1 < w1.heap.size := by
  obtain ⟨h1, h2, h3, _⟩ := made_value_at (w.alloc o) (w.heap.size + 1) (by simp only [World.size_alloc]) hb
  exact ⟨h1, h2, h3⟩
theorem box_c {w w1 : World} {o : Obj} (hb : Below ((w.alloc (.cells #[.int .i64 0, .bool false, .bool false, .string ⟨#[]⟩, .int .i64 0, .int .i64 0, .int .i64 0, .int .i64 0, .int .i64 0, .string ⟨#[]⟩, .slice none 0 0, .slice none 0 0, .slice none 0 0] 30)).alloc o).heap.size ((w.alloc (.cells #[.int .i64 0, .bool false, .bool false, .string ⟨#[]⟩, .int .i64 0, .int .i64 0, .int .i64 0, .int .i64 0, .int .i64 0, .string ⟨#[]⟩, .slice none 0 0, .slice none 0 0, .slice none 0 0] 30)).alloc o) w1) :
    (∀ j, w1.cell? ⟨w.heap.size, j, none⟩ = (#[.int .i64 0, .bool false, .bool false, .string ⟨#[]⟩, .int .i64 0, .int .i64 0, .int .i64 0, .int .i64 0, .int .i64 0, .string ⟨#[]⟩, .slice none 0 0, .slice none 0 0, .slice none 0 0] : Array Value)[j]?) ∧ (∀ j, w1.frozen? ⟨w.heap.size, j, none⟩ = false) ∧ w.heap.size < w1.heap.size := by
  obtain ⟨h1, h2, h3, _⟩ := made_value_at w w.heap.size rfl (((Below.refl _ _).alloc (Nat.le_refl _) _).trans (hb.mono (by simp only [World.size_alloc]; omega)))
  exact ⟨h1, h2, h3⟩

theorem map_eq (v : Val) (hk : v.kind = 7) (ho : Own v) : v = .mk 7 false zD zT ⟨#[]⟩ [] [] v.fields := by
  have h1 := ho.b (by omega)
  have h2 := ho.n (by omega)
  have h3 := ho.t (by omega)
  have h4 := ho.x (by omega)
  have h5 := List.eq_nil_of_length_eq_zero (ho.y (by omega))
  have h6 := List.eq_nil_of_length_eq_zero (ho.l (by omega))
  clear ho
  obtain ⟨k, b, n, t, x, bs, l, f⟩ := v
  simp only [Val.kind, Val.bool, Val.num, Val.time, Val.text, Val.bytes, Val.list, Val.fields] at *
  subst hk h1 h2 h3 h4 h5 h6
  rfl

set_option maxRecDepth 100000 in
set_option maxHeartbeats 8000000 in
theorem law_entries (v : Val) (c : VC) (w : World) (ht : Tab w) (hl : Lim v) (hw : v.weight ≤ 2000000000) (hv : VR (fun _ => False) w c v) :
    Calls Tryz.prog 4 #[.agg c.arr] w fun e w' => e = .returned (.bool true) ∧ Below w.heap.size w w' := by
  have hck : c.kind = v.kind := by obtain ⟨_, _, lc, fc, hk, _⟩ := hv; exact hk
  have hnf : c.nf = v.fields.length := by obtain ⟨_, _, lc, fc, hk, hbo, hn_, hdg, he, ht0, ht1, ht2, ht3, htx, hb, hl, hl', hf, hf'⟩ := hv; exact hf.1
  have hF : ∃ fc : Nat → VC, RowAt (fun _ => False) w c.af v.fields.length v.fields.length 14 (fun i => fcell ((v.fields[i]?.map (·.1)).getD default) (fc i)) := by obtain ⟨_, _, lc, fc, hk, hbo, hn_, hdg, he, ht0, ht1, ht2, ht3, htx, hb, hl, hl', hf, hf'⟩ := hv; exact ⟨fc, ⟨rfl, hf.2⟩⟩
  obtain ⟨fc, hF⟩ := hF
  have HS := hid (fun (w' : World) (g : Goes (fun _ => False) (fun _ => False) w w') => ref_small v c (fun _ => False) 40 46 w' (by decide) (by decide) (by decide) (by decide) (hv.goes g) (fun _ h => h.elim))
  have HC := hid (fun (w' : World) (g : Goes (fun _ => False) (fun _ => False) w w') => ref_check v c (fun _ => False) w' hl (by omega) (hv.goes g) (fun _ h => h.elim))
  have HF := hid hF
  have HV := hid hv
  have HT := hid ht
  clear hl hv ht hF
  by_cases hk7 : v.kind = 7
  case neg =>
    have hkn : ¬ c.kind = 7 := by omega
    clear HF HV HT hnf hck
    unfold VC.arr at HS HC ⊢
    go_enter Tryz.func4, Tryz.ntmps4
    go_wp2_with fail
    refine (HS.out _ (Goes.below (below1 _ _))).mono ?_
    rintro e w1 ⟨r, rfl, hr, hb1⟩
    have HX1 : Hid (At w1 w.heap.size c) := hid (At.then (w1 := w.alloc (.cells #[.int .i64 c.kind, .bool c.bool, .bool c.neg, .string c.digits, .int .i64 c.exp, .int .i64 c.tkind, .int .i64 c.day, .int .i64 c.nano, .int .i64 c.offset, .string c.text, .slice c.ab c.nb c.cb, .slice c.al c.nl c.cl, .slice c.af c.nf c.cf] 30)) (show At (w.alloc _) w.heap.size c from heap_alloc_new ..) hb1)
    have HB1 : Hid (Below w.heap.size w w1) := hid ((below1 _ _).trans (hb1.mono (by simp only [World.size_alloc]; omega)))
    have hs1 : w.heap.size < w1.heap.size := HX1.out.lt
    have HR := hid hr
    clear hb1 hr HS
    have hcx := HX1.out.cells
    simp only [VC.arr] at hcx
    cases r with
    | false =>
      go_wp2_with fail
      go_ret
      exact ⟨rfl, HB1.out⟩
    | true =>
    go_wp2_with fail
    refine (HC.out _ (Goes.below HB1.out)).mono ?_
    rintro e w2 ⟨r2, rfl, hr2, hb2⟩
    have HX2 := hid (HX1.out.then hb2)
    have HB2 : Hid (Below w.heap.size w w2) := hid (HB1.out.trans (hb2.mono (by omega)))
    have hs2 : w.heap.size < w2.heap.size := HX2.out.lt
    have HR2 := hid hr2
    clear hb2 hr2 hcx HX1 HB1 HC
    have hcx := HX2.out.cells
    simp only [VC.arr] at hcx
    by_cases h0 : r2 = 0
    case neg =>
      go_wp2_with fail
      go_ret
      exact ⟨rfl, HB2.out⟩
    subst h0
    go_wp2_with fail
    go_ret
    exact ⟨rfl, HB2.out⟩
  obtain ⟨k, b, ng, dg, ex, tk, td, tn, to_, tx, ab, nb, cb, al, nl, cl, af, nf, cf⟩ := c
  have hkk : k = 7 := hck.trans hk7
  have hnn : nf = v.fields.length := hnf
  clear hck hnf
  subst hkk hnn
  simp only [VC.arr] at HS HC HF ⊢
  go_enter Tryz.func4, Tryz.ntmps4
  go_wp2_with fail
  refine (HS.out _ (Goes.below (below1 _ _))).mono ?_
  rintro e w1 ⟨r, rfl, hr, hb1⟩
  have HX1 : Hid (At w1 w.heap.size ⟨7, b, ng, dg, ex, tk, td, tn, to_, tx, ab, nb, cb, al, nl, cl, af, v.fields.length, cf⟩) := hid (At.then (w1 := w.alloc (.cells #[.int .i64 7, .bool b, .bool ng, .string dg, .int .i64 ex, .int .i64 tk, .int .i64 td, .int .i64 tn, .int .i64 to_, .string tx, .slice ab nb cb, .slice al nl cl, .slice af v.fields.length cf] 30)) (show At (w.alloc _) w.heap.size ⟨7, b, ng, dg, ex, tk, td, tn, to_, tx, ab, nb, cb, al, nl, cl, af, v.fields.length, cf⟩ from heap_alloc_new ..) hb1)
  have HB1 : Hid (Below w.heap.size w w1) := hid ((below1 _ _).trans (hb1.mono (by simp only [World.size_alloc]; omega)))
  have hs1 : w.heap.size < w1.heap.size := HX1.out.lt
  have HR := hid hr
  clear hb1 hr HS
  have hcx := HX1.out.cells
  simp only [VC.arr] at hcx
  cases r with
  | false =>
    go_wp2_with fail
    go_ret
    exact ⟨rfl, HB1.out⟩
  | true =>
  go_wp2_with fail
  refine (HC.out _ (Goes.below HB1.out)).mono ?_
  rintro e w2 ⟨r2, rfl, hr2, hb2⟩
  have HX2 := hid (HX1.out.then hb2)
  have HB2 : Hid (Below w.heap.size w w2) := hid (HB1.out.trans (hb2.mono (by omega)))
  have hs2 : w.heap.size < w2.heap.size := HX2.out.lt
  have HR2 := hid hr2
  clear hb2 hr2 hcx HX1 HB1 HC
  have hcx := HX2.out.cells
  simp only [VC.arr] at hcx
  by_cases h0 : r2 = 0
  case neg =>
    go_wp2_with fail
    go_ret
    exact ⟨rfl, HB2.out⟩
  subst h0
  obtain ⟨hok, hd48, hc6⟩ := HR2.out rfl
  have h40 := HR.out trivial
  have hdp := Val.deep_eq v
  have hcn := Val.cnt_eq v
  have hlen := Val.cntF_len v.fields
  have hwF : Val.weightF v.fields ≤ 2000000000 := by
    have : v.weight = 1 + v.bytes.length + Val.weightL v.list + Val.weightF v.fields := by cases v; rfl
    omega
  have hq40 : v.fields.length ≤ 40 := by omega
  have hqq : (v.fields.length : Int) ≤ 9223372036854775807 := by omega
  have HK := hid hok.one.keys
  have HTO := hid (fun (w' : World) (g : Goes (fun _ => False) (fun _ => False) w w') (t : Tab w') => apply_to v ⟨7, b, ng, dg, ex, tk, td, tn, to_, tx, ab, nb, cb, al, nl, cl, af, v.fields.length, cf⟩ (fun _ => False) w' t hk7 hok (by omega) (by omega) hw (HV.out.goes g) (fun _ h => h.elim))
  have HFR := hid (fun (c' : VC) (w' : World) (t : Tab w') => apply_from v.fields c' (fun _ => False) w' t hok.one.keys hok.hf (by omega) (by omega) hwF)
  have HE := hid (map_eq v hk7 hok.one.own)
  have HSM := hid (fun (c' : VC) (w' : World) (g : Goes (fun _ => False) (fun _ => False) w w') (hx : VR (fun _ => False) w' c' v) => ref_same v.deep v c' ⟨7, b, ng, dg, ex, tk, td, tn, to_, tx, ab, nb, cb, al, nl, cl, af, v.fields.length, cf⟩ (fun _ => False) w' (Nat.le_refl _) hx (HV.out.goes g) (fun _ h => h.elim))
  have HHAS := hid (fun (w' : World) (ba q : Nat) (hlt : q < v.fields.length) (g : Goes (fun _ => False) (fun _ => False) w w') hba ha => apply_has v ⟨7, b, ng, dg, ex, tk, td, tn, to_, tx, ab, nb, cb, al, nl, cl, af, v.fields.length, cf⟩ (fun _ => False) ba w' q (v.fields[q]'hlt).1 hk7 hlt rfl (fun j h => HK.out.apart j q h hlt) (by omega) (by omega) (HV.out.goes g) (fun _ h => h.elim) hba ha)
  simp only [VC.arr] at HTO HSM HHAS
  clear HR HR2 hok hd48 hc6 h40 hdp hcn hlen hwF hk7 hw HV
  go_wp2_with fail
  refine (HTO.out _ (Goes.below HB2.out) (HT.out.below HB2.out)).mono ?_
  rintro e w3 ⟨c3, rfl, hb3, hv3⟩
  have HX3 := hid (HX2.out.then hb3)
  have HB3 : Hid (Below w.heap.size w w3) := hid (HB2.out.trans (hb3.mono (by omega)))
  have HV3 := hid hv3
  have hs3 : w.heap.size < w3.heap.size := HX3.out.lt
  clear hb3 hv3 hcx HX2 HB2 HTO
  unfold VC.arr
  go_wp2_with fail
  refine (HFR.out c3 _ (HT.out.below (HB3.out.trans ((below1 _ _).mono (by omega)))) (HV3.out.goes (Goes.below (below1 _ _))) (fun _ h => h.elim)).mono ?_
  rintro e w4 ⟨c4, rfl, hb4', hv4⟩
  have hb4 : Below w3.heap.size w3 w4 := (below1 _ _).trans (hb4'.mono (by simp only [World.size_alloc]; omega))
  have HX4 := hid (HX3.out.then hb4)
  have HB4 : Hid (Below w.heap.size w w4) := hid (HB3.out.trans (hb4.mono (by omega)))
  have HV4 : Hid (VR (fun _ => False) w4 c4 v) := hid (by rw [HE.out]; exact hv4)
  have hs4 : w.heap.size < w4.heap.size := HX4.out.lt
  clear hb4 hb4' hv4 HX3 HB3 HV3 HFR
  have hcx := HX4.out.cells
  simp only [VC.arr] at hcx
  unfold VC.arr
  go_wp2_with fail
  refine (HSM.out c4 _ (Goes.below (HB4.out.trans ((below1 _ _).mono (by omega)))) (HV4.out.goes (Goes.below (below1 _ _)))).mono ?_
  rintro e w5 ⟨rfl, hb5'⟩
  have hb5 : Below w4.heap.size w4 w5 := (below1 _ _).trans (hb5'.mono (by simp only [World.size_alloc]; omega))
  have HX5 := hid (HX4.out.then hb5)
  have HB5 : Hid (Below w.heap.size w w5) := hid (HB4.out.trans (hb5.mono (by omega)))
  have hs5 : w.heap.size < w5.heap.size := HX5.out.lt
  clear hb5 hb5' HX4 HB4 HV4 HSM hcx
  have hcx := HX5.out.cells
  simp only [VC.arr] at hcx
  go_wp2_with fail
  go_loopw [7] (fun iv wr => ∃ q : Nat, q ≤ v.fields.length ∧ iv = .int .i64 q ∧ Below w.heap.size w wr ∧ At wr w.heap.size ⟨7, b, ng, dg, ex, tk, td, tn, to_, tx, ab, nb, cb, al, nl, cl, af, v.fields.length, cf⟩)
    (fun iv _ => v.fields.length - (intOf iv).toNat)
  case atStart => exact ⟨0, Nat.zero_le _, rfl, HB5.out, HX5.out⟩
  case round =>
    obtain ⟨q, hq, rfl, hbel, hat⟩ := hrel
    have HBel := hid hbel
    have HAt := hid hat
    have hsw : w.heap.size < wr.heap.size := HAt.out.lt
    clear hbel hat hcx HX5 HB5
    have hcx := HAt.out.cells
    simp only [VC.arr] at hcx
    by_cases hlt : q < v.fields.length
    · obtain ⟨b0, o0, hal, hb0, _, hcell⟩ := HF.out.2.2 (by omega)
      subst hal
      have hkey : wr.cell? ⟨b0, o0 + q * 14, none⟩ = some (.string (v.fields[q]'hlt).1) := by
        rw [HBel.out.cell hb0]
        have := hcell q hlt 0 (by omega)
        simpa [hlt, fcell] using this
      clear hcell
      have hb0' : b0 < wr.heap.size := by have := HBel.out.size; omega
      have HH := hid (fun (W : World) (ba : Nat) (hB : Below wr.heap.size wr W) (hA : At W ba (tvc (v.fields[q]'hlt).1)) => has_drew hB (HHAS.out W.drew ba q hlt ⟨fun b hb _ => (hB.block b (Nat.lt_of_lt_of_le hb HBel.out.size)).trans (HBel.out.block b hb), fun _ _ h => h⟩ hA.lt (fun j hj => (hA.cells j).trans (vc_cell _ j hj))))
      generalize (v.fields[q]'hlt).1 = key at hkey HH
      have hne1 : ¬ b0 = wr.heap.size := by omega
      have hne2 : ¬ wr.heap.size = b0 := by omega
      have hm1 : ¬ w.heap.size = wr.heap.size := by omega
      have hm2 : ¬ wr.heap.size = w.heap.size := by omega
      have hm3 : ¬ w.heap.size = wr.heap.size + 1 := by omega
      have hm4 : ¬ wr.heap.size + 1 = w.heap.size := by omega
      have hne3 : ¬ b0 = wr.heap.size + 1 := by omega
      have hne4 : ¬ wr.heap.size + 1 = b0 := by omega
      go_wp2_with fail
      go_region_held3 (fun w' => w'.cell? ⟨w.heap.size, 0, none⟩ = some (.int .i64 7) ∧ w'.cell? ⟨w.heap.size, 1, none⟩ = some (.bool b) ∧ w'.cell? ⟨w.heap.size, 2, none⟩ = some (.bool ng) ∧ w'.cell? ⟨w.heap.size, 3, none⟩ = some (.string dg) ∧ w'.cell? ⟨w.heap.size, 4, none⟩ = some (.int .i64 ex) ∧ w'.cell? ⟨w.heap.size, 5, none⟩ = some (.int .i64 tk) ∧ w'.cell? ⟨w.heap.size, 6, none⟩ = some (.int .i64 td) ∧ w'.cell? ⟨w.heap.size, 7, none⟩ = some (.int .i64 tn) ∧ w'.cell? ⟨w.heap.size, 8, none⟩ = some (.int .i64 to_) ∧ w'.cell? ⟨w.heap.size, 9, none⟩ = some (.string tx) ∧ w'.cell? ⟨w.heap.size, 10, none⟩ = some (.slice ab nb cb) ∧ w'.cell? ⟨w.heap.size, 11, none⟩ = some (.slice al nl cl) ∧ w'.cell? ⟨w.heap.size, 12, none⟩ = some (.slice (some ⟨b0, o0, none⟩) v.fields.length cf) ∧ w'.cell? ⟨b0, o0 + q * 14, none⟩ = some (.string key))
        (go_keep)
        ((go_at_call 7; refine (HH.out _ _ (by repeat (first | (with_reducible exact Below.refl _ _) | (with_reducible refine Below.alloc ?_ (by first | omega | (simp only [World.size_alloc]; omega)) _))) (by with_reducible first | exact at_s1 _ _ | exact at_s2 _ _ _ | exact at_s3 _ _ _)).mono ?_; rintro e w6 ⟨rfl, hb8, hb7⟩; have HB6 := hid hb8; have hkeep := bcell hb8; obtain ⟨hc1, hf1⟩ := hkeep; have hs6 := hb8.size; first | (with_reducible have hbx := box_b hb7; obtain ⟨hcy, hfy, hsz⟩ := hbx) | (with_reducible have hbx := box_c hb7; obtain ⟨hcy, hfy, hsz⟩ := hbx) | skip; clear hb7 hb8))
      all_goals
        go_wp2_with fail
        go_roundw
        case rel =>
          have hbb := HB6.out
          refine ⟨q + 1, by omega, by go_num, HBel.out.trans (Below.mono (B := wr.heap.size) ?_ (by omega)), HAt.out.then ?_⟩
          all_goals
            repeat (first | (with_reducible exact hbb) | (with_reducible refine Below.setCell ?_ (by simp only []; omega) _) | (with_reducible refine Below.alloc ?_ (by omega) _))
        case measure =>
          simp only [intOf]
          omega
    · go_wp2_with fail
      go_ret
      exact ⟨rfl, HBel.out⟩
end Go.Proofs.YtaeclmligojlaaaGreatDoor.D

/- What the bound on the bulk gives. Conditions: none. -/
namespace Go.Proofs.YtaeclmligojlaaaGreatDoor.D

theorem bulk_pos {H : Type} (d : DataW H) : 1 ≤ Rows.uptoBulk d := by
  cases d with
  | lit l => cases l <;> simp [Rows.uptoBulk]
  | _ => simp [Rows.uptoBulk]
theorem bulk_len {H : Type} (l : List (DataW H)) : l.length ≤ Rows.uptoBulkAll l := by
  induction l with
  | nil => simp [Rows.uptoBulkAll]
  | cons x r ih => have := bulk_pos x; simp only [Rows.uptoBulkAll, List.length_cons]; omega
theorem bulk_part {H : Type} {α : Type} (g : α → DataW H) (l : List α) : ∀ x ∈ l, Rows.uptoBulk (g x) ≤ Rows.uptoBulkAll (l.map g) := by
  induction l with
  | nil => intro x h; cases h
  | cons y r ih =>
    intro x h
    simp only [List.map_cons, Rows.uptoBulkAll]
    cases List.mem_cons.1 h with
    | inl e => subst e; omega
    | inr e => have := ih x e; omega
theorem bulk_append {H : Type} (l r : List (DataW H)) : Rows.uptoBulkAll (l ++ r) = Rows.uptoBulkAll l + Rows.uptoBulkAll r := by
  induction l with
  | nil => simp [Rows.uptoBulkAll]
  | cons x l ih => simp only [List.cons_append, Rows.uptoBulkAll, ih]; omega
theorem bulk_small {H : Type} {l : List (DataW H)} (hk : Rows.uptoSmall H l = true) : Rows.uptoBulkAll l ≤ 1048576 := by
  simpa [Rows.uptoSmall] using hk
end Go.Proofs.YtaeclmligojlaaaGreatDoor.D

/- A reading of type api.Value, opened: the cells read as a value; its size is at most the bulk of the reading. Conditions: none but the bulk. -/
namespace Go.Proofs.YtaeclmligojlaaaGreatDoor.D
open Go.ChangeShapes Go.WideShapes Go.ChangeAt Go.RowKit Go.Deep

section
variable {H : Type} {enc : TypeId × Value → H} {W : World}

theorem row_open {a : Addr} {len sz : Nat} {cell : Nat → Nat → Value} (hs : 0 < sz) (hlen : len ≤ 9223372036854775807) (h : ∀ i, i < len → ∃ cs', W.cells? 0 (a.add (i * sz)) sz = some cs' ∧ ∀ j, j < sz → cs'[j]? = some (cell i j)) : RowAt (fun _ => False) W (some a) len len sz cell := by
  refine ⟨rfl, hlen, fun h0 => ?_⟩
  have hc : ∀ i, i < len → ∀ j, j < sz → W.cell? ((a.add (i * sz)).add j) = some (cell i j) := by
    intro i hi j hj
    obtain ⟨cs', h1, h2⟩ := h i hi
    rw [(World.cells?_some h1).2.2 j hj]
    exact h2 j hj
  obtain ⟨b, o, sp⟩ := a
  have g0 := hc 0 h0 0 hs
  have hsp : sp = none := by simpa [Addr.add] using World.cell?_spot g0
  subst hsp
  have e : ∀ i j, ((⟨b, o, none⟩ : Addr).add (i * sz)).add j = ⟨b, o + i * sz + j, none⟩ := by
    intro i j
    rw [add_add]
    unfold Addr.add
    split
    · next h => rw [show o + i * sz + j = o by omega]
    · simp [Nat.add_assoc]
  refine ⟨b, o, rfl, ?_, fun h => h, fun i hi j hj => by rw [← e]; exact hc i hi j hj⟩
  have := World.block_lt_of_cell? W _ g0
  rw [e] at this
  exact this

theorem vc_get (c : VC) (j : Nat) (h : j < 13) : c.arr[j]? = some (c.cell j) := by
  have hs : c.arr.size = 13 := rfl
  simp [VC.cell, Array.getD_eq_getD_getElem?, Array.getElem?_eq_getElem (show j < c.arr.size by omega)]

theorem weightL_le {α : Type} (f : α → Val) (g : α → DataW H) (l : List α) (h : ∀ x ∈ l, (f x).weight ≤ Rows.uptoBulk (g x)) : Val.weightL (l.map f) ≤ Rows.uptoBulkAll (l.map g) := by
  induction l with
  | nil => simp [Val.weightL, Rows.uptoBulkAll]
  | cons x l ih =>
    have h1 := h x (by simp)
    have h2 := ih (fun y hy => h y (by simp [hy]))
    simp only [List.map_cons, Val.weightL, Rows.uptoBulkAll]
    omega
theorem weightF_le {α : Type} (f : α → ByteArray × Val) (g : α → DataW H) (l : List α) (h : ∀ x ∈ l, (f x).2.weight ≤ Rows.uptoBulk (g x)) : Val.weightF (l.map f) ≤ Rows.uptoBulkAll (l.map g) := by
  induction l with
  | nil => simp [Val.weightF, Rows.uptoBulkAll]
  | cons x l ih =>
    have h1 := h x (by simp)
    have h2 := ih (fun y hy => h y (by simp [hy]))
    simp only [List.map_cons, Val.weightF, Rows.uptoBulkAll]
    omega

theorem trod_struct8 {t : TypeId} {f0 f1 f2 f3 f4 f5 f6 f7 : Go.Field} {P : Program} {fuel : Nat} {cs : List Value} {d : DataW H} {ps : List MemPlace} (ht : P.underlying t = some (.struct #[f0, f1, f2, f3, f4, f5, f6, f7])) (h : DataW.trod enc P W 0 (fun _ => true) true fuel t cs = some (d, ps)) :
    ∃ y0 y1 y2 y3 y4 y5 y6 y7 n, d = .agg [y0.1, y1.1, y2.1, y3.1, y4.1, y5.1, y6.1, y7.1] ∧ cs.length = P.cellsOf t ∧
      DataW.trod enc P W 0 (fun _ => true) true n f0.type ((cs.drop f0.offset).take (P.cellsOf f0.type)) = some y0 ∧
      DataW.trod enc P W 0 (fun _ => true) true n f1.type ((cs.drop f1.offset).take (P.cellsOf f1.type)) = some y1 ∧
      DataW.trod enc P W 0 (fun _ => true) true n f2.type ((cs.drop f2.offset).take (P.cellsOf f2.type)) = some y2 ∧
      DataW.trod enc P W 0 (fun _ => true) true n f3.type ((cs.drop f3.offset).take (P.cellsOf f3.type)) = some y3 ∧
      DataW.trod enc P W 0 (fun _ => true) true n f4.type ((cs.drop f4.offset).take (P.cellsOf f4.type)) = some y4 ∧
      DataW.trod enc P W 0 (fun _ => true) true n f5.type ((cs.drop f5.offset).take (P.cellsOf f5.type)) = some y5 ∧
      DataW.trod enc P W 0 (fun _ => true) true n f6.type ((cs.drop f6.offset).take (P.cellsOf f6.type)) = some y6 ∧
      DataW.trod enc P W 0 (fun _ => true) true n f7.type ((cs.drop f7.offset).take (P.cellsOf f7.type)) = some y7 := by
  obtain ⟨xs, n, _, hx, hl, hlen, hf⟩ := DataW.trod_struct ht h
  match xs, hlen with
  | [y0, y1, y2, y3, y4, y5, y6, y7], _ => exact ⟨y0, y1, y2, y3, y4, y5, y6, y7, n, (Prod.ext_iff.1 hx).1, hl, by simpa using hf 0 f0 rfl, by simpa using hf 1 f1 rfl, by simpa using hf 2 f2 rfl, by simpa using hf 3 f3 rfl, by simpa using hf 4 f4 rfl, by simpa using hf 5 f5 rfl, by simpa using hf 6 f6 rfl, by simpa using hf 7 f7 rfl⟩

theorem c1 : Tryz.prog.cellsOf 3 = 1 := by kernel_rfl
theorem c2 : Tryz.prog.cellsOf 4 = 1 := by kernel_rfl
theorem c3 : Tryz.prog.cellsOf 24 = 3 := by kernel_rfl
theorem c4 : Tryz.prog.cellsOf 26 = 4 := by kernel_rfl
theorem c5 : Tryz.prog.cellsOf 9 = 1 := by kernel_rfl
theorem c6 : Tryz.prog.cellsOf 27 = 1 := by kernel_rfl
theorem c7 : Tryz.prog.cellsOf 22 = 1 := by kernel_rfl
theorem c8 : Tryz.prog.cellsOf 28 = 1 := by kernel_rfl
theorem c9 : Tryz.prog.cellsOf 30 = 13 := by kernel_rfl
theorem c10 : Tryz.prog.cellsOf 41 = 14 := by kernel_rfl
theorem c11 : Tryz.prog.cellsOf 5 = 1 := by kernel_rfl

instance : Inhabited Val := ⟨.mk 0 false zD zT ⟨#[]⟩ [] [] []⟩
instance : Inhabited VC := ⟨⟨4, false, false, ⟨#[]⟩, 0, 0, 0, 0, 0, ⟨#[]⟩, none, 0, 0, none, 0, 0, none, 0, 0⟩⟩

/-- What a reading of bytes is. -/
theorem open_bytes {m : Nat} {x : Value} {y : DataW H × List MemPlace} (h : DataW.trod enc Tryz.prog W 0 (fun _ => true) true m 27 [x] = some y) :
    ∃ (A : Option Addr) (n c : Nat) (bs : List Int), x = .slice A n c ∧ RowAt (fun _ => False) W A n bs.length 1 (fun i _ => .int .u8 (bs.getD i 0)) ∧ bs.length + 1 ≤ Rows.uptoBulk y.1 := by
  rcases open_ints Tryz.underlying27 Tryz.underlying5 c11 h with ⟨hx, rfl⟩ | ⟨a, len, cap, zs, hx, _, hl, hm, hz, rfl, hc, _⟩
  · obtain rfl : x = .slice none 0 0 := by simpa using hx
    exact ⟨_, _, _, [], rfl, RowAt.nil _ _ _ _ _, by simp [Rows.uptoBulk]⟩
  · obtain rfl : x = .slice (some a) len cap := by simpa using hx
    simp only [if_true] at hz
    unfold maxLen at hm
    have hbl : (zs.take len).length = len := by rw [List.length_take]; omega
    refine ⟨_, _, _, zs.take len, rfl, ?_, ?_⟩
    · rw [hbl]
      refine row_open (by omega) (by omega) fun i hi => ⟨[.int .u8 (zs.getD i 0)], ?_, fun j hj => ?_⟩
      · rw [Nat.mul_one]
        exact cells?_one (Nat.zero_le _) (hc i (by omega))
      · obtain rfl : j = 0 := by omega
        simp [List.getD_eq_getElem?_getD, hi]
    · have := bulk_len (lits (H := H) .u8 (zs.take len))
      have e : (lits (H := H) .u8 (zs.take len)).length = (zs.take len).length := by simp [lits]
      simp only [Rows.uptoBulk]
      omega

set_option maxRecDepth 100000 in
set_option maxHeartbeats 4000000 in
theorem open_value (B : Nat) : ∀ (m : Nat) (cs : List Value) (d : DataW H) (ps : List MemPlace), Rows.uptoBulk d ≤ B → DataW.trod enc Tryz.prog W 0 (fun _ => true) true m 30 cs = some (d, ps) →
    ∃ (c : VC) (v : Val), cs = c.arr.toList ∧ VR (fun _ => False) W c v ∧ v.weight ≤ Rows.uptoBulk d ∧ (Rows.uptoBulk d ≤ 1048576 → Lim v) := by
  induction B with
  | zero =>
    intro m cs d ps hB
    have := bulk_pos d
    omega
  | succ B ih =>
    intro m cs d ps hB h
    obtain ⟨y0, y1, y2, y3, y4, y5, y6, y7, n, hd, hl, q0, q1, q2, q3, q4, q5, q6, q7⟩ := trod_struct8 Tryz.underlying30 h
    rw [c9] at hl
    match cs, hl with
    | [v0, v1, v2, v3, v4, v5, v6, v7, v8, v9, v10, v11, v12], _ =>
    clear h
    dsimp only at q0 q1 q2 q3 q4 q5 q6 q7
    simp only [c1, c2, c3, c4, c5, c6, c7, c8, List.drop_zero, List.drop_succ_cons, List.take_succ_cons, List.take_zero] at q0 q1 q2 q3 q4 q5 q6 q7
    obtain ⟨k, e0, rfl, _⟩ := DataW.trod_int Tryz.underlying3 q0
    obtain ⟨bo, e1, rfl⟩ := DataW.trod_bool Tryz.underlying4 q1
    obtain ⟨tx, e4, rfl, _⟩ := DataW.trod_string Tryz.underlying9 q4
    -- the number
    obtain ⟨z0, z1, z2, n2, hx2, _, r0, r1, r2⟩ := trod_struct3 Tryz.underlying24 q2
    dsimp only at r0 r1 r2
    simp only [c1, c2, c5, List.drop_zero, List.drop_succ_cons, List.take_succ_cons, List.take_zero] at r0 r1 r2
    obtain ⟨ng, f0, rfl⟩ := DataW.trod_bool Tryz.underlying4 r0
    obtain ⟨dg, f1, rfl, _⟩ := DataW.trod_string Tryz.underlying9 r1
    obtain ⟨ex, f2, rfl, _⟩ := DataW.trod_int Tryz.underlying3 r2
    clear r0 r1 r2 q2
    -- the moment
    obtain ⟨t0, t1, t2, t3, n3, hx3, _, s0, s1, s2, s3⟩ := Go.Joins.trod_struct4 Tryz.underlying26 q3
    dsimp only at s0 s1 s2 s3
    simp only [c1, List.drop_zero, List.drop_succ_cons, List.take_succ_cons, List.take_zero] at s0 s1 s2 s3
    obtain ⟨tk, g0, rfl, _⟩ := DataW.trod_int Tryz.underlying3 s0
    obtain ⟨td, g1, rfl, _⟩ := DataW.trod_int Tryz.underlying3 s1
    obtain ⟨tn, g2, rfl, _⟩ := DataW.trod_int Tryz.underlying3 s2
    obtain ⟨tz, g3, rfl, _⟩ := DataW.trod_int Tryz.underlying3 s3
    clear s0 s1 s2 s3 q3 q0 q1 q4
    -- the bytes
    obtain ⟨ab, nb, cb, bs, rfl, hb, hbb⟩ := open_bytes q5
    clear q5
    have hy2 := (Prod.ext_iff.1 hx2).1
    simp only [] at hy2
    rw [hy2] at hd
    subst hd
    simp only [Rows.uptoBulk, Rows.uptoBulkAll, Array.length_toList, ByteArray.size_data] at hB ⊢
    clear hx2 hy2 hx3
    -- the list
    have hB6 : Rows.uptoBulk y6.1 ≤ B := by omega
    have hB7 : Rows.uptoBulk y7.1 ≤ B := by omega
    have hL : ∃ A nl cl, v11 = .slice A nl cl ∧ ∃ (lc : Nat → VC) (l : List Val), RowAt (fun _ => False) W A nl l.length 13 (fun i => (lc i).cell) ∧ (∀ i (h : i < l.length), VR (fun _ => False) W (lc i) l[i]) ∧ Val.weightL l + 1 ≤ Rows.uptoBulk y6.1 ∧ (Rows.uptoBulk y6.1 ≤ 1048576 → ∀ i (h : i < l.length), Lim l[i]) := by
      rcases open_slice Tryz.underlying22 q6 with ⟨hx, rfl⟩ | ⟨a, len, cap, m', n', D, Pl, hx, _, hl, hm, hmm, rfl, hel⟩
      · obtain rfl : v11 = .slice none 0 0 := by simpa using hx
        exact ⟨_, _, _, rfl, fun _ => default, [], RowAt.nil _ _ _ _ _, fun i h => absurd h (by simp), by simp [Rows.uptoBulk, Val.weightL], fun _ i h => absurd h (by simp)⟩
      · obtain rfl : v11 = .slice (some a) len cap := by simpa using hx
        simp only [Rows.uptoBulk] at hB6 ⊢
        simp only [if_true] at hmm
        unfold maxLen at hm
        rw [c9] at hel
        have hpart := bulk_part D (List.range len)
        obtain ⟨F, hF⟩ := choose_lt (α := VC × Val) (n := len) (p := fun i x => (∃ cs', W.cells? 0 (a.add (i * 13)) 13 = some cs' ∧ ∀ j, j < 13 → cs'[j]? = some (x.1.cell j)) ∧ VR (fun _ => False) W x.1 x.2 ∧ x.2.weight ≤ Rows.uptoBulk (D i) ∧ (Rows.uptoBulk (D i) ≤ 1048576 → Lim x.2)) (fun i hi => by
          obtain ⟨cs', h1, h2⟩ := hel i (by omega)
          have := hpart i (List.mem_range.2 hi)
          obtain ⟨c, v, rfl, h3, h4, h5⟩ := ih n' cs' (D i) (Pl i) (by omega) h2
          exact ⟨(c, v), ⟨_, h1, fun j hj => by rw [Array.getElem?_toList]; exact vc_get c j hj⟩, h3, h4, h5⟩)
        refine ⟨_, _, _, rfl, fun i => (F i).1, (List.range len).map fun i => (F i).2, ?_, ?_, ?_, ?_⟩
        · rw [List.length_map, List.length_range]
          exact row_open (by omega) (by omega) fun i hi => (hF i hi).1
        · intro i h
          have hi : i < len := by simpa using h
          simpa using (hF i hi).2.1
        · have := weightL_le (fun i => (F i).2) D (List.range len) (fun i hi => (hF i (List.mem_range.1 hi)).2.2.1)
          omega
        · intro hle i h
          have hi : i < len := by simpa using h
          have := hpart i (List.mem_range.2 hi)
          simpa using (hF i hi).2.2.2 (by omega)
    have hF : ∃ A nf cf, v12 = .slice A nf cf ∧ ∃ (fc : Nat → VC) (l : List (ByteArray × Val)), RowAt (fun _ => False) W A nf l.length 14 (fun i => fcell ((l[i]?.map (·.1)).getD default) (fc i)) ∧ (∀ i (h : i < l.length), VR (fun _ => False) W (fc i) l[i].2) ∧ Val.weightF l + 1 ≤ Rows.uptoBulk y7.1 ∧ (Rows.uptoBulk y7.1 ≤ 1048576 → ∀ i (h : i < l.length), Lim l[i].2 ∧ l[i].1.size ≤ 1048576) := by
      rcases open_slice Tryz.underlying28 q7 with ⟨hx, rfl⟩ | ⟨a, len, cap, m', n', D, Pl, hx, _, hl, hm, hmm, rfl, hel⟩
      · obtain rfl : v12 = .slice none 0 0 := by simpa using hx
        exact ⟨_, _, _, rfl, fun _ => default, [], RowAt.nil _ _ _ _ _, fun i h => absurd h (by simp), by simp [Rows.uptoBulk, Val.weightF], fun _ i h => absurd h (by simp)⟩
      · obtain rfl : v12 = .slice (some a) len cap := by simpa using hx
        simp only [Rows.uptoBulk] at hB7 ⊢
        simp only [if_true] at hmm
        unfold maxLen at hm
        rw [c10] at hel
        have hpart := bulk_part D (List.range len)
        obtain ⟨F, hF⟩ := choose_lt (α := VC × (ByteArray × Val)) (n := len) (p := fun i x => (∃ cs', W.cells? 0 (a.add (i * 14)) 14 = some cs' ∧ ∀ j, j < 14 → cs'[j]? = some (fcell x.2.1 x.1 j)) ∧ VR (fun _ => False) W x.1 x.2.2 ∧ x.2.2.weight ≤ Rows.uptoBulk (D i) ∧ (Rows.uptoBulk (D i) ≤ 1048576 → Lim x.2.2 ∧ x.2.1.size ≤ 1048576)) (fun i hi => by
          obtain ⟨cs', h1, h2⟩ := hel i (by omega)
          have hp := hpart i (List.mem_range.2 hi)
          obtain ⟨y0, y1, n4, hx4, hl4, k0, k1⟩ := trod_struct2 Tryz.underlying41 h2
          rw [c10] at hl4
          match cs', hl4 with
          | u :: cs'', hl4 =>
          simp only [List.length_cons] at hl4
          dsimp only at k0 k1
          simp only [c5, c9, List.drop_zero, List.drop_succ_cons, List.take_succ_cons, List.take_zero] at k0 k1
          rw [List.take_of_length_le (by omega)] at k1
          obtain ⟨key, hk, rfl, _⟩ := DataW.trod_string Tryz.underlying9 k0
          obtain rfl : u = .string key := by simpa using hk
          have e := (Prod.ext_iff.1 hx4).1
          simp only [] at e
          rw [e] at hp ⊢
          simp only [Rows.uptoBulk, Rows.uptoBulkAll, Array.length_toList, ByteArray.size_data] at hp ⊢
          obtain ⟨c, v, rfl, h3, h4, h5⟩ := ih n4 cs'' y1.1 y1.2 (by omega) k1
          refine ⟨(c, key, v), ⟨_, h1, fun j hj => ?_⟩, h3, (by dsimp only; omega), fun (h : (key.size + 1 + (Rows.uptoBulk y1.1 + 0)) + 1 ≤ 1048576) => ⟨h5 (by omega), (by omega : key.size ≤ 1048576)⟩⟩
          cases j with
          | zero => rfl
          | succ j =>
            simp only [List.getElem?_cons_succ, Array.getElem?_toList, fcell]
            exact vc_get c j (by omega))
        have hget : ∀ i, i < len → ((List.range len).map fun i => (F i).2)[i]? = some (F i).2 := fun i hi => by simp [hi]
        refine ⟨_, _, _, rfl, fun i => (F i).1, (List.range len).map fun i => (F i).2, ?_, ?_, ?_, ?_⟩
        · rw [List.length_map, List.length_range]
          refine row_open (by omega) (by omega) fun i hi => ?_
          rw [hget i hi]
          exact (hF i hi).1
        · intro i h
          have hi : i < len := by simpa using h
          simpa using (hF i hi).2.1
        · have := weightF_le (fun i => (F i).2) D (List.range len) (fun i hi => (hF i (List.mem_range.1 hi)).2.2.1)
          omega
        · intro hle i h
          have hi : i < len := by simpa using h
          have := hpart i (List.mem_range.2 hi)
          simpa using (hF i hi).2.2.2 (by omega)
    obtain ⟨al, nl, cl, rfl, lc, l, hl1, hl2, hl3, hl4⟩ := hL
    obtain ⟨af, nf, cf, rfl, fc, f, hf1, hf2, hf3, hf4⟩ := hF
    refine ⟨⟨k, bo, ng, dg, ex, tk, td, tn, tz, tx, ab, nb, cb, al, nl, cl, af, nf, cf⟩, .mk k bo ⟨ng, dg, ex⟩ ⟨tk, td, tn, tz⟩ tx bs l f, ?_, ?_, ?_, ?_⟩
    · simp_all [VC.arr]
    · exact .mk _ _ lc fc rfl rfl rfl rfl rfl rfl rfl rfl rfl rfl hb hl1 hl2 hf1 hf2
    · simp only [Val.weight]
      omega
    · intro hle
      refine .mk _ ⟨?_, ?_, ?_⟩ ?_ ?_
      · simp only [Val.num]; omega
      · simp only [Val.text]; omega
      · intro i h; have := (hf4 (by omega) i h).2; simp only [Val.fields] at this ⊢; omega
      · intro i h; exact hl4 (by omega) i h
      · intro i h; exact (hf4 (by omega) i h).1
end
end Go.Proofs.YtaeclmligojlaaaGreatDoor.D
