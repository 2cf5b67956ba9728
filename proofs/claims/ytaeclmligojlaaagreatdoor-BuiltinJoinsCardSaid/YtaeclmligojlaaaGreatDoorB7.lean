/- The law BuiltinJoins: it returns true; nothing that was there has changed. Conditions: the variable MaxLen of internal/bytealg holds an int. -/
import Derived.Test.YtaeclmligojlaaaGreatDoorB5
import Derived.Test.YtaeclmligojlaaaGreatDoorB6
/- The law BuiltinJoins: it returns true; nothing that was there has changed. Conditions: the variable MaxLen of internal/bytealg holds an int. -/
namespace Go.Proofs.YtaeclmligojlaaaGreatDoor.D
open Go.RowKit

/-- A block that holds the cells of a value. -/
def At (w : World) (n : Nat) (c : VC) : Prop := w.heap[n]? = some (.cells c.arr 30 (0, 0))
theorem At.lt {w : World} {n : Nat} {c : VC} (h : At w n c) : n < w.heap.size := (Array.getElem?_eq_some_iff.1 h).1
theorem At.then {w1 w2 : World} {n : Nat} {c : VC} (h : At w1 n c) (hb : Below w1.heap.size w1 w2) : At w2 n c := (hb.block n h.lt).trans h
theorem At.alloc {w : World} {n : Nat} {c : VC} (h : At w n c) (o : Obj) : At (w.alloc o) n c := (Below.heap_alloc _ _ _ h.lt).trans h
theorem At.cells {w : World} {n : Nat} {c : VC} (h : At w n c) : ∀ j, w.cell? ⟨n, j, none⟩ = c.arr[j]? := fun j => cell_of_row w n j _ _ _ h
theorem Lim_text (s : ByteArray) (h : s.size ≤ 600) : Lim (tval s) := by
  refine ⟨_, ⟨?_, ?_, ?_⟩, fun i h => absurd h (by simp [tval, Val.list]), fun i h => absurd h (by simp [tval, Val.fields])⟩
  · simp [tval, Val.num, zD, ByteArray.size]
  · simp only [tval, Val.text]; omega
  · intro i h; exact absurd h (by simp [tval, Val.fields])
theorem VC.get (c : VC) (j : Nat) (h : j < 13) : c.arr[j]? = some (c.cell j) := by
  have hs : c.arr.size = 13 := rfl
  simp [VC.cell, Array.getD_eq_getD_getElem?, Array.getElem?_eq_getElem (show j < c.arr.size by omega)]
theorem below2 (w : World) (o1 o2 : Obj) : Below w.heap.size w ((w.alloc o1).alloc o2) := ((Below.refl _ _).alloc (Nat.le_refl _) _).alloc (by simp) _
theorem below1 (w : World) (o1 : Obj) : Below w.heap.size w (w.alloc o1) := (Below.refl _ _).alloc (Nat.le_refl _) _


set_option maxRecDepth 100000 in
set_option maxHeartbeats 8000000 in
theorem law_joins (a b c : ByteArray) (m : Int) (w : World) (hm : w.cell? ⟨1, 0, none⟩ = some (.int .i64 m)) (ha : a.size ≤ 9223372036854775807) (hb : b.size ≤ 9223372036854775807) (hc : c.size ≤ 9223372036854775807) :
    Calls Tryz.prog 5 #[.string a, .string b, .string c] w fun e w' => e = .returned (.bool true) ∧ Below w.heap.size w w' := by
  have hglt := World.block_lt_of_cell? w _ hm
  have HM := hid hm
  have hb3 : ∀ o1 o2 o3 : Obj, Below w.heap.size w (((w.alloc o1).alloc o2).alloc o3) := fun o1 o2 o3 => (((Below.refl _ _).alloc (Nat.le_refl _) _).alloc (by simp) _).alloc (by simp only [World.size_alloc]; omega) _
  have HB3 := hid hb3
  clear hm hb3
  by_cases h1 : 500 < a.size
  · go_enter Tryz.func5, Tryz.ntmps5
    go_wp2_with fail
    go_ret
    exact ⟨rfl, HB3.out _ _ _⟩
  by_cases h2 : 500 < b.size
  · go_enter Tryz.func5, Tryz.ntmps5
    go_wp2_with fail
    go_ret
    exact ⟨rfl, HB3.out _ _ _⟩
  by_cases h3 : 500 < c.size
  · go_enter Tryz.func5, Tryz.ntmps5
    go_wp2_with fail
    go_ret
    exact ⟨rfl, HB3.out _ _ _⟩
  by_cases h4 : b.size = 0
  · have hb0 : b = ⟨#[]⟩ := by
      obtain ⟨⟨l⟩⟩ := b
      cases l with
      | nil => rfl
      | cons x l => simp [ByteArray.size] at h4
    subst hb0
    clear h4
    go_enter Tryz.func5, Tryz.ntmps5
    go_wp2_with fail
    go_ret
    exact ⟨rfl, HB3.out _ _ _⟩
  have h0 : 1 ≤ b.size := by omega
  have hbe : b.toList.isEmpty = false := (not_empty b (by omega)).1
  have hbe2 : (b.toList = []) = False := (not_empty b (by omega)).2
  have hsa : a.size ≤ 500 := by omega
  have hsb : b.size ≤ 500 := by omega
  have hsc : c.size ≤ 500 := by omega
  clear h1 h2 h3 h4
  have hV : ∀ (s : ByteArray) (w' : World), s.size ≤ 500 → Calls Tryz.prog 6 #[.agg #[.int .i64 4, .bool false, .bool false, .string ⟨#[]⟩, .int .i64 0, .int .i64 0, .int .i64 0, .int .i64 0, .int .i64 0, .string s, .slice none 0 0, .slice none 0 0, .slice none 0 0]] w' fun e w'' => ∃ r : Bool, e = .returned (.bool r) ∧ (r = true → vld s.data.toList = true) ∧ Below w'.heap.size w' w'' := fun s w' hs =>
    (law_valid (tval s) (tvc s) (fun _ => False) w' (Lim_text s (by omega)) (by simp [tval, Val.weight, Val.weightL, Val.weightF]) (tvc_reads _ _ _) (fun _ h => h.elim)).mono fun e w'' ⟨r, he, hr, hb⟩ => ⟨r, he, fun h => (hr h).1.one.text, hb⟩
  have HV := hid hV
  clear hV
  go_enter Tryz.func5, Tryz.ntmps5
  go_wp2_with fail
  refine (HV.out a _ hsa).mono ?_
  rintro e w1 ⟨r1, rfl, hr1, hb1⟩
  have hX : At w1 w.heap.size (tvc a) := At.then (w1 := ((w.alloc (.cells (tvc a).arr 30)).alloc (.cells (tvc b).arr 30)).alloc (.cells (tvc c).arr 30)) (((show At (w.alloc _) w.heap.size (tvc a) from heap_alloc_new ..).alloc _).alloc _) hb1
  have hY : At w1 (w.heap.size + 1) (tvc b) := At.then (w1 := ((w.alloc (.cells (tvc a).arr 30)).alloc (.cells (tvc b).arr 30)).alloc (.cells (tvc c).arr 30)) ((show At ((w.alloc _).alloc _) (w.heap.size + 1) (tvc b) from heap_alloc2_new ..).alloc _) hb1
  have hZ : At w1 (w.heap.size + 2) (tvc c) := At.then (w1 := ((w.alloc (.cells (tvc a).arr 30)).alloc (.cells (tvc b).arr 30)).alloc (.cells (tvc c).arr 30)) (by
    have h := heap_alloc_new ((w.alloc (.cells (tvc a).arr 30)).alloc (.cells (tvc b).arr 30)) (.cells (tvc c).arr 30)
    simp only [World.size_alloc] at h
    exact h) hb1
  have HB1 : Hid (Below w.heap.size w w1) := hid ((HB3.out _ _ _).trans (hb1.mono (by simp only [World.size_alloc]; omega)))
  have HR1 := hid hr1
  have HX1 := hid hX
  have HY1 := hid hY
  have HZ1 := hid hZ
  clear hb1 hr1 hX hY hZ HB3
  cases r1 with
  | false =>
    go_wp2_with fail
    go_ret
    exact ⟨rfl, HB1.out⟩
  | true =>
  have HVA : Hid (vld a.data.toList = true) := hid (HR1.out rfl)
  clear HR1

  have hcy := HY1.out.cells
  simp only [tvc, VC.arr] at hcy
  go_wp2_with fail
  refine (HV.out b _ hsb).mono ?_
  rintro e w2 ⟨r2, rfl, hr2, hb2⟩
  have HX2 := hid (HX1.out.then hb2)
  have HY2 := hid (HY1.out.then hb2)
  have HZ2 := hid (HZ1.out.then hb2)
  have HB2 : Hid (Below w.heap.size w w2) := hid (HB1.out.trans (hb2.mono (by have := HX1.out.lt; omega)))
  have HR2 := hid hr2
  clear hb2 hr2 hcy HX1 HY1 HZ1 HB1
  cases r2 with
  | false =>
    go_wp2_with fail
    go_ret
    exact ⟨rfl, HB2.out⟩
  | true =>
  have HVB : Hid (vld b.data.toList = true) := hid (HR2.out rfl)
  clear HR2

  have hcz := HZ2.out.cells
  simp only [tvc, VC.arr] at hcz
  go_wp2_with fail
  refine (HV.out c _ hsc).mono ?_
  rintro e w3 ⟨r3, rfl, hr3, hb3⟩
  have HX3 := hid (HX2.out.then hb3)
  have HY3 := hid (HY2.out.then hb3)
  have HZ3 := hid (HZ2.out.then hb3)
  have HB3 : Hid (Below w.heap.size w w3) := hid (HB2.out.trans (hb3.mono (by have := HX2.out.lt; omega)))
  have HR3 := hid hr3
  clear hb3 hr3 hcz HX2 HY2 HZ2 HB2 HV
  cases r3 with
  | false =>
    go_wp2_with fail
    go_ret
    exact ⟨rfl, HB3.out⟩
  | true =>
  have HVC : Hid (vld c.data.toList = true) := hid (HR3.out rfl)
  clear HR3

  have hcx := HX3.out.cells
  have hcy := HY3.out.cells
  simp only [tvc, VC.arr] at hcx hcy
  have HDIV := hid (fun (w' : World) (h : w'.cell? ⟨1, 0, none⟩ = some (.int .i64 m)) => arith_div a b (tvc a) (tvc b) m (fun _ => False) w' HVA.out HVB.out (by omega) h0 h (fun _ h => h.elim) ⟨rfl, rfl⟩ ⟨rfl, rfl⟩)
  simp only [tvc, VC.arr] at HDIV
  go_wp2_with fail
  refine (HDIV.out _ ?_).mono ?_
  · exact (HB3.out.cell (p := ⟨1, 0, none⟩) hglt).trans HM.out
  rintro e w4 ⟨cl, rfl, hb4, hv4⟩
  have HX4 := hid (HX3.out.then hb4)
  have HY4 := hid (HY3.out.then hb4)
  have HZ4 := hid (HZ3.out.then hb4)
  have HB4 : Hid (Below w.heap.size w w4) := hid (HB3.out.trans (hb4.mono (by have := HX3.out.lt; omega)))
  have HV4 := hid hv4
  have hs0 : w.heap.size < w4.heap.size := HX4.out.lt
  have hs1 : w.heap.size + 1 < w4.heap.size := HY4.out.lt
  have hs2 : w.heap.size + 2 < w4.heap.size := HZ4.out.lt
  clear hb4 hv4 hcx hcy HX3 HY3 HZ3 HB3 HDIV

  have hcy := HY4.out.cells
  simp only [tvc, VC.arr] at hcy
  unfold VC.arr
  go_wp2_with fail

  refine (apply_join (partsOf a b) a b cl (tvc b) (fun _ => False) (w4.heap.size + 1) _ (by have := (partsOf_len a b h0).1; omega) (by have := (partsOf_len a b h0).2; omega) (partsOf_join a b) (by omega) HVA.out (HV4.out.goes (Goes.below (below2 _ _ _))) ⟨rfl, rfl⟩ (fun _ h => h.elim) ?_ ?_).mono ?_
  · simp only [World.size_alloc]; omega
  · intro j hj
    exact ((show At ((w4.alloc _).alloc (.cells (tvc b).arr 30)) (w4.heap.size + 1) (tvc b) from heap_alloc2_new ..).cells j).trans (VC.get _ j hj)
  rintro e w5 ⟨cs, rfl, hb5', hv5⟩
  have hb5 : Below w4.heap.size w4 w5 := (below2 _ _ _).trans (hb5'.mono (by simp only [World.size_alloc]; omega))
  have HX5 := hid (HX4.out.then hb5)
  have HY5 := hid (HY4.out.then hb5)
  have HZ5 := hid (HZ4.out.then hb5)
  have HB5 : Hid (Below w.heap.size w w5) := hid (HB4.out.trans (hb5.mono (by omega)))
  have HV5 := hid hv5
  have hs0 : w.heap.size < w5.heap.size := HX5.out.lt
  have hs1 : w.heap.size + 1 < w5.heap.size := HY5.out.lt
  have hs2 : w.heap.size + 2 < w5.heap.size := HZ5.out.lt
  clear hb5 hb5' hv5 hcy HX4 HY4 HZ4 HB4 HV4
  have hcx := HX5.out.cells
  simp only [tvc, VC.arr] at hcx
  unfold VC.arr
  go_wp2_with fail
  refine (ref_same (tval a).deep (tval a) cs (tvc a) (fun _ => False) _ (Nat.le_refl _) (HV5.out.goes (Goes.below (below1 _ _))) (tvc_reads _ _ _) (fun _ h => h.elim)).mono ?_
  rintro e w6 ⟨rfl, hb6'⟩
  have hb6 : Below w5.heap.size w5 w6 := (below1 _ _).trans (hb6'.mono (by simp only [World.size_alloc]; omega))
  have HX6 := hid (HX5.out.then hb6)
  have HY6 := hid (HY5.out.then hb6)
  have HZ6 := hid (HZ5.out.then hb6)
  have HB6 : Hid (Below w.heap.size w w6) := hid (HB5.out.trans (hb6.mono (by omega)))
  have hs0 : w.heap.size < w6.heap.size := HX6.out.lt
  have hs1 : w.heap.size + 1 < w6.heap.size := HY6.out.lt
  have hs2 : w.heap.size + 2 < w6.heap.size := HZ6.out.lt
  clear hb6 hb6' hcx HX5 HY5 HZ5 HB5 HV5
  have hcx := HX6.out.cells
  have hcy := HY6.out.cells
  simp only [tvc, VC.arr] at hcx hcy
  go_wp2_with fail
  refine (arith_add a b (tvc a) (tvc b) (fun _ => False) _ HVA.out HVB.out (by omega) (fun _ h => h.elim) ⟨rfl, rfl⟩ ⟨rfl, rfl⟩).mono ?_
  rintro e w7 ⟨cp, rfl, hb7, hv7⟩
  have HX7 := hid (HX6.out.then hb7)
  have HY7 := hid (HY6.out.then hb7)
  have HZ7 := hid (HZ6.out.then hb7)
  have HB7 : Hid (Below w.heap.size w w7) := hid (HB6.out.trans (hb7.mono (by omega)))
  have hs0 : w.heap.size < w7.heap.size := HX7.out.lt
  have hs1 : w.heap.size + 1 < w7.heap.size := HY7.out.lt
  have hs2 : w.heap.size + 2 < w7.heap.size := HZ7.out.lt
  have HV7 := hid hv7
  clear hb7 hv7 hcx hcy HX6 HY6 HZ6 HB6
  have hcy := HY7.out.cells
  have hcz := HZ7.out.cells
  simp only [tvc, VC.arr] at hcy hcz
  unfold VC.arr
  go_wp2_with fail
  refine (arith_add b c (tvc b) (tvc c) (fun _ => False) _ HVB.out HVC.out (by omega) (fun _ h => h.elim) ⟨rfl, rfl⟩ ⟨rfl, rfl⟩).mono ?_
  rintro e w8 ⟨cq, rfl, hb8', hv8⟩
  have HP8 : Hid (At w8 w7.heap.size cp) := hid (At.then (w1 := w7.alloc (.cells cp.arr 30)) (heap_alloc_new ..) hb8')
  have hb8 : Below w7.heap.size w7 w8 := (below1 _ _).trans (hb8'.mono (by simp only [World.size_alloc]; omega))
  have HX8 := hid (HX7.out.then hb8)
  have HY8 := hid (HY7.out.then hb8)
  have HZ8 := hid (HZ7.out.then hb8)
  have HB8 : Hid (Below w.heap.size w w8) := hid (HB7.out.trans (hb8.mono (by omega)))
  have hs0 : w.heap.size < w8.heap.size := HX8.out.lt
  have hs1 : w.heap.size + 1 < w8.heap.size := HY8.out.lt
  have hs2 : w.heap.size + 2 < w8.heap.size := HZ8.out.lt
  have HV8 := hid hv8
  have HVP : Hid (VR (fun _ => False) w8 cp (tval (a ++ b))) := hid (HV7.out.goes (Goes.below hb8))
  have hsp : w7.heap.size < w8.heap.size := HP8.out.lt
  clear hb8 hb8' hv8 hcy hcz HX7 HY7 HZ7 HB7 HV7
  have hcz := HZ8.out.cells
  simp only [tvc, VC.arr] at hcz
  have hcp := HP8.out.cells
  simp only [VC.arr] at hcp
  unfold VC.arr
  go_wp2_with fail
  have hvab : vld (a ++ b).data.toList = true := by
    have := vld_and _ _ HVA.out HVB.out
    simpa [ByteArray.toList_data_append] using this
  have hvbc : vld (b ++ c).data.toList = true := by
    have := vld_and _ _ HVB.out HVC.out
    simpa [ByteArray.toList_data_append] using this
  have hkp := text_cells HVP.out
  refine (arith_add (a ++ b) c cp (tvc c) (fun _ => False) _ hvab HVC.out (by simp; omega) (fun _ h => h.elim) ⟨hkp.1, hkp.2.1⟩ ⟨rfl, rfl⟩).mono ?_
  have HVBC := hid hvbc
  clear hvab hvbc hkp
  rintro e w9 ⟨cu, rfl, hb9', hv9⟩
  have HQ9 : Hid (At w9 w8.heap.size cq) := hid (At.then (w1 := w8.alloc (.cells cq.arr 30)) (heap_alloc_new ..) hb9')
  have hb9 : Below w8.heap.size w8 w9 := (below1 _ _).trans (hb9'.mono (by simp only [World.size_alloc]; omega))
  have HX9 := hid (HX8.out.then hb9)
  have HY9 := hid (HY8.out.then hb9)
  have HZ9 := hid (HZ8.out.then hb9)
  have HB9 : Hid (Below w.heap.size w w9) := hid (HB8.out.trans (hb9.mono (by omega)))
  have hs0 : w.heap.size < w9.heap.size := HX9.out.lt
  have hs1 : w.heap.size + 1 < w9.heap.size := HY9.out.lt
  have hs2 : w.heap.size + 2 < w9.heap.size := HZ9.out.lt
  have HV9 := hid hv9
  have HVQ : Hid (VR (fun _ => False) w9 cq (tval (b ++ c))) := hid (HV8.out.goes (Goes.below hb9))
  have hsq : w8.heap.size < w9.heap.size := HQ9.out.lt
  clear hb9 hb9' hv9 hcz hcp hsp HX8 HY8 HZ8 HB8 HV8 HP8 HVP
  have hcx := HX9.out.cells
  simp only [tvc, VC.arr] at hcx
  have hcq := HQ9.out.cells
  simp only [VC.arr] at hcq
  unfold VC.arr
  go_wp2_with fail
  have hkq := text_cells HVQ.out
  refine (arith_add a (b ++ c) (tvc a) cq (fun _ => False) _ HVA.out HVBC.out (by simp; omega) (fun _ h => h.elim) ⟨rfl, rfl⟩ ⟨hkq.1, hkq.2.1⟩).mono ?_
  clear hkq
  rintro e w10 ⟨cw, rfl, hb10', hv10⟩
  have HU10 : Hid (At w10 w9.heap.size cu) := hid (At.then (w1 := w9.alloc (.cells cu.arr 30)) (heap_alloc_new ..) hb10')
  have hb10 : Below w9.heap.size w9 w10 := (below1 _ _).trans (hb10'.mono (by simp only [World.size_alloc]; omega))
  have HX10 := hid (HX9.out.then hb10)
  have HY10 := hid (HY9.out.then hb10)
  have HZ10 := hid (HZ9.out.then hb10)
  have HB10 : Hid (Below w.heap.size w w10) := hid (HB9.out.trans (hb10.mono (by omega)))
  have hs0 : w.heap.size < w10.heap.size := HX10.out.lt
  have hs1 : w.heap.size + 1 < w10.heap.size := HY10.out.lt
  have hs2 : w.heap.size + 2 < w10.heap.size := HZ10.out.lt
  have HVW : Hid (VR (fun _ => False) w10 cw (tval (a ++ b ++ c))) := hid (by rw [ByteArray.append_assoc]; exact hv10)
  have HVU : Hid (VR (fun _ => False) w10 cu (tval (a ++ b ++ c))) := hid (HV9.out.goes (Goes.below hb10))
  have hsu : w9.heap.size < w10.heap.size := HU10.out.lt
  clear hb10 hb10' hv10 hcx hcq hsq HX9 HY9 HZ9 HB9 HV9 HQ9 HVQ
  have hku := text_cells HVU.out
  obtain ⟨ku, bu, nu, du, eu, tku, tdu, tnu, tou, xu, abu, nbu, cbu, alu, nlu, clu, afu, nfu, cfu⟩ := cu
  obtain ⟨hku1, hku2, hku3⟩ := hku
  clear hku3
  simp only [] at hku1 hku2
  subst hku1 hku2
  have hcu := HU10.out.cells
  simp only [VC.arr] at hcu
  have hq1 : ¬ 9223372036854775807 < a.size + b.size := by omega
  have hq2 : ¬ 9223372036854775807 < a.size + b.size + c.size := by omega
  unfold VC.arr
  go_wp2_with fail
  refine (ref_same (tval (a ++ b ++ c)).deep (tval (a ++ b ++ c)) ⟨4, bu, nu, du, eu, tku, tdu, tnu, tou, a ++ b ++ c, abu, nbu, cbu, alu, nlu, clu, afu, nfu, cfu⟩ cw (fun _ => False) _ (Nat.le_refl _) (HVU.out.goes (Goes.below (below1 _ _))) (HVW.out.goes (Goes.below (below1 _ _))) (fun _ h => h.elim)).mono ?_
  rintro e w11 ⟨rfl, hb11⟩
  have HB11 : Hid (Below w.heap.size w w11) := hid (HB10.out.trans (((below1 _ _).trans (hb11.mono (by simp only [World.size_alloc]; omega))).mono (by omega)))
  clear hb11
  go_wp2_with fail
  go_ret
  exact ⟨rfl, HB11.out⟩
end Go.Proofs.YtaeclmligojlaaaGreatDoor.D
