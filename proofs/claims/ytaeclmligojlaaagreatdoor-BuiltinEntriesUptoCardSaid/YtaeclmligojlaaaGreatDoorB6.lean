/- The reference's Same of two values that read as one: it answers true. Conditions: byte rows and lists of at most 2^32 elements. | The reference's room and Small: they answer something, for any value. Conditions: none but sizes. -/
import Derived.Test.YtaeclmligojlaaaGreatDoorB2
import Derived.Test.YtaeclmligojlaaaGreatDoorB3
import Derived.Laws.BytesArg
import Derived.Deep.RegionHeld3
import Derived.Test.YtaeclmligojlaaaGreatDoorB4
/- The reference's Same of two values that read as one: it answers true. Conditions: byte rows and lists of at most 2^32 elements. -/
namespace Go.Proofs.YtaeclmligojlaaaGreatDoor.D
open Go.RowKit

theorem dec_same (w : World) (n : Bool) (d : ByteArray) (x : Int) : (binOp .neq 24 (.agg #[.bool n, .string d, .int .i64 x]) (.agg #[.bool n, .string d, .int .i64 x])).run Tryz.prog w = .ok (.bool false) w := by
  simp [go_sem]
theorem time_same (w : World) (a b c d : Int) : (binOp .neq 26 (.agg #[.int .i64 a, .int .i64 b, .int .i64 c, .int .i64 d]) (.agg #[.int .i64 a, .int .i64 b, .int .i64 c, .int .i64 d])).run Tryz.prog w = .ok (.bool false) w := by
  simp [go_sem]
theorem convert_empty (w : World) (A : Option Addr) (c : Nat) : (convert 27 9 (.slice A 0 c)).run Tryz.prog w = .ok (.string ⟨#[]⟩) w := by
  cases A with
  | none => exact run_convert_bytes_nil w 27 5 Tryz.underlying27 Tryz.underlying5 0 c 9 Tryz.underlying9
  | some ad =>
    have hl : (loadCells ad 0).run Tryz.prog w = .ok #[] w := by
      have := run_loadCells_list (P := Tryz.prog) w ad [] (fun j v hj => by simp at hj)
      simpa using this
    rw [run_convert_bytes_string w 27 9 5 _ 0 c Tryz.underlying27 Tryz.underlying5 Tryz.underlying9, run_bytesToString w _ 0 c [] (by simpa using hl)]
    rfl
theorem convert_row (w : World) (U : Nat → Prop) (A : Option Addr) (n c : Nat) (bs : List Int) (h : RowAt U w A n bs.length 1 (fun i _ => .int .u8 (bs.getD i 0))) :
    ∀ o1 o2 : Obj, (convert 27 9 (.slice A n c)).run Tryz.prog ((w.alloc o1).alloc o2) = .ok (.string (if bs.length = 0 then ⟨#[]⟩ else strOfNums bs)) ((w.alloc o1).alloc o2) := by
  intro o1 o2
  obtain ⟨rfl, _, h3⟩ := h
  by_cases h0 : bs.length = 0
  · rw [h0, if_pos rfl]
    exact convert_empty ..
  · obtain ⟨b, o, rfl, hb, _, hc⟩ := h3 (by omega)
    rw [if_neg h0]
    refine run_convert_bytes_arg (P := Tryz.prog) ((w.alloc o1).alloc o2) 27 5 Tryz.underlying27 Tryz.underlying5 b o bs.length c bs rfl (fun i hi => ?_) 9 Tryz.underlying9
    rw [World.cell?_of_block (w := w) ((Below.heap_alloc _ _ _ (by simp only [World.size_alloc]; omega)).trans (Below.heap_alloc _ _ _ hb))]
    have := hc i hi 0 (by omega)
    simpa using this

theorem below_undrew0 {w w2 : World} (h : Below w.drew.heap.size w.drew w2) : Below w.heap.size w w2 := ⟨h.os, h.tape, h.output, h.size, h.block⟩

theorem goes_drew {U : Nat → Prop} {w wr : World} (h : Below w.heap.size w wr) : Goes U U w wr.drew := ⟨fun b hb _ => h.block b hb, fun _ _ h => h⟩

set_option maxRecDepth 100000 in
set_option maxHeartbeats 4000000 in
theorem ref_same (d : Nat) : ∀ (v : Val) (c c2 : VC) (U : Nat → Prop) (w : World), v.deep ≤ d → VR U w c v → VR U w c2 v → (∀ b, U b → b < w.heap.size) →
    Calls Tryz.prog 8 #[.agg c.arr, .agg c2.arr] w fun e w' => e = .returned (.bool true) ∧ Below w.heap.size w w' := by
  induction d with
  | zero =>
    intro v c c2 U w hd
    cases v
    simp only [Val.deep] at hd
    omega
  | succ d ih =>
    intro v c c2 U w hd hv hv2 hU
    have IH := hid ih
    have hdp := Val.deep_eq v
    obtain ⟨_, _, lc, fc, hk, hbo, hn, hdg, he, ht0, ht1, ht2, ht3, htx, hb, hl, hl', hf, hf'⟩ := hv
    obtain ⟨_, _, lc2, fc2, hk2, hbo2, hn2, hdg2, he2, ht02, ht12, ht22, ht32, htx2, hb2, hl2, hl2', hf2, hf2'⟩ := hv2
    obtain ⟨k, b, ng, dg, ex, tk, td, tn, to_, tx, ab, nb, cb, al, nl, cl, af, nf, cf⟩ := c
    obtain ⟨k2, b2, ng2, dg2, ex2, tk2, td2, tn2, to2, tx2, ab2, nb2, cb2, al2, nl2, cl2, af2, nf2, cf2⟩ := c2
    obtain ⟨vk, vb, vn, vt, vx, vbs, vl, vf⟩ := v
    simp only [Val.kind, Val.bool, Val.num, Val.time, Val.text, Val.bytes, Val.list, Val.fields] at *
    have enl := hl.1
    have enl2 := hl2.1
    have enf := hf.1
    have enf2 := hf2.1
    subst hk2 hbo2 hn2 hdg2 he2 ht02 ht12 ht22 ht32 htx2
    subst hk hbo hn hdg he ht0 ht1 ht2 ht3 htx
    have hcv1 := convert_row w U ab nb cb vbs hb
    have hcv2 := convert_row w U ab2 nb2 cb2 vbs hb2
    have hds := dec_same
    have hts := time_same
    have hmn := hl.2.1
    have hmf := hf.2.1
    have HL := hid hl
    have HL' := hid hl'
    have HF := hid hf
    have HF' := hid hf'
    have HL2 := hid hl2
    have HL2' := hid hl2'
    have HF2 := hid hf2
    have HF2' := hid hf2'
    have HU := hid hU
    have HDP := hid hdp
    obtain rfl : nl = nl2 := by omega
    obtain rfl : nf = nf2 := by omega
    have hnl1 : nl ≤ vl.length := by omega
    have hnl2 : vl.length ≤ nl := by omega
    have hnf1 : nf ≤ vf.length := by omega
    have hnf2 : vf.length ≤ nf := by omega
    clear ih hb hl hl' hf hf' hU hdp hb2 hl2 hl2' hf2 hf2' enl enl2 enf enf2
    generalize (if vbs.length = 0 then (⟨#[]⟩ : ByteArray) else strOfNums vbs) = sb at *
    simp only [VC.arr]
    go_enter Tryz.func8, Tryz.ntmps8
    go_wp2_with fail
    clear hcv1 hcv2 hds hts
    go_loopw [5] (fun iv wr => ∃ q : Nat, q ≤ nl ∧ iv = .int .i64 q ∧ Below w.heap.size w wr ∧ w.heap.size + 2 ≤ wr.heap.size ∧
        wr.heap[w.heap.size]? = some (.cells #[.int .i64 k, .bool b, .bool vn.neg, .string vn.digits, .int .i64 vn.exp, .int .i64 vt.kind, .int .i64 vt.day, .int .i64 vt.nano, .int .i64 vt.offset, .string tx, .slice ab nb cb, .slice al nl cl, .slice af nf cf] 30 (0, 0)) ∧
        wr.heap[w.heap.size + 1]? = some (.cells #[.int .i64 k, .bool b, .bool vn.neg, .string vn.digits, .int .i64 vn.exp, .int .i64 vt.kind, .int .i64 vt.day, .int .i64 vt.nano, .int .i64 vt.offset, .string tx, .slice ab2 nb2 cb2, .slice al2 nl cl2, .slice af2 nf cf2] 30 (0, 0)))
      (fun iv _ => nl - (intOf iv).toNat)
    case atStart => exact ⟨0, Nat.zero_le _, rfl, ((Below.refl _ _).alloc (Nat.le_refl _) _).alloc (by simp) _, by simp, heap_alloc2_old .., heap_alloc2_new ..⟩
    case round =>
      obtain ⟨q, hq, rfl, hbel, hsz, hx1, hx2⟩ := hrel
      have HBel := hid hbel
      have HX1 := hid hx1
      have HX2 := hid hx2
      have hcx : ∀ j, wr.cell? ⟨w.heap.size, j, none⟩ = (#[.int .i64 k, .bool b, .bool vn.neg, .string vn.digits, .int .i64 vn.exp, .int .i64 vt.kind, .int .i64 vt.day, .int .i64 vt.nano, .int .i64 vt.offset, .string tx, .slice ab nb cb, .slice al nl cl, .slice af nf cf] : Array Value)[j]? := fun j => cell_of_row wr w.heap.size j _ 30 (0, 0) hx1
      have hcy : ∀ j, wr.cell? ⟨w.heap.size + 1, j, none⟩ = (#[.int .i64 k, .bool b, .bool vn.neg, .string vn.digits, .int .i64 vn.exp, .int .i64 vt.kind, .int .i64 vt.day, .int .i64 vt.nano, .int .i64 vt.offset, .string tx, .slice ab2 nb2 cb2, .slice al2 nl cl2, .slice af2 nf cf2] : Array Value)[j]? := fun j => cell_of_row wr (w.heap.size + 1) j _ 30 (0, 0) hx2
      clear hbel hx1 hx2
      by_cases hlt : q < nl
      · obtain ⟨b0, o0, hal, hb0, hu0, hcell⟩ := HL.out.2.2 (by omega)
        subst hal
        obtain ⟨b3, o3, hal3, hb3, hu3, hcell3⟩ := HL2.out.2.2 (by omega)
        subst hal3
        have hcq : ∀ j, j < 13 → wr.cell? ⟨b0, o0 + q * 13 + j, none⟩ = some ((lc q).cell j) := fun j hj => by
          rw [HBel.out.cell hb0]
          exact hcell q (by omega) j hj
        have hcq3 : ∀ j, j < 13 → wr.cell? ⟨b3, o3 + q * 13 + j, none⟩ = some ((lc2 q).cell j) := fun j hj => by
          rw [HBel.out.cell hb3]
          exact hcell3 q (by omega) j hj
        obtain ⟨g0, g1, g2, g3, g4, g5, g6, g7, g8, g9, g10, g11, g12⟩ := val_cells hcq
        obtain ⟨k0, k1, k2, k3, k4, k5, k6, k7, k8, k9, k10, k11, k12⟩ := val_cells hcq3
        clear hcq hcell hcq3 hcell3
        have hdq := Val.deepL_get vl q (by omega)
        have HC : Hid (Calls Tryz.prog 8 #[.agg (lc q).arr, .agg (lc2 q).arr] wr.drew fun e w' => e = .returned (.bool true) ∧ Below wr.drew.heap.size wr.drew w') :=
          hid (IH.out (vl[q]'(by omega)) (lc q) (lc2 q) U wr.drew (by have := HDP.out; omega) ((HL'.out q (by omega)).goes (goes_drew HBel.out)) ((HL2'.out q (by omega)).goes (goes_drew HBel.out)) (fun b hu => by have := HU.out b hu; show b < wr.heap.size; omega))
        generalize lc q = ce at *
        generalize lc2 q = ce2 at *
        simp only [VC.arr] at HC
        have hi1 : 0 ≤ (q : Int) := by omega
        have hi2 : (q : Int) < nl := by omega
        have hs3 : w.heap.size < wr.heap.size := by omega
        have hs4 : w.heap.size + 1 < wr.heap.size := by omega
        have hs5 : b0 < wr.heap.size := by omega
        have hs6 : b3 < wr.heap.size := by omega
        go_wp2_with fail
        go_region_held3 (fun w' => w'.cell? ⟨w.heap.size, 11, none⟩ = some (.slice (some ⟨b0, o0, none⟩) nl cl) ∧ w'.cell? ⟨w.heap.size + 1, 11, none⟩ = some (.slice (some ⟨b3, o3, none⟩) nl cl2) ∧ w'.cell? ⟨b0, o0 + q * 13, none⟩ = some (.int .i64 ce.kind) ∧ w'.cell? ⟨b0, o0 + q * 13 + 1, none⟩ = some (.bool ce.bool) ∧ w'.cell? ⟨b0, o0 + q * 13 + 2, none⟩ = some (.bool ce.neg) ∧ w'.cell? ⟨b0, o0 + q * 13 + 3, none⟩ = some (.string ce.digits) ∧ w'.cell? ⟨b0, o0 + q * 13 + 4, none⟩ = some (.int .i64 ce.exp) ∧ w'.cell? ⟨b0, o0 + q * 13 + 5, none⟩ = some (.int .i64 ce.tkind) ∧ w'.cell? ⟨b0, o0 + q * 13 + 6, none⟩ = some (.int .i64 ce.day) ∧ w'.cell? ⟨b0, o0 + q * 13 + 7, none⟩ = some (.int .i64 ce.nano) ∧ w'.cell? ⟨b0, o0 + q * 13 + 8, none⟩ = some (.int .i64 ce.offset) ∧ w'.cell? ⟨b0, o0 + q * 13 + 9, none⟩ = some (.string ce.text) ∧ w'.cell? ⟨b0, o0 + q * 13 + 10, none⟩ = some (.slice ce.ab ce.nb ce.cb) ∧ w'.cell? ⟨b0, o0 + q * 13 + 11, none⟩ = some (.slice ce.al ce.nl ce.cl) ∧ w'.cell? ⟨b0, o0 + q * 13 + 12, none⟩ = some (.slice ce.af ce.nf ce.cf) ∧ w'.cell? ⟨b3, o3 + q * 13, none⟩ = some (.int .i64 ce2.kind) ∧ w'.cell? ⟨b3, o3 + q * 13 + 1, none⟩ = some (.bool ce2.bool) ∧ w'.cell? ⟨b3, o3 + q * 13 + 2, none⟩ = some (.bool ce2.neg) ∧ w'.cell? ⟨b3, o3 + q * 13 + 3, none⟩ = some (.string ce2.digits) ∧ w'.cell? ⟨b3, o3 + q * 13 + 4, none⟩ = some (.int .i64 ce2.exp) ∧ w'.cell? ⟨b3, o3 + q * 13 + 5, none⟩ = some (.int .i64 ce2.tkind) ∧ w'.cell? ⟨b3, o3 + q * 13 + 6, none⟩ = some (.int .i64 ce2.day) ∧ w'.cell? ⟨b3, o3 + q * 13 + 7, none⟩ = some (.int .i64 ce2.nano) ∧ w'.cell? ⟨b3, o3 + q * 13 + 8, none⟩ = some (.int .i64 ce2.offset) ∧ w'.cell? ⟨b3, o3 + q * 13 + 9, none⟩ = some (.string ce2.text) ∧ w'.cell? ⟨b3, o3 + q * 13 + 10, none⟩ = some (.slice ce2.ab ce2.nb ce2.cb) ∧ w'.cell? ⟨b3, o3 + q * 13 + 11, none⟩ = some (.slice ce2.al ce2.nl ce2.cl) ∧ w'.cell? ⟨b3, o3 + q * 13 + 12, none⟩ = some (.slice ce2.af ce2.nf ce2.cf))
          (go_keep)
          ((go_at_call 8; refine HC.out.mono ?_; rintro e w1 ⟨rfl, hb1⟩; have HB1 := hid (below_undrew0 hb1); have hk1 := below_undrew0 hb1; have hkeep := bcell hk1; obtain ⟨hc1, hf1⟩ := hkeep; clear hb1 hk1))
        go_wp2_with fail
        go_roundw
        case rel =>
          refine ⟨q + 1, by omega, by go_num, HBel.out.trans (HB1.out.mono (by omega)), by have := HB1.out.size; omega, ?_, ?_⟩
          · rw [HB1.out.block _ (by omega)]; exact HX1.out
          · rw [HB1.out.block _ (by omega)]; exact HX2.out
        case measure => simp [intOf]; omega
      · obtain rfl : q = nl := by omega
        clear hlt
        go_wp2_with fail
        clear hcx hcy
        obtain ⟨wo, rfl⟩ : ∃ wo : World, wo = wr := ⟨_, rfl⟩
        go_loopw [6] (fun iv wr => ∃ r : Nat, r ≤ nf ∧ iv = .int .i64 r ∧ Below w.heap.size w wr ∧ w.heap.size + 2 ≤ wr.heap.size ∧
            wr.heap[w.heap.size]? = some (.cells #[.int .i64 k, .bool b, .bool vn.neg, .string vn.digits, .int .i64 vn.exp, .int .i64 vt.kind, .int .i64 vt.day, .int .i64 vt.nano, .int .i64 vt.offset, .string tx, .slice ab nb cb, .slice al q cl, .slice af nf cf] 30 (0, 0)) ∧
            wr.heap[w.heap.size + 1]? = some (.cells #[.int .i64 k, .bool b, .bool vn.neg, .string vn.digits, .int .i64 vn.exp, .int .i64 vt.kind, .int .i64 vt.day, .int .i64 vt.nano, .int .i64 vt.offset, .string tx, .slice ab2 nb2 cb2, .slice al2 q cl2, .slice af2 nf cf2] 30 (0, 0)))
          (fun iv _ => nf - (intOf iv).toNat)
        case atStart => exact ⟨0, Nat.zero_le _, rfl, HBel.out, hsz, HX1.out, HX2.out⟩
        case round =>
          obtain ⟨r, hr, rfl, hbel, hsz, hx1, hx2⟩ := hrel
          have HBel := hid hbel
          have HX1 := hid hx1
          have HX2 := hid hx2
          have hcx : ∀ j, wr.cell? ⟨w.heap.size, j, none⟩ = (#[.int .i64 k, .bool b, .bool vn.neg, .string vn.digits, .int .i64 vn.exp, .int .i64 vt.kind, .int .i64 vt.day, .int .i64 vt.nano, .int .i64 vt.offset, .string tx, .slice ab nb cb, .slice al q cl, .slice af nf cf] : Array Value)[j]? := fun j => cell_of_row wr w.heap.size j _ 30 (0, 0) hx1
          have hcy : ∀ j, wr.cell? ⟨w.heap.size + 1, j, none⟩ = (#[.int .i64 k, .bool b, .bool vn.neg, .string vn.digits, .int .i64 vn.exp, .int .i64 vt.kind, .int .i64 vt.day, .int .i64 vt.nano, .int .i64 vt.offset, .string tx, .slice ab2 nb2 cb2, .slice al2 q cl2, .slice af2 nf cf2] : Array Value)[j]? := fun j => cell_of_row wr (w.heap.size + 1) j _ 30 (0, 0) hx2
          clear hbel hx1 hx2
          by_cases hlt : r < nf
          · obtain ⟨b0, o0, hal, hb0, hu0, hcell⟩ := HF.out.2.2 (by omega)
            subst hal
            obtain ⟨b3, o3, hal3, hb3, hu3, hcell3⟩ := HF2.out.2.2 (by omega)
            subst hal3
            have hcq : ∀ j, j < 14 → wr.cell? ⟨b0, o0 + r * 14 + j, none⟩ = some (fcell ((vf[r]?.map (·.1)).getD default) (fc r) j) := fun j hj => by
              rw [HBel.out.cell hb0]
              exact hcell r (by omega) j hj
            have hcq3 : ∀ j, j < 14 → wr.cell? ⟨b3, o3 + r * 14 + j, none⟩ = some (fcell ((vf[r]?.map (·.1)).getD default) (fc2 r) j) := fun j hj => by
              rw [HBel.out.cell hb3]
              exact hcell3 r (by omega) j hj
            obtain ⟨g0, g1, g2, g3, g4, g5, g6, g7, g8, g9, g10, g11, g12, g13⟩ := field_cells hcq
            obtain ⟨k0, k1, k2, k3, k4, k5, k6, k7, k8, k9, k10, k11, k12, k13⟩ := field_cells hcq3
            clear hcq hcell hcq3 hcell3
            have hdq := Val.deepF_get vf r (by omega)
            have HC : Hid (Calls Tryz.prog 8 #[.agg (fc r).arr, .agg (fc2 r).arr] wr.drew fun e w' => e = .returned (.bool true) ∧ Below wr.drew.heap.size wr.drew w') :=
              hid (IH.out (vf[r]'(by omega)).2 (fc r) (fc2 r) U wr.drew (by have := HDP.out; omega) ((HF'.out r (by omega)).goes (goes_drew HBel.out)) ((HF2'.out r (by omega)).goes (goes_drew HBel.out)) (fun b hu => by have := HU.out b hu; show b < wr.heap.size; omega))
            generalize (vf[r]?.map (·.1)).getD default = key at *
            generalize fc r = ce at *
            generalize fc2 r = ce2 at *
            simp only [VC.arr] at HC
            have hi1 : 0 ≤ (r : Int) := by omega
            have hi2 : (r : Int) < nf := by omega
            have hs3 : w.heap.size < wr.heap.size := by omega
            have hs4 : w.heap.size + 1 < wr.heap.size := by omega
            have hs5 : b0 < wr.heap.size := by omega
            have hs6 : b3 < wr.heap.size := by omega
            go_wp2_with fail
            go_region_held3 (fun w' => w'.cell? ⟨w.heap.size, 12, none⟩ = some (.slice (some ⟨b0, o0, none⟩) nf cf) ∧ w'.cell? ⟨w.heap.size + 1, 12, none⟩ = some (.slice (some ⟨b3, o3, none⟩) nf cf2) ∧ w'.cell? ⟨b0, o0 + r * 14, none⟩ = some (.string key) ∧ w'.cell? ⟨b3, o3 + r * 14, none⟩ = some (.string key) ∧ w'.cell? ⟨b0, o0 + r * 14 + 1, none⟩ = some (.int .i64 ce.kind) ∧ w'.cell? ⟨b0, o0 + r * 14 + 2, none⟩ = some (.bool ce.bool) ∧ w'.cell? ⟨b0, o0 + r * 14 + 3, none⟩ = some (.bool ce.neg) ∧ w'.cell? ⟨b0, o0 + r * 14 + 4, none⟩ = some (.string ce.digits) ∧ w'.cell? ⟨b0, o0 + r * 14 + 5, none⟩ = some (.int .i64 ce.exp) ∧ w'.cell? ⟨b0, o0 + r * 14 + 6, none⟩ = some (.int .i64 ce.tkind) ∧ w'.cell? ⟨b0, o0 + r * 14 + 7, none⟩ = some (.int .i64 ce.day) ∧ w'.cell? ⟨b0, o0 + r * 14 + 8, none⟩ = some (.int .i64 ce.nano) ∧ w'.cell? ⟨b0, o0 + r * 14 + 9, none⟩ = some (.int .i64 ce.offset) ∧ w'.cell? ⟨b0, o0 + r * 14 + 10, none⟩ = some (.string ce.text) ∧ w'.cell? ⟨b0, o0 + r * 14 + 11, none⟩ = some (.slice ce.ab ce.nb ce.cb) ∧ w'.cell? ⟨b0, o0 + r * 14 + 12, none⟩ = some (.slice ce.al ce.nl ce.cl) ∧ w'.cell? ⟨b0, o0 + r * 14 + 13, none⟩ = some (.slice ce.af ce.nf ce.cf) ∧ w'.cell? ⟨b3, o3 + r * 14 + 1, none⟩ = some (.int .i64 ce2.kind) ∧ w'.cell? ⟨b3, o3 + r * 14 + 2, none⟩ = some (.bool ce2.bool) ∧ w'.cell? ⟨b3, o3 + r * 14 + 3, none⟩ = some (.bool ce2.neg) ∧ w'.cell? ⟨b3, o3 + r * 14 + 4, none⟩ = some (.string ce2.digits) ∧ w'.cell? ⟨b3, o3 + r * 14 + 5, none⟩ = some (.int .i64 ce2.exp) ∧ w'.cell? ⟨b3, o3 + r * 14 + 6, none⟩ = some (.int .i64 ce2.tkind) ∧ w'.cell? ⟨b3, o3 + r * 14 + 7, none⟩ = some (.int .i64 ce2.day) ∧ w'.cell? ⟨b3, o3 + r * 14 + 8, none⟩ = some (.int .i64 ce2.nano) ∧ w'.cell? ⟨b3, o3 + r * 14 + 9, none⟩ = some (.int .i64 ce2.offset) ∧ w'.cell? ⟨b3, o3 + r * 14 + 10, none⟩ = some (.string ce2.text) ∧ w'.cell? ⟨b3, o3 + r * 14 + 11, none⟩ = some (.slice ce2.ab ce2.nb ce2.cb) ∧ w'.cell? ⟨b3, o3 + r * 14 + 12, none⟩ = some (.slice ce2.al ce2.nl ce2.cl) ∧ w'.cell? ⟨b3, o3 + r * 14 + 13, none⟩ = some (.slice ce2.af ce2.nf ce2.cf))
              (go_keep)
              ((go_at_call 8; refine HC.out.mono ?_; rintro e w1 ⟨rfl, hb1⟩; have HB1 := hid (below_undrew0 hb1); have hk1 := below_undrew0 hb1; have hkeep := bcell hk1; obtain ⟨hc1, hf1⟩ := hkeep; clear hb1 hk1))
            go_wp2_with fail
            go_roundw
            case rel =>
              refine ⟨r + 1, by omega, by go_num, HBel.out.trans (HB1.out.mono (by omega)), by have := HB1.out.size; omega, ?_, ?_⟩
              · rw [HB1.out.block _ (by omega)]; exact HX1.out
              · rw [HB1.out.block _ (by omega)]; exact HX2.out
            case measure => simp [intOf]; omega
          · obtain rfl : r = nf := by omega
            go_wp2_with fail
            go_ret
            exact ⟨rfl, HBel.out⟩
end Go.Proofs.YtaeclmligojlaaaGreatDoor.D

/- The reference's room and Small: they answer something, for any value. Conditions: none but sizes. -/
namespace Go.Proofs.YtaeclmligojlaaaGreatDoor.D
open Go.RowKit

/-- room answers at most one less than was left, and at least -1. -/
def RoomEnd (v : Val) (left dep : Int) (w : World) (e : Ending) (w' : World) : Prop :=
  ∃ r : Int, e = .returned (.int .i64 r) ∧ -1 ≤ r ∧ r < max left 1 ∧ (0 ≤ r → r = left - v.cnt ∧ (v.deep : Int) ≤ dep) ∧ Below w.heap.size w w'

theorem deepF_take (l : List (ByteArray × Val)) : ∀ i (h : i < l.length), Val.deepF (l.take (i + 1)) = max (Val.deepF (l.take i)) l[i].2.deep := by
  induction l with
  | nil => intro i h; simp at h
  | cons v l ih =>
    intro i h
    cases i with
    | zero => simp [Val.deepF]
    | succ i => have := ih i (by simpa using h); simp only [List.take_succ_cons, Val.deepF, List.getElem_cons_succ]; omega

set_option maxRecDepth 100000 in
set_option maxHeartbeats 4000000 in
theorem ref_room (d : Nat) : ∀ (v : Val) (c : VC) (U : Nat → Prop) (left dep : Int) (w : World), v.deep ≤ d → VR U w c v → (∀ b, U b → b < w.heap.size) → 0 ≤ left → left ≤ 100000 → -1 ≤ dep → dep ≤ 1000 →
    Calls Tryz.prog 32 #[.agg c.arr, .int .i64 left, .int .i64 dep] w (RoomEnd v left dep w) := by
  induction d with
  | zero =>
    intro v c U dep seen w hd
    cases v
    simp only [Val.deep] at hd
    omega
  | succ d ih =>
    intro v c U left dep w hd hv hU h1 h2 h3 h4
    have IH := hid ih
    have hcn := Val.cnt_eq v
    have hdp := Val.deep_eq v
    obtain ⟨_, _, lc, fc, hk, hbo, hn, hdg, he, ht0, ht1, ht2, ht3, htx, hb, hl, hl', hf, hf'⟩ := hv
    obtain ⟨k, b, ng, dg, ex, tk, td, tn, to_, tx, ab, nb, cb, al, nl, cl, af, nf, cf⟩ := c
    obtain ⟨vk, vb, vn, vt, vx, vbs, vl, vf⟩ := v
    simp only [Val.kind, Val.bool, Val.num, Val.time, Val.text, Val.bytes, Val.list, Val.fields] at *
    have HL := hid hl
    have HL' := hid hl'
    have HF := hid hf
    have HF' := hid hf'
    have hnl : nl ≤ vl.length := Nat.le_of_eq hl.1
    have hnl' : vl.length ≤ nl := Nat.le_of_eq hl.1.symm
    have hnf : nf ≤ vf.length := Nat.le_of_eq hf.1
    have hnf' : vf.length ≤ nf := Nat.le_of_eq hf.1.symm
    have HU := hid hU
    have HCN := hid hcn
    have HDP := hid hdp
    clear ih hk hbo hn hdg he ht0 ht1 ht2 ht3 htx hb hl hl' hf hf' hU hcn hdp
    unfold VC.arr
    by_cases hok : 0 < dep ∧ (nl : Int) ≤ left - 1 ∧ (nf : Int) ≤ left - 1
    · obtain ⟨o1, o2, o3⟩ := hok
      go_enter Tryz.func32, Tryz.ntmps32
      go_wp2_with fail
      go_loopw [1, 7] (fun lv iv wr => ∃ (q : Nat) (l : Int), q ≤ nl ∧ iv = .int .i64 q ∧ lv = .int .i64 l ∧ -1 ≤ l ∧ l ≤ left - 1 ∧ (0 ≤ l → l = left - 1 - (Val.cntL (vl.take q) : Nat) ∧ ((Val.deepL (vl.take q) : Nat) : Int) ≤ dep - 1) ∧ Below w.heap.size w wr ∧ w.heap.size + 1 ≤ wr.heap.size ∧
          wr.heap[w.heap.size]? = some (.cells #[.int .i64 k, .bool b, .bool ng, .string dg, .int .i64 ex, .int .i64 tk, .int .i64 td, .int .i64 tn, .int .i64 to_, .string tx, .slice ab nb cb, .slice al nl cl, .slice af nf cf] 30 (0, 0)))
        (fun _ iv _ => nl - (intOf iv).toNat)
      case atStart => exact ⟨0, _, Nat.zero_le _, rfl, rfl, by omega, by omega, (fun _ => ⟨by simp [Val.cntL], by simp [Val.deepL]; omega⟩), (Below.refl _ _).alloc (Nat.le_refl _) _, by simp, heap_alloc_new w _⟩
      case round =>
        obtain ⟨q, l, hq, rfl, rfl, hl1, hl2, hto, hbel, hsz, hbx⟩ := hrel
        have HT := hid hto
        have HBel := hid hbel
        have HX := hid hbx
        have hcx : ∀ j, wr.cell? ⟨w.heap.size, j, none⟩ = (#[.int .i64 k, .bool b, .bool ng, .string dg, .int .i64 ex, .int .i64 tk, .int .i64 td, .int .i64 tn, .int .i64 to_, .string tx, .slice ab nb cb, .slice al nl cl, .slice af nf cf] : Array Value)[j]? := fun j => cell_of_row wr w.heap.size j _ 30 (0, 0) HX.out
        clear hto hbel hbx
        by_cases hlt : q < nl ∧ 0 ≤ l
        · obtain ⟨hlt, hl0⟩ := hlt
          obtain ⟨b0, o0, hal, hb0, hu0, hcell⟩ := HL.out.2.2 (by omega)
          subst hal
          have hcq : ∀ j, j < 13 → wr.cell? ⟨b0, o0 + q * 13 + j, none⟩ = some ((lc q).cell j) := fun j hj => by
            rw [HBel.out.cell hb0]
            exact hcell q (by omega) j hj
          obtain ⟨g0, g1, g2, g3, g4, g5, g6, g7, g8, g9, g10, g11, g12⟩ := val_cells hcq
          clear hcq hcell
          have HV0 := hid (HL'.out q (by omega))
          have hdq := Val.deepL_get vl q (by omega)
          have HTK := hid (take_snoc' vl q (by omega))
          have HDP' := HDP.out
          have hdd : (vl[q]'(by omega)).deep ≤ d := by omega
          clear HDP'
          generalize hce : lc q = ce at *
          generalize hve : vl[q]'(by omega) = ve at *
          clear hce hve
          go_wp2_with fail
          refine (IH.out ve ce U l (dep - 1) wr hdd (HV0.out.goes (Goes.below HBel.out)) (fun b hu => by have := HU.out b hu; omega) hl0 (by omega) (by omega) (by omega)).mono ?_
          rintro e w3 ⟨r3, rfl, hr1, hr2, h3, hb3⟩
          have HB3 := hid hb3
          have HL3 := hid h3
          clear hb3 h3
          go_wp2_with fail
          go_roundw
          case rel =>
            refine ⟨q + 1, r3, by omega, by go_num, rfl, hr1, by omega, (fun h0 => ?_), HBel.out.trans (HB3.out.mono (by omega)), by have := HB3.out.size; omega, by rw [HB3.out.block _ (by omega)]; exact HX.out⟩
            obtain ⟨t1, t2⟩ := HT.out hl0
            obtain ⟨u1, u2⟩ := HL3.out h0
            rw [HTK.out, cntL_append, deepL_append]
            simp only [Val.cntL, Val.deepL]
            omega
          case measure => simp [intOf]; omega
        · by_cases hq2 : q < nl
          all_goals
            have hnl0 : ¬ (q < nl ∧ 0 ≤ l) := hlt
            have HEND : Hid (0 ≤ l → l = left - 1 - (Val.cntL vl : Nat) ∧ ((Val.deepL vl : Nat) : Int) ≤ dep - 1) := hid (fun h0 => by
              have h := HT.out h0
              rwa [List.take_of_length_le (by omega)] at h)
            clear HT
            have hcond : (decide ((q : Int) < nl) && decide (0 ≤ l)) = false := by simp; omega
            go_wp2_with fail
            clear hcx hcond
            obtain ⟨wo, rfl⟩ : ∃ wo : World, wo = wr := ⟨_, rfl⟩
            go_loopw [1, 8] (fun lv iv wr => ∃ (r : Nat) (l : Int), r ≤ nf ∧ iv = .int .i64 r ∧ lv = .int .i64 l ∧ -1 ≤ l ∧ l ≤ left - 1 ∧ (0 ≤ l → l = left - 1 - (Val.cntL vl : Nat) - (Val.cntF (vf.take r) : Nat) ∧ ((Val.deepL vl : Nat) : Int) ≤ dep - 1 ∧ ((Val.deepF (vf.take r) : Nat) : Int) ≤ dep - 1) ∧ Below w.heap.size w wr ∧ w.heap.size + 1 ≤ wr.heap.size ∧
                wr.heap[w.heap.size]? = some (.cells #[.int .i64 k, .bool b, .bool ng, .string dg, .int .i64 ex, .int .i64 tk, .int .i64 td, .int .i64 tn, .int .i64 to_, .string tx, .slice ab nb cb, .slice al nl cl, .slice af nf cf] 30 (0, 0)))
              (fun _ iv _ => nf - (intOf iv).toNat)
            case atStart => exact ⟨0, l, Nat.zero_le _, rfl, rfl, hl1, hl2, (fun h0 => by have := HEND.out h0; simp [Val.cntF, Val.deepF]; omega), HBel.out, hsz, HX.out⟩
            case round =>
              obtain ⟨r, l', hr, rfl, rfl, hl1', hl2', hto, hbel, hsz', hbx⟩ := hrel
              have HT := hid hto
              have HBel2 := hid hbel
              have HX2 := hid hbx
              have hcx : ∀ j, wr.cell? ⟨w.heap.size, j, none⟩ = (#[.int .i64 k, .bool b, .bool ng, .string dg, .int .i64 ex, .int .i64 tk, .int .i64 td, .int .i64 tn, .int .i64 to_, .string tx, .slice ab nb cb, .slice al nl cl, .slice af nf cf] : Array Value)[j]? := fun j => cell_of_row wr w.heap.size j _ 30 (0, 0) HX2.out
              clear hto hbel hbx
              by_cases hlt2 : r < nf ∧ 0 ≤ l'
              · obtain ⟨hlt2, hl0⟩ := hlt2
                obtain ⟨b0, o0, hal, hb0, hu0, hcell⟩ := HF.out.2.2 (by omega)
                subst hal
                have hcq : ∀ j, j < 14 → wr.cell? ⟨b0, o0 + r * 14 + j, none⟩ = some (fcell ((vf[r]?.map (·.1)).getD default) (fc r) j) := fun j hj => by
                  rw [HBel2.out.cell hb0]
                  exact hcell r (by omega) j hj
                obtain ⟨g0, g1, g2, g3, g4, g5, g6, g7, g8, g9, g10, g11, g12, g13⟩ := field_cells hcq
                clear hcq hcell
                have HV0 := hid (HF'.out r (by omega))
                have hdq := Val.deepF_get vf r (by omega)
                have HTK := hid (Val.cntF_take vf r (by omega))
                have HTD := hid (deepF_take vf r (by omega))
                have HDP' := HDP.out
                have hdd : (vf[r]'(by omega)).2.deep ≤ d := by omega
                clear HDP'
                generalize hke : (vf[r]?.map (·.1)).getD default = key at *
                generalize hce : fc r = ce at *
                generalize hve : (vf[r]'(by omega)).2 = ve at *
                clear hce hve hke
                go_wp2_with fail
                refine (IH.out ve ce U l' (dep - 1) wr hdd (HV0.out.goes (Goes.below HBel2.out)) (fun b hu => by have := HU.out b hu; omega) hl0 (by omega) (by omega) (by omega)).mono ?_
                rintro e w3 ⟨r3, rfl, hr1, hr2, h3, hb3⟩
                have HB3 := hid hb3
                have HL3 := hid h3
                clear hb3 h3
                go_wp2_with fail
                go_roundw
                case rel =>
                  refine ⟨r + 1, r3, by omega, by go_num, rfl, hr1, by omega, (fun h0 => ?_), HBel2.out.trans (HB3.out.mono (by omega)), by have := HB3.out.size; omega, by rw [HB3.out.block _ (by omega)]; exact HX2.out⟩
                  obtain ⟨t1, t2, t3⟩ := HT.out hl0
                  obtain ⟨u1, u2⟩ := HL3.out h0
                  rw [HTK.out, HTD.out]
                  omega
                case measure => simp [intOf]; omega
              · have hfin : Hid (0 ≤ l' → l' = left - 1 - (Val.cntL vl : Nat) - (Val.cntF vf : Nat) ∧ ((Val.deepL vl : Nat) : Int) ≤ dep - 1 ∧ ((Val.deepF vf : Nat) : Int) ≤ dep - 1) := hid (fun h0 => by
                  have h := HT.out h0
                  rwa [List.take_of_length_le (by omega)] at h)
                clear HT
                by_cases hr2 : r < nf
                all_goals
                  go_wp2_with fail
                  go_ret
                  refine ⟨l', rfl, hl1', by omega, (fun h0 => ?_), HBel2.out⟩
                  have := hfin.out h0
                  have := HCN.out
                  have := HDP.out
                  omega
    · have hend : ∀ w' : World, Below w.heap.size w w' → RoomEnd (.mk k b vn vt tx vbs vl vf) left dep w (.returned (.int .i64 (-1))) w' := fun w' h => ⟨-1, rfl, by omega, by omega, (fun h => absurd h (by decide)), h⟩
      have HEND := hid hend
      clear hend
      by_cases hd0 : dep ≤ 0
      · go_enter Tryz.func32, Tryz.ntmps32
        go_wp2_with fail
        go_ret
        exact HEND.out _ ((Below.refl _ _).alloc (Nat.le_refl _) _)
      · by_cases hn0 : left - 1 < (nl : Int)
        · go_enter Tryz.func32, Tryz.ntmps32
          go_wp2_with fail
          go_ret
          exact HEND.out _ ((Below.refl _ _).alloc (Nat.le_refl _) _)
        · have hn1 : left - 1 < (nf : Int) := by omega
          go_enter Tryz.func32, Tryz.ntmps32
          go_wp2_with fail
          go_ret
          exact HEND.out _ ((Below.refl _ _).alloc (Nat.le_refl _) _)

/-- Small and Check: the law's valid at 150 and 60. -/
theorem ref_small (v : Val) (c : VC) (U : Nat → Prop) (most dep : Int) (w : World) (h1 : 0 ≤ most) (h2 : most ≤ 100000) (h3 : 0 ≤ dep) (h4 : dep ≤ 1000) (hv : VR U w c v) (hU : ∀ b, U b → b < w.heap.size) :
    Calls Tryz.prog 10 #[.agg c.arr, .int .i64 most, .int .i64 dep] w fun e w' => ∃ r : Bool, e = .returned (.bool r) ∧ (r = true → (v.cnt : Int) ≤ most ∧ (v.deep : Int) ≤ dep) ∧ Below w.heap.size w w' := by
  have HC := hid (fun (w' : World) (g : Goes U U w w') (hu : ∀ b, U b → b < w'.heap.size) => ref_room v.deep v c U most dep w' (Nat.le_refl _) (hv.goes g) hu h1 h2 (by omega) h4)
  have HU := hid hU
  clear hv hU
  unfold VC.arr at HC ⊢
  go_enter Tryz.func10, Tryz.ntmps10
  go_wp2_with fail
  refine (HC.out _ ⟨fun b hb _ => Below.heap_alloc _ _ _ hb, fun _ _ h => h⟩ (fun b hu => by have := HU.out b hu; simp only [World.size_alloc]; omega)).mono ?_
  rintro e w1 ⟨r, rfl, hr1, hr2, hr3, hb⟩
  have HB := hid hb
  have H3 := hid hr3
  clear hb hr3
  go_wp2_with fail
  go_ret
  refine ⟨_, rfl, fun h => ?_, ((Below.refl _ _).alloc (Nat.le_refl _) _).trans (HB.out.mono (by simp))⟩
  have h0 : 0 ≤ r := by simpa using h
  have := H3.out h0
  omega

/-- The law's valid. -/
theorem law_valid (v : Val) (c : VC) (U : Nat → Prop) (w : World) (hl : Lim v) (hw : v.weight ≤ 4294967296) (hv : VR U w c v) (hU : ∀ b, U b → b < w.heap.size) :
    Calls Tryz.prog 6 #[.agg c.arr] w fun e w' => ∃ r : Bool, e = .returned (.bool r) ∧ (r = true → OkV v ∧ v.deep ≤ 48 ∧ v.cnt ≤ 150) ∧ Below w.heap.size w w' := by
  have HS := hid (fun (w' : World) (g : Goes U U w w') (hu : ∀ b, U b → b < w'.heap.size) => ref_small v c U 150 60 w' (by decide) (by decide) (by decide) (by decide) (hv.goes g) hu)
  have HC := hid (fun (w' : World) (g : Goes U U w w') (hu : ∀ b, U b → b < w'.heap.size) => ref_check v c U w' hl hw (hv.goes g) hu)
  have HU := hid hU
  clear hv hU hl hw
  unfold VC.arr at HS HC ⊢
  go_enter Tryz.func6, Tryz.ntmps6
  go_wp2_with fail
  refine (HS.out _ ⟨fun b hb _ => Below.heap_alloc _ _ _ hb, fun _ _ h => h⟩ (fun b hu => by have := HU.out b hu; simp only [World.size_alloc]; omega)).mono ?_
  rintro e w1 ⟨r, rfl, hr, hb⟩
  have hx1 : w1.heap[w.heap.size]? = some (.cells #[.int .i64 c.kind, .bool c.bool, .bool c.neg, .string c.digits, .int .i64 c.exp, .int .i64 c.tkind, .int .i64 c.day, .int .i64 c.nano, .int .i64 c.offset, .string c.text, .slice c.ab c.nb c.cb, .slice c.al c.nl c.cl, .slice c.af c.nf c.cf] 30 (0, 0)) := by rw [hb.block _ (by simp only [World.size_alloc]; omega)]; exact heap_alloc_new w _
  have hz1 : w.heap.size < w1.heap.size := by have := hb.size; simp only [World.size_alloc] at this; omega
  have HB1 : Hid (Below w.heap.size w w1) := hid (((Below.refl _ _).alloc (Nat.le_refl _) _).trans (hb.mono (by simp)))
  have HR := hid hr
  have hcx : ∀ j, w1.cell? ⟨w.heap.size, j, none⟩ = (#[.int .i64 c.kind, .bool c.bool, .bool c.neg, .string c.digits, .int .i64 c.exp, .int .i64 c.tkind, .int .i64 c.day, .int .i64 c.nano, .int .i64 c.offset, .string c.text, .slice c.ab c.nb c.cb, .slice c.al c.nl c.cl, .slice c.af c.nf c.cf] : Array Value)[j]? := fun j => cell_of_row w1 w.heap.size j _ 30 (0, 0) hx1
  clear hb hr hx1
  cases r with
  | false =>
    go_wp2_with fail
    go_ret
    exact ⟨false, rfl, (fun h => absurd h (by decide)), HB1.out⟩
  | true =>
    go_wp2_with fail
    refine (HC.out _ (Goes.below HB1.out) (fun b hu => by have := HU.out b hu; omega)).mono ?_
    rintro e w2 ⟨r2, rfl, hr2, hb2⟩
    have HB2 := hid hb2
    have HR2 := hid hr2
    clear hb2 hr2 hcx
    go_wp2_with fail
    go_ret
    refine ⟨_, rfl, fun h => ?_, HB1.out.trans (HB2.out.mono (Nat.le_of_lt hz1))⟩
    have h0 : r2 = 0 := by simpa using h
    have h1 := HR.out (by simp)
    have h2 := HR2.out h0
    exact ⟨h2.1, h2.2.1, by omega⟩
end Go.Proofs.YtaeclmligojlaaaGreatDoor.D
