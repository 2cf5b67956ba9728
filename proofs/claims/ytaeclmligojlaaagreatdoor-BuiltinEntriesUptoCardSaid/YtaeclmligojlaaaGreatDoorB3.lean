/- slices.Clone of bytes and value.copied (value.Copy): the copy of a value reads as the value, in new memory. Conditions: the value's weight at most 2^32, its depth at most 'left'. | value.key and value.keys of valid keys: they answer 0. Conditions: at most 65536 fields. | value.extra of a value that has no field but its kind's own. Conditions: none. | value.check and value.Check of valid values: they answer 0; the counter has been raised by the number of values. Conditions: depth and number of values within the limits. -/
import Derived.Test.YtaeclmligojlaaaGreatDoorProg
import Derived.Test.YtaeclmligojlaaaGreatDoorB1
import Derived.Deep.RegionHeld3
import Derived.IntWalk
import Derived.Test.YtaeclmligojlaaaGreatDoorB2
import Derived.Maps.OwnOps
import Derived.Maps.Views
import Derived.StringKeys
import Derived.Carry
/- slices.Clone of bytes and value.copied (value.Copy): the copy of a value reads as the value, in new memory. Conditions: the value's weight at most 2^32, its depth at most 'left'. -/
namespace Go.Proofs.YtaeclmligojlaaaGreatDoor.D
open Go.RowKit

theorem info_u8 : (Tryz.prog.info? 5).map (fun i => (i.zero, i.size, i.bytes)) = some (some (.int .u8 0), 1, 1) := by kernel_rfl
set_option maxRecDepth 100000 in
set_option maxHeartbeats 400000 in
theorem clone_bytes (U : Nat → Prop) (A : Option Addr) (n c : Nat) (bs : List Int) (w : World) (h : RowAt U w A n bs.length 1 (fun i _ => .int .u8 (bs.getD i 0))) (hl : bs.length ≤ 4294967296) (hU : ∀ b, U b → b < w.heap.size) :
    Calls Tryz.prog 141 #[.slice A n c] w fun e w' => ∃ A' c', e = .returned (.slice A' n c') ∧ Below w.heap.size w w' ∧ RowAt U w' A' n bs.length 1 (fun i _ => .int .u8 (bs.getD i 0)) := by
  have kn := fun (w : World) (a : Option Addr) (n c : Nat) => Lib.run_eql_slice_nil (P := Tryz.prog) w 27 5 a n c 0 0 Tryz.underlying27
  have H := hid h
  obtain rfl : n = bs.length := h.1
  cases A with
  | none =>
    have h0 : bs.length = 0 := by
      rcases Nat.eq_zero_or_pos bs.length with h0 | h0
      · exact h0
      · obtain ⟨b, o, he, _⟩ := h.2.2 h0
        cases he
    clear h
    have H0 := hid h0
    clear h0
    go_enter Tryz.func141, Tryz.ntmps141
    go_wp2
    go_ret
    refine ⟨none, 0, ?_, Below.refl _ _, ?_⟩
    · rw [H0.out]; rfl
    · have := H.out; exact this
  | some ad =>
    clear h
    obtain ⟨i0, hi, hz0, hz1, hz2⟩ := info_parts info_u8
    go_enter Tryz.func141, Tryz.ntmps141
    go_wp2_with (at_builtin; refine wpList_append_own_at _ rfl (.tmp 5) (.tmp 6) 27 rfl w.heap.size 5 i0 (.int .u8 0) 1 1 Tryz.underlying27 hi hz0 hz1 hz2 rfl (by decide) _ 0 [] rfl (World.ownsRow_made w #[] 0 (Nat.le_refl _) (by unfold maxLen; omega) (by simp)) ad bs.length c (bs.map (.int .u8)) rfl ?c1 ?c2 ?c3 ?c4 ?c5 ?c6 ?_)
    case c1 => simp
    case c2 =>
      intro j u hu
      have hj : j < bs.length := by
        have := (List.getElem?_eq_some_iff.1 hu).1
        simpa using this
      obtain ⟨b, o, he, hb, _, hc⟩ := H.out.2.2 (by omega)
      cases he
      have hc := hc j hj 0 (by omega)
      simp only [Nat.mul_one, Nat.add_zero] at hc
      have ha : (⟨b, o, none⟩ : Addr).add j = ⟨b, o + j, none⟩ := by unfold Addr.add; split <;> simp_all
      rw [ha, World.cell?_of_block (w := w) (Below.heap_alloc _ _ _ hb), hc, ← hu]
      simp [List.getD_eq_getElem?_getD, hj]
    case c3 => intro u hu; obtain ⟨x, _, rfl⟩ := List.mem_map.1 hu; rfl
    case c4 => unfold maxLen; omega
    case c5 => omega
    case c6 => simp
    intro v1 w1 hown hg _ _
    go_wp2
    go_ret
    obtain ⟨A', c', rfl, hr⟩ := own_row hown
    refine ⟨A', c', by simp, ?_, ?_⟩
    · exact ((Below.refl _ _).alloc (Nat.le_refl _) _).grown hg (by simp) (fun k hk => by simp [Value.ownBlock] at hk; omega)
    · have h1 := hr U (fun k hk hu => by have := (hown.lt k hk).1; have := hU k hu; omega)
      refine ⟨h1.1, h1.2.1, fun h0 => ?_⟩
      obtain ⟨b, o, he, hb, hu, hc⟩ := h1.2.2 h0
      refine ⟨b, o, he, hb, hu, fun i hi j hj => ?_⟩
      obtain rfl : j = 0 := by omega
      rw [hc i hi 0 (by omega)]
      simp [List.getD_eq_getElem?_getD, hi]
def zV : Value := .agg #[.int .i64 0, .bool false, .bool false, .string ⟨#[]⟩, .int .i64 0, .int .i64 0, .int .i64 0, .int .i64 0, .int .i64 0, .string ⟨#[]⟩, .slice none 0 0, .slice none 0 0, .slice none 0 0]
theorem info_Value : (Tryz.prog.info? 30).map (fun i => (i.zero, i.size, i.bytes)) = some (some zV, 13, 168) := by kernel_rfl
def zF : Value := .agg #[.string ⟨#[]⟩, .int .i64 0, .bool false, .bool false, .string ⟨#[]⟩, .int .i64 0, .int .i64 0, .int .i64 0, .int .i64 0, .int .i64 0, .string ⟨#[]⟩, .slice none 0 0, .slice none 0 0, .slice none 0 0]
theorem info_Field : (Tryz.prog.info? 41).map (fun i => (i.zero, i.size, i.bytes)) = some (some zF, 14, 184) := by kernel_rfl

set_option maxRecDepth 100000 in
set_option maxHeartbeats 4000000 in
theorem copied_any (d : Nat) : ∀ (v : Val) (c : VC) (U : Nat → Prop) (left : Int) (w : World), v.deep ≤ d → v.weight ≤ 4294967296 → (v.deep : Int) ≤ left → left ≤ 65536 → VR U w c v → (∀ b, U b → b < w.heap.size) →
    Calls Tryz.prog 111 #[.agg c.arr, .int .i64 left] w fun e w' => ∃ c' : VC, e = .returned (.agg c'.arr) ∧ Below w.heap.size w w' ∧ VR U w' c' v := by
  induction d with
  | zero =>
    intro v c U left w hd
    cases v
    simp only [Val.deep] at hd
    omega
  | succ d ih =>
    intro v c U left w hd hw hle hle2 hv hU
    obtain ⟨_, _, lc, fc, hk, hbo, hn, hdg, he, ht0, ht1, ht2, ht3, htx, hb, hl, hl', hf, hf'⟩ := hv
    obtain ⟨k, b, ng, dg, ex, tk, td, tn, to_, tx, ab, nb, cb, al, nl, cl, af, nf, cf⟩ := c
    obtain ⟨vk, vb, vn, vt, vx, vbs, vl, vf⟩ := v
    simp only [Val.kind, Val.bool, Val.num, Val.time, Val.text, Val.bytes, Val.list, Val.fields] at *
    have IH := hid ih
    clear ih
    have HS := hid (And.intro hk (And.intro hbo (And.intro hn (And.intro hdg (And.intro he (And.intro ht0 (And.intro ht1 (And.intro ht2 (And.intro ht3 htx)))))))))
    clear hk hbo hn hdg he ht0 ht1 ht2 ht3 htx
    have HB := hid hb
    have HL := hid hl
    have HL' := hid hl'
    have HF := hid hf
    have HF' := hid hf'
    have hnl : nl ≤ vl.length := Nat.le_of_eq hl.1
    have hnl' : vl.length ≤ nl := Nat.le_of_eq hl.1.symm
    clear hb hl hl' hf hf'
    simp only [Val.deep, Val.weight] at hd hw hle
    have hvl := (Val.weightL_get vl).1
    have hvf := (Val.weightF_get vf).1
    have hU' := hid hU
    clear hU
    have h1 : 1 ≤ left := by omega
    unfold VC.arr
    go_enter Tryz.func111, Tryz.ntmps111
    go_wp2_with fail
    refine (clone_bytes (fun b => U b ∨ b = w.heap.size ∨ b = w.heap.size + 1) _ _ _ vbs _ (HB.out.goes ⟨fun b hb _ => ?_, fun b hb h => ?_⟩) ?_ ?_).mono ?_
    · rw [Below.heap_alloc _ _ _ (by simp; omega), Below.heap_alloc _ _ _ hb]
    · rcases h with h | h | h
      · exact h
      · omega
      · omega
    · omega
    · intro b hb
      simp only [World.size_alloc]
      rcases hb with hb | hb | hb
      · have := hU'.out b hb
        omega
      · omega
      · omega
    rintro e w1 ⟨A1, c1, rfl, hb1, hr1⟩
    obtain ⟨hc1, hf1⟩ := bcell hb1
    have hs1 := hb1.size
    simp only [World.size_alloc] at hc1 hf1 hs1
    have HR1 := hid hr1
    have HB1 := hid hb1
    clear hr1 hb1
    go_wp2_with fail
    clear hc1 hf1
    go_loopw [5, 23] (fun lv iv wr => ∃ (q : Nat) (els : List VC), q ≤ nl ∧ iv = .int .i64 q ∧
        wr.ownsRow (w.heap.size + 2) 30 13 lv q (els.flatMap (·.arr.toList)) ∧ Below w.heap.size w wr ∧ w.heap.size + 2 ≤ wr.heap.size ∧
        wr.heap[w.heap.size]? = some (.cells #[.int .i64 k, .bool b, .bool ng, .string dg, .int .i64 ex, .int .i64 tk, .int .i64 td, .int .i64 tn, .int .i64 to_, .string tx, .slice A1 nb c1, .slice al nl cl, .slice af nf cf] 30 (0, 0)) ∧
        wr.heap[w.heap.size + 1]? = some (.cells zV.cells 30 (0, 0)) ∧
        VRL (Uo (fun b => U b ∨ b = w.heap.size ∨ b = w.heap.size + 1) lv) wr els (vl.take q) ∧
        RowAt (Uo (fun b => U b ∨ b = w.heap.size ∨ b = w.heap.size + 1) lv) wr A1 nb vbs.length 1 (fun i _ => .int .u8 (vbs.getD i 0)))
      (fun _ iv _ => nl - (intOf iv).toNat)
    case atStart =>
      have hx : w1.heap[w.heap.size]? = some (.cells #[.int .i64 k, .bool b, .bool ng, .string dg, .int .i64 ex, .int .i64 tk, .int .i64 td, .int .i64 tn, .int .i64 to_, .string tx, .slice ab nb cb, .slice al nl cl, .slice af nf cf] 30 (0, 0)) := by
        rw [HB1.out.block _ (by simp only [World.size_alloc]; omega)]; exact heap_alloc2_old ..
      have hx' : w1.heap[w.heap.size + 1]? = some (.cells zV.cells 30 (0, 0)) := by
        rw [HB1.out.block _ (by simp only [World.size_alloc]; omega)]; exact heap_alloc2_new ..
      have hgo : Goes (fun b => U b ∨ b = w.heap.size ∨ b = w.heap.size + 1) (Uo (fun b => U b ∨ b = w.heap.size ∨ b = w.heap.size + 1) (.slice none 0 0)) w1 (w1.setCell ⟨w.heap.size, 10, none⟩ (.slice A1 nb c1)) :=
        ⟨fun i _ hu => heap_setCell_other _ _ _ _ (fun e => hu (.inr (.inl e))), fun i _ hu => by rcases hu with hu | hu; exact hu; cases hu⟩
      refine ⟨0, [], Nat.zero_le _, rfl, World.ownsRow_nil .., ?_, ?_, ?_, ?_, ?_, ?_⟩
      · exact (((Below.refl _ _).alloc (Nat.le_refl _) _).alloc (by simp) _ |>.trans (HB1.out.mono (by simp; omega))).setCell (Nat.le_refl _) _
      · simp [World.setCell]; omega
      · rw [heap_setCell_same _ _ _ _ _ _ hx]; rfl
      · rw [heap_setCell_other _ _ _ _ (by simp)]; exact hx'
      · exact VRL.nil ..
      · exact HR1.out.goes hgo
    case round =>
      obtain ⟨q, els, hq, rfl, hown, hbel, hsz, hbx0, hbx1, hvr, hrb⟩ := hrel
      have HO := hid hown
      have HBel := hid hbel
      have HX0 := hid hbx0
      have HX1 := hid hbx1
      have HV := hid hvr
      have HRB := hid hrb
      clear hown hbel hbx0 hbx1 hvr hrb
      by_cases hlt : q < nl
      · obtain ⟨b0, o0, hal, hb0, hu0, hcell⟩ := HL.out.2.2 (by omega)
        subst hal
        have hcq : ∀ j, j < 13 → wr.cell? ⟨b0, o0 + q * 13 + j, none⟩ = some ((lc q).cell j) := fun j hj => by
          rw [HBel.out.cell hb0]
          exact hcell q (by omega) j hj
        obtain ⟨g0, g1, g2, g3, g4, g5, g6, g7, g8, g9, g10, g11, g12⟩ := val_cells hcq
        clear hcq hcell
        have hv0 : VR U w (lc q) (vl[q]'(by omega)) := HL'.out q (by omega)
        have hdq := Val.deepL_get vl q (by omega)
        have hwq := (Val.weightL_get vl).2 q (by omega)
        have HV0 := hid hv0
        clear hv0
        generalize hce : lc q = ce at *
        generalize hve : vl[q]'(by omega) = ve at *
        clear hce
        have HVE := hid hve
        clear hve
        have hlts := HBel.out.size
        have hown5 := HO.out
        go_wp2_with fail
        refine (IH.out ve ce (Uo (fun b => U b ∨ b = w.heap.size ∨ b = w.heap.size + 1) u5) _ _ (by omega) (by omega) (by omega) (by omega) (HV0.out.goes ⟨fun b hb hu => ?_, fun b hb hu => ?_⟩) (fun b hu => ?_)).mono ?_
        · rw [Below.heap_alloc _ _ _ (by omega)]
          exact HBel.out.block b hb
        · rcases hu with (hu | hu | hu) | hu
          · exact hu
          · omega
          · omega
          · have := (hown5.lt b hu).1
            omega
        · simp only [World.size_alloc]
          rcases hu with (hu | hu | hu) | hu
          · have := hU'.out b hu
            omega
          · omega
          · omega
          · have := (hown5.lt b hu).2
            omega
        rintro e w2 ⟨c', rfl, hb2, hv2⟩
        have hs2 := hb2.size
        simp only [World.size_alloc] at hs2
        have HB2 := hid hb2
        have HV2 := hid hv2
        clear hb2 hv2 hown5
        unfold VC.arr
        obtain ⟨i0, hi, hz0, hz1, hz2⟩ := info_parts info_Value
        have hown2 : w2.ownsRow (w.heap.size + 2) 30 13 u5 q (els.flatMap (·.arr.toList)) := own_below (HO.out.alloc _) HB2.out
        go_wp2_with (at_builtin; refine wpList_append_own_at _ rfl (.tmp 27) (.tmp 32) 22 rfl (w.heap.size + 2) 30 i0 zV 13 168 Tryz.underlying22 hi hz0 hz1 hz2 rfl (by decide) u5 q (els.flatMap (·.arr.toList)) rfl (hown2.alloc _) ⟨w2.heap.size, 0, none⟩ 1 1 c'.arr.toList rfl ?c1 ?c2 ?c3 ?c4 ?c5 ?c6 ?_)
        case c1 => rfl
        case c2 => exact World.news_of_block (cs := c'.arr) (t := 30) (fr := (0, 0)) (heap_alloc_new w2 _)
        case c3 => simp [VC.arr, Value.oneCell']
        case c4 => unfold maxLen; omega
        case c5 => omega
        case c6 => simp; omega
        intro v3 w3 hown3 hg3 _ hat3
        have HO3 := hid hown3
        have HG3 := hid hg3
        have HA3 := hid hat3
        clear hown3 hg3 hat3 hown2
        go_wp2_with fail
        go_roundw
        case rel =>
          have hown5 := HO.out
          have hne : ∀ x, x < w.heap.size + 2 → some x ≠ u5.ownBlock := fun x hx e => by have := (hown5.lt x e.symm).1; omega
          have hgs := round_goes (U := fun b => U b ∨ b = w.heap.size ∨ b = w.heap.size + 1) (v' := v3) HB2.out HG3.out (by simpa using HA3.out)
          refine ⟨q + 1, els ++ [c'], by omega, by go_num, by simpa [List.flatMap_append] using HO3.out, round_below HBel.out (by omega) HB2.out HG3.out (fun k hk => by have := (hown5.lt k hk).1; omega), by have := round_size HB2.out HG3.out; omega, ?_, ?_, ?_, HRB.out.goes hgs.1⟩
          · rw [round_same HB2.out HG3.out _ (by omega) (hne _ (by omega))]; exact HX0.out
          · rw [round_same HB2.out HG3.out _ (by omega) (hne _ (by omega))]; exact HX1.out
          · rw [take_snoc' vl q (by omega)]
            refine (HV.out.goes hgs.1).snoc ?_
            rw [HVE.out]
            exact HV2.out.goes hgs.2
        case measure => simp [intOf]; omega
      · obtain rfl : q = nl := by omega
        clear hlt
        have hown5 := HO.out
        obtain ⟨hqn, Al, cl', hu5, hrow⟩ := own_vals hown5
        subst hu5
        have HRow := hid (hrow (fun b => U b ∨ b = w.heap.size ∨ b = w.heap.size + 1) (fun k hk hu => by
          have := (hown5.lt k hk).1
          rcases hu with hu | hu | hu
          · have := hU'.out k hu
            omega
          · omega
          · omega))
        have HQN := hid hqn
        clear hrow hown5 hqn
        have hgu : Goes (Uo (fun b => U b ∨ b = w.heap.size ∨ b = w.heap.size + 1) (.slice Al q cl')) (fun b => U b ∨ b = w.heap.size ∨ b = w.heap.size + 1) wr wr := ⟨fun _ _ _ => rfl, fun _ _ h => .inl h⟩
        have HV1 := hid (HV.out.goes hgu)
        have HRB1 := hid (HRB.out.goes hgu)
        clear HV HRB HO hgu
        have hcx : ∀ j, wr.cell? ⟨w.heap.size, j, none⟩ = (#[Value.int .i64 k, .bool b, .bool ng, .string dg, .int .i64 ex, .int .i64 tk, .int .i64 td, .int .i64 tn, .int .i64 to_, .string tx, .slice A1 nb c1, .slice al q cl, .slice af nf cf] : Array Value)[j]? := fun j => cell_of_row wr w.heap.size j _ 30 (0, 0) HX0.out
        have hnf : nf ≤ vf.length := Nat.le_of_eq HF.out.1
        have hnf' : vf.length ≤ nf := Nat.le_of_eq HF.out.1.symm
        go_wp2_with fail
        clear hcx
        obtain ⟨wo, rfl⟩ : ∃ wo : World, wo = wr := ⟨_, rfl⟩
        go_loopw [8, 38] (fun lv iv wr => ∃ (r : Nat) (fs : List (ByteArray × VC)), r ≤ nf ∧ iv = .int .i64 r ∧
            wr.ownsRow (w.heap.size + 2) 41 14 lv r (fs.flatMap fcells) ∧ Below w.heap.size w wr ∧ w.heap.size + 2 ≤ wr.heap.size ∧
            wr.heap[w.heap.size]? = some (.cells #[.int .i64 k, .bool b, .bool ng, .string dg, .int .i64 ex, .int .i64 tk, .int .i64 td, .int .i64 tn, .int .i64 to_, .string tx, .slice A1 nb c1, .slice al q cl, .slice af nf cf] 30 (0, 0)) ∧
            wr.heap[w.heap.size + 1]? = some (.cells zV.cells 30 (0, 0)) ∧
            FRL (Uo (fun b => U b ∨ b = w.heap.size ∨ b = w.heap.size + 1) lv) wr fs (vf.take r) ∧
            RowAt (Uo (fun b => U b ∨ b = w.heap.size ∨ b = w.heap.size + 1) lv) wr Al q els.length 13 (fun i => (els.getD i default).cell) ∧
            VRL (Uo (fun b => U b ∨ b = w.heap.size ∨ b = w.heap.size + 1) lv) wr els (vl.take q) ∧
            RowAt (Uo (fun b => U b ∨ b = w.heap.size ∨ b = w.heap.size + 1) lv) wr A1 nb vbs.length 1 (fun i _ => .int .u8 (vbs.getD i 0)))
          (fun _ iv _ => nf - (intOf iv).toNat)
        case atStart =>
          have hgu : Goes (fun b => U b ∨ b = w.heap.size ∨ b = w.heap.size + 1) (Uo (fun b => U b ∨ b = w.heap.size ∨ b = w.heap.size + 1) (.slice none 0 0)) wo wo := ⟨fun _ _ _ => rfl, fun _ _ h => by rcases h with h | h; exact h; cases h⟩
          exact ⟨0, [], Nat.zero_le _, rfl, World.ownsRow_nil .., HBel.out, hsz, HX0.out, HX1.out, FRL.nil .., HRow.out.goes hgu, HV1.out.goes hgu, HRB1.out.goes hgu⟩
        case round =>
          obtain ⟨r, fs, hr, rfl, hown, hbel, hsz, hbx0, hbx1, hfr, hrow, hvr, hrb⟩ := hrel
          have HO := hid hown
          have HBel := hid hbel
          have HX0 := hid hbx0
          have HX1 := hid hbx1
          have HFR := hid hfr
          have HRow := hid hrow
          have HV := hid hvr
          have HRB := hid hrb
          clear hown hbel hbx0 hbx1 hvr hrb hfr hrow
          by_cases hlt : r < nf
          · obtain ⟨b0, o0, hal, hb0, hu0, hcell⟩ := HF.out.2.2 (by omega)
            subst hal
            have hcq : ∀ j, j < 14 → wr.cell? ⟨b0, o0 + r * 14 + j, none⟩ = some (fcell ((vf[r]?.map (·.1)).getD default) (fc r) j) := fun j hj => by
              rw [HBel.out.cell hb0]
              exact hcell r (by omega) j hj
            have hkey : (vf[r]?.map (·.1)).getD default = (vf[r]'(by omega)).1 := by
              have : r < vf.length := by omega
              simp [this]
            rw [hkey] at hcq
            have HV0 := hid (HF'.out r (by omega))
            have hdq := Val.deepF_get vf r (by omega)
            have hwq := (Val.weightF_get vf).2 r (by omega)
            generalize hce : fc r = ce at *
            generalize hve : vf[r]'(by omega) = ve at *
            obtain ⟨key, ve⟩ := ve
            dsimp only at *
            clear hce hkey hcell
            have HVE := hid hve
            clear hve
            obtain ⟨g0, g1, g2, g3, g4, g5, g6, g7, g8, g9, g10, g11, g12, g13⟩ := field_cells hcq
            clear hcq
            have hlts := HBel.out.size
            have hown5 := HO.out
            obtain ⟨i1, hi1, hy0, hy1, hy2⟩ := info_parts info_Field
            have HCall : Hid (∀ o : Obj, Calls Tryz.prog 111 #[.agg ce.arr, .int .i64 (left - 1)] (wr.alloc o).drew fun e w' => ∃ c' : VC, e = .returned (.agg c'.arr) ∧ Below (wr.alloc o).drew.heap.size (wr.alloc o).drew w' ∧ VR (Uo (fun b => U b ∨ b = w.heap.size ∨ b = w.heap.size + 1) u8) w' c' ve) := by
              intro o
              refine IH.out ve ce (Uo (fun b => U b ∨ b = w.heap.size ∨ b = w.heap.size + 1) u8) _ _ (by omega) (by omega) (by omega) (by omega) (HV0.out.goes ⟨fun b hb hu => ?_, fun b hb hu => ?_⟩) (fun b hu => ?_)
              · exact (Below.heap_alloc _ _ _ (by omega)).trans (HBel.out.block b hb)
              · rcases hu with (hu | hu | hu) | hu
                · exact hu
                · omega
                · omega
                · have := (hown5.lt b hu).1
                  omega
              · show b < (wr.alloc o).heap.size
                simp only [World.size_alloc]
                rcases hu with (hu | hu | hu) | hu
                · have := hU'.out b hu
                  omega
                · omega
                · omega
                · have := (hown5.lt b hu).2
                  omega
            clear hown5
            unfold VC.arr at HCall
            have hwl : IntKind.i64.wrap (left - 1) = left - 1 := IntWalk.i64_in _ (by omega)
            go_wp2_with fail
            go_region_held3 (fun w' => w'.cell? ⟨wr.heap.size, 0, none⟩ = some (.string key) ∧ w'.cell? ⟨wr.heap.size, 1, none⟩ = some (.int .i64 ce.kind) ∧ w'.cell? ⟨wr.heap.size, 2, none⟩ = some (.bool ce.bool) ∧ w'.cell? ⟨wr.heap.size, 3, none⟩ = some (.bool ce.neg) ∧
                w'.cell? ⟨wr.heap.size, 4, none⟩ = some (.string ce.digits) ∧ w'.cell? ⟨wr.heap.size, 5, none⟩ = some (.int .i64 ce.exp) ∧ w'.cell? ⟨wr.heap.size, 6, none⟩ = some (.int .i64 ce.tkind) ∧ w'.cell? ⟨wr.heap.size, 7, none⟩ = some (.int .i64 ce.day) ∧
                w'.cell? ⟨wr.heap.size, 8, none⟩ = some (.int .i64 ce.nano) ∧ w'.cell? ⟨wr.heap.size, 9, none⟩ = some (.int .i64 ce.offset) ∧ w'.cell? ⟨wr.heap.size, 10, none⟩ = some (.string ce.text) ∧ w'.cell? ⟨wr.heap.size, 11, none⟩ = some (.slice ce.ab ce.nb ce.cb) ∧
                w'.cell? ⟨wr.heap.size, 12, none⟩ = some (.slice ce.al ce.nl ce.cl) ∧ w'.cell? ⟨wr.heap.size, 13, none⟩ = some (.slice ce.af ce.nf ce.cf))
              (go_keep)
              (first | (refine step_append_lies _ (by rfl) (.tmp 42) (.tmp 51) 28 (by rfl) (w.heap.size + 2) 41 i1 zF 14 184 Tryz.underlying28 hi1 hy0 hy1 hy2 rfl (by omega) u8 r (fs.flatMap fcells) (by rfl) ((own_below ((HO.out.alloc _).drew) HB2.out).alloc _) ⟨w2.heap.size, 0, none⟩ 1 1 [.string key, .int .i64 c'.kind, .bool c'.bool, .bool c'.neg, .string c'.digits, .int .i64 c'.exp, .int .i64 c'.tkind, .int .i64 c'.day, .int .i64 c'.nano, .int .i64 c'.offset, .string c'.text, .slice c'.ab c'.nb c'.cb, .slice c'.al c'.nl c'.cl, .slice c'.af c'.nf c'.cf] (by rfl) (by rfl) (World.news_of_block (cs := #[.string key, .int .i64 c'.kind, .bool c'.bool, .bool c'.neg, .string c'.digits, .int .i64 c'.exp, .int .i64 c'.tkind, .int .i64 c'.day, .int .i64 c'.nano, .int .i64 c'.offset, .string c'.text, .slice c'.ab c'.nb c'.cb, .slice c'.al c'.nl c'.cl, .slice c'.af c'.nf c'.cf]) (t := 41) (fr := (0, 0)) (heap_alloc_new w2 _)) (by simp [Value.oneCell']) (by omega) (by unfold maxLen; omega) (by omega) (by simp; omega) (w2.heap.size + 1) (by simp) ?_; intro gg cap w3 hown3 hgrow hat hlt3; have hc3 : ∀ o, w3.cell? ⟨wr.heap.size, o, none⟩ = w2.cell? ⟨wr.heap.size, o, none⟩ := (cell_grown hgrow (by omega) (fun e => by have := (HO.out.lt _ e.symm).2; omega)); have HO3 := hid hown3; have HG3 := hid hgrow; have HA3 := hid hat; clear hown3 hgrow hat) | (go_at_call 111; refine (HCall.out _).mono ?_; rintro e w2 ⟨c', rfl, hb2, hv2⟩; have HB2 := hid hb2; have HV2 := hid hv2; have hb3 := bcell hb2; obtain ⟨hc2, hf2⟩ := hb3; have hs2 : wr.heap.size + 1 ≤ w2.heap.size := (by have := hb2.size; simpa [heap_drew] using this); clear hb2 hv2))
            go_wp2_with fail
            go_roundw
            case rel =>
              have hown5 := HO.out
              have hne : ∀ x, x < w.heap.size + 2 → some x ≠ u8.ownBlock := fun x hx e => by have := (hown5.lt x e.symm).1; omega
              have hbu := below_undrew HB2.out
              have hgs := round_goes (U := fun b => U b ∨ b = w.heap.size ∨ b = w.heap.size + 1) (v' := .slice (some ⟨gg, 0, none⟩) (r + 1) cap) hbu HG3.out (by
                rcases HA3.out with h | h
                · exact .inl h.symm
                · exact .inr (by rw [h]; simp [Value.ownBlock]))
              refine ⟨r + 1, fs ++ [(key, c')], by omega, by go_num, by simpa [List.flatMap_append, fcells, VC.arr] using HO3.out, round_below HBel.out (by omega) hbu HG3.out (fun k hk => by have := (hown5.lt k hk).1; omega), by have := round_size hbu HG3.out; omega, ?_, ?_, ?_, HRow.out.goes hgs.1, HV.out.goes hgs.1, HRB.out.goes hgs.1⟩
              · rw [round_same hbu HG3.out _ (by omega) (hne _ (by omega))]; exact HX0.out
              · rw [round_same hbu HG3.out _ (by omega) (hne _ (by omega))]; exact HX1.out
              · rw [take_snoc' vf r (by omega), HVE.out]
                exact (HFR.out.goes hgs.1).snoc (HV2.out.goes hgs.2)
            case measure => simp [intOf]; omega
          · obtain rfl : r = nf := by omega
            clear hlt
            have hown8 := HO.out
            obtain ⟨hfn, Af, cf', hu8, hfrow⟩ := own_fields hown8
            subst hu8
            have HFRow := hid (hfrow (fun b => U b ∨ b = w.heap.size ∨ b = w.heap.size + 1) (fun k hk hu => by
              have := (hown8.lt k hk).1
              rcases hu with hu | hu | hu
              · have := hU'.out k hu
                omega
              · omega
              · omega))
            have HFN := hid hfn
            clear hfrow hown8 hfn
            have hcx : ∀ j, wr.cell? ⟨w.heap.size, j, none⟩ = (#[Value.int .i64 k, .bool b, .bool ng, .string dg, .int .i64 ex, .int .i64 tk, .int .i64 td, .int .i64 tn, .int .i64 to_, .string tx, .slice A1 nb c1, .slice al q cl, .slice af r cf] : Array Value)[j]? := fun j => cell_of_row wr w.heap.size j _ 30 (0, 0) HX0.out
            have hfx : ∀ j, wr.frozen? ⟨w.heap.size, j, none⟩ = false := fun j => frozen_of_row wr w.heap.size j _ 30 HX0.out
            have hcy : ∀ j, wr.cell? ⟨w.heap.size + 1, j, none⟩ = zV.cells[j]? := fun j => cell_of_row wr (w.heap.size + 1) j _ 30 (0, 0) HX1.out
            have hfy : ∀ j, wr.frozen? ⟨w.heap.size + 1, j, none⟩ = false := fun j => frozen_of_row wr (w.heap.size + 1) j _ 30 HX1.out
            simp only [zV, Value.cells] at hcy
            go_wp2_with fail
            refine bodyPost_ret (v := .agg #[.int .i64 k, .bool b, .bool ng, .string dg, .int .i64 ex, .int .i64 tk, .int .i64 td, .int .i64 tn, .int .i64 to_, .string tx, .slice A1 nb c1, .slice Al q cl', .slice Af r cf']) (by simp [results, Tryz.results111, go_sem, hcy]) rfl ⟨⟨k, b, ng, dg, ex, tk, td, tn, to_, tx, A1, nb, c1, Al, q, cl', Af, r, cf'⟩, rfl, ?_, ?_⟩
            · repeat (first | (with_reducible refine Below.setCell ?_ (by simp) _) | (with_reducible exact HBel.out))
            · have hg1 : Goes (Uo (fun b => U b ∨ b = w.heap.size ∨ b = w.heap.size + 1) (.slice Af r cf')) U wr wr := ⟨fun _ _ _ => rfl, fun _ _ h => .inl (.inl h)⟩
              have hg2 : Goes (fun b => U b ∨ b = w.heap.size ∨ b = w.heap.size + 1) U wr wr := ⟨fun _ _ _ => rfl, fun _ _ h => .inl h⟩
              have e1 : vl.take q = vl := List.take_of_length_le (by omega)
              have e2 : vf.take r = vf := List.take_of_length_le (by omega)
              have hv1 := HV.out
              rw [e1] at hv1
              have hf1 := HFR.out
              rw [e2] at hf1
              refine VR.build _ _ els fs HS.out (HRB.out.goes ?_) (HRow.out.goes ?_) (hv1.goes ?_) (HFRow.out.goes ?_) (hf1.goes ?_)
              all_goals repeat (first | (with_reducible refine Goes.setCell ?_ (by simp [Uo]) _) | (with_reducible exact hg1) | (with_reducible exact hg2))
end Go.Proofs.YtaeclmligojlaaaGreatDoor.D

/- value.key and value.keys of valid keys: they answer 0. Conditions: at most 65536 fields. -/
namespace Go.Proofs.YtaeclmligojlaaaGreatDoor.D
open Go.RowKit Go.Maps Go.ChangeMaps

/-- A look-up (without 'ok') at elements that are bools. -/
theorem wpList_lookup_own_bool {H : Type} {P : Program} (w : World) {ops : Array Oper} {rest : List Oper} {o : Oper} {a : Act} {Q : Exit → Act → World → Prop}
    (hg : o.guard = none) (m x : Operand) (t : TypeId) (hop : o.op = Op.lookup t m x false)
    (k e : TypeId) (K : Keyed P k) (ht : P.underlying t = some (.map k e)) (he : P.underlying e = some .bool) (hz : (zeroValue e).run P w = .ok (.bool false) w) (b n : Nat) (D : DataW H)
    (hm : a.eval m = .map (some b)) (hown : w.ownsMap P k (plainElem P e) b n D) (key : Value) (kl : Lit) (hx : a.eval x = key) (hkey : keyOf P k key = some kl) (c : Bool) (hat : D.atKey kl (.lit (.bool false)) = .lit (.bool c))
    (hK : wpList P ops Q rest (a.put o.dst (.bool c)) w) :
    wpList P ops Q (o :: rest) a w := by
  refine wpList_plain hg fun K' hK' => ?_
  obtain ⟨v, ps, hrun, hv⟩ := hown.lookup K ht hz (plainElem_bool he false) hkey
  have hvc : v = .bool c := by
    rw [hat] at hv
    unfold plainElem at hv
    simp only [he] at hv
    split at hv <;> simp_all
  rw [hvc] at hrun
  unfold Oper.wp
  simp [execOp, hop, hm, hx, hrun, Result.andThen]
  exact hK' _ _ hK

theorem key_ok (s : ByteArray) (w : World) (h1 : vld s.data.toList = true) (h2 : s.size ≤ 1024) : Calls Tryz.prog 254 #[.string s] w fun e w' => e = .returned (.int .i64 0) ∧ Below w.heap.size w w' := by
  have HC := fun w => utf_valid s w (by omega)
  rw [h1] at HC
  have H := hid HC
  clear HC h1
  go_enter Tryz.func254, Tryz.ntmps254
  go_wp2_with fail
  refine (H.out _).mono ?_
  rintro e w1 ⟨rfl, hb⟩
  have HB := hid hb
  clear hb
  go_wp2
  go_ret
  exact ⟨rfl, HB.out⟩

theorem keyed_s : Keyed Tryz.prog 9 := string_keyed Tryz.underlying9
theorem zero_bool (w : World) : (zeroValue 4).run Tryz.prog w = .ok (.bool false) w := by kernel_rfl
def kls (fs : List (ByteArray × Val)) : List Lit := fs.map fun x => .string x.1.data.toList
def seen (fs : List (ByteArray × Val)) : DataW Unit := setOf (.lit (.bool true)) (kls fs)

theorem string_isKey (l : List UInt8) : WideAt.IsKeyLit (.string l) := by constructor
set_option maxRecDepth 100000 in
set_option maxHeartbeats 4000000 in
theorem keys_ok (U : Nat → Prop) (A : Option Addr) (n c : Nat) (fs : List (ByteArray × Val)) (fc : Nat → VC) (w : World) (h : RowAt U w A n fs.length 14 (fun i => fcell ((fs[i]?.map (·.1)).getD default) (fc i))) (hk : KeysOk fs) (hlen : fs.length ≤ 65536) :
    Calls Tryz.prog 191 #[.slice A n c] w fun e w' => e = .returned (.int .i64 0) ∧ Below w.heap.size w w' := by
  have HR := hid h
  have hnl : n ≤ fs.length := Nat.le_of_eq h.1
  have hnl' : fs.length ≤ n := Nat.le_of_eq h.1.symm
  clear h
  have HK := hid hk
  clear hk
  have hmm := @run_makeMap Tryz.prog
  go_enter Tryz.func191, Tryz.ntmps191
  go_wp2_with fail
  go_loopw [10] (fun iv wr => ∃ q : Nat, q ≤ n ∧ iv = .int .i64 q ∧ Below w.heap.size w wr ∧ wr.ownsMap Tryz.prog 9 (plainElem Tryz.prog 4) w.heap.size q (seen (fs.take q)))
    (fun iv _ => n - (intOf iv).toNat)
  case atStart =>
    exact ⟨0, Nat.zero_le _, rfl, (Below.refl _ _).alloc (Nat.le_refl _) _, World.ownsMap_made _ _ _ _⟩
  case round =>
    obtain ⟨q, hq, rfl, hbel, hown⟩ := hrel
    have HBel := hid hbel
    have HO := hid hown
    have hsz := hbel.size
    clear hbel hown
    by_cases hlt : q < n
    · obtain ⟨b0, o0, hal, hb0, hu0, hcell⟩ := HR.out.2.2 (by omega)
      subst hal
      have hcq : ∀ j, j < 14 → wr.cell? ⟨b0, o0 + q * 14 + j, none⟩ = some (fcell ((fs[q]?.map (·.1)).getD default) (fc q) j) := fun j hj => by
        rw [HBel.out.cell hb0]
        exact hcell q (by omega) j hj
      have hkey : (fs[q]?.map (·.1)).getD default = (fs[q]'(by omega)).1 := by
        have : q < fs.length := by omega
        simp [this]
      rw [hkey] at hcq
      have hkq := HK.out.ok q (by omega)
      have hno : (seen (fs.take q)).atKey (.string (fs[q]'(by omega)).1.data.toList) (.lit (.bool false)) = .lit (.bool false) := by
        refine atKey_of_not_has ?_ _
        unfold seen
        rw [has_setOf _ _ _ (fun x hx => by obtain ⟨y, _, rfl⟩ := List.mem_map.1 hx; exact string_isKey _)]
        rw [Bool.eq_false_iff]
        intro hany
        obtain ⟨x, hx, hs⟩ := List.any_eq_true.1 hany
        obtain ⟨y, hy, rfl⟩ := List.mem_map.1 hx
        obtain ⟨j, hj, rfl⟩ := List.mem_iff_getElem.1 hy
        rw [sameKey_ne] at hs
        · cases hs
        · intro he
          simp only [List.getElem_take] at he
          have hjq : j < q := by simp only [List.length_take] at hj; omega
          exact HK.out.apart j q hjq (by omega) (ByteArray.ext (Array.toList_inj.1 (Lit.string.inj he)))
      generalize hce : fc q = ce at *
      generalize hve : fs[q]'(by omega) = ve at *
      obtain ⟨key, ve⟩ := ve
      dsimp only at *
      clear hce hkey hcell
      have HVE := hid hve
      clear hve
      obtain ⟨g0, g1, g2, g3, g4, g5, g6, g7, g8, g9, g10, g11, g12, g13⟩ := field_cells hcq
      clear hcq
      have HC := hid (fun w => key_ok key w hkq.1 hkq.2)
      have HN := hid hno
      have hks := hkq.2
      clear hno hkq
      go_wp2_with fail
      refine (HC.out _).mono ?_
      rintro e w1 ⟨rfl, hb⟩
      obtain ⟨hc, hf⟩ := bcell hb
      have HB := hid hb
      clear hb
      have hown1 := (HO.out.alloc _).kept (grownBy_of_below HB.out none) (by simp)
      have HO1 := hid hown1
      clear hown1
      have hkq : keyOf Tryz.prog 9 (.string key) = some (.string key.data.toList) := Go.WideMaps.keyOf_string_mk Tryz.underlying9 (by unfold maxLen; omega)
      go_wp2_with (first
        | (at_lookup; refine wpList_lookup_own_bool _ rfl _ _ 247 rfl 9 4 keyed_s Tryz.underlying247 Tryz.underlying4 (zero_bool _) w.heap.size q _ rfl HO1.out _ _ rfl hkq false HN.out ?_)
        | (at_mapUpdate; refine wpList_mapUpdate_own _ rfl _ _ _ 247 rfl 9 4 keyed_s Tryz.underlying247 _ w.heap.size q _ rfl HO1.out (by unfold maxLen; omega) _ _ _ rfl rfl hkq _ [] (plainElem_bool Tryz.underlying4 true) ?_; intro w2 hown2 hgrow2))
      have HO2 := hid hown2
      have HG2 := hid hgrow2
      clear hown2 hgrow2
      go_wp2
      go_roundw
      case rel =>
        refine ⟨q + 1, by omega, by go_num, ?_, ?_⟩
        · have h1 : Below w.heap.size w w1 := (HBel.out.alloc hsz _).trans (HB.out.mono (by simp; omega))
          exact h1.grown HG2.out h1.size (fun k hk => by cases hk; exact Nat.le_refl _)
        · have he : seen (fs.take (q + 1)) = (seen (fs.take q)).put (.string key.data.toList) (.lit (.bool true)) := by
            unfold seen
            rw [take_snoc' fs q (by omega), HVE.out]
            unfold kls
            rw [List.map_append]
            exact setOf_snoc _ _ _
          rw [he]
          exact HO2.out
      case measure => simp [intOf]; omega
    · go_wp2
      go_ret
      exact ⟨rfl, HBel.out⟩
end Go.Proofs.YtaeclmligojlaaaGreatDoor.D

/- value.extra of a value that has no field but its kind's own. Conditions: none. -/
namespace Go.Proofs.YtaeclmligojlaaaGreatDoor.D
open Go.RowKit

set_option maxRecDepth 100000 in
set_option maxHeartbeats 4000000 in
/-- value.extra of a value that has no field but its kind's own. -/
theorem extra_no (c : VC) (v : Val) (U : Nat → Prop) (w : World) (h : VR U w c v) (ho : Own v) : Calls Tryz.prog 188 #[.agg c.arr] w fun e w' => e = .returned (.bool false) ∧ Below w.heap.size w w' := by
  obtain ⟨_, _, lc, fc, hk, hbo, hn, hdg, he, ht0, ht1, ht2, ht3, htx, hb, hl, hl', hf, hf'⟩ := h
  obtain ⟨k, b, ng, dg, ex, tk, td, tn, to_, tx, ab, nb, cb, al, nl, cl, af, nf, cf⟩ := c
  obtain ⟨vk, vb, vn, vt, vx, vbs, vl, vf⟩ := v
  obtain ⟨o0, o1, o2, o3, o4, o5, o6, o7, o8⟩ := ho
  simp only [Val.kind, Val.bool, Val.num, Val.time, Val.text, Val.bytes, Val.list, Val.fields] at *
  have e6 := hb.1
  have e7 := hl.1
  have e8 := hf.1
  clear hb hl hl' hf hf'
  subst hk hbo hn hdg he ht0 ht1 ht2 ht3 htx
  rw [← e6] at o6
  rw [← e7] at o7
  rw [← e8] at o8
  clear e6 e7 e8
  obtain rfl | rfl | rfl | rfl | rfl | rfl | rfl | rfl : k = 0 ∨ k = 1 ∨ k = 2 ∨ k = 3 ∨ k = 4 ∨ k = 5 ∨ k = 6 ∨ k = 7 := by omega
  · obtain rfl := o2 (by decide)
    obtain rfl := o3 (by decide)
    obtain rfl := o4 (by decide)
    obtain rfl := o5 (by decide)
    obtain rfl := o6 (by decide)
    obtain rfl := o7 (by decide)
    obtain rfl := o8 (by decide)
    clear o0 o1 o2 o3 o4 o5 o6 o7 o8
    simp only [VC.arr, zD, zT]
    go_enter Tryz.func188, Tryz.ntmps188
    go_wp2
    go_ret
    exact ⟨by first | rfl | simp, (Below.refl _ _).alloc (Nat.le_refl _) _⟩
  · obtain rfl := o3 (by decide)
    obtain rfl := o4 (by decide)
    obtain rfl := o5 (by decide)
    obtain rfl := o6 (by decide)
    obtain rfl := o7 (by decide)
    obtain rfl := o8 (by decide)
    clear o0 o1 o2 o3 o4 o5 o6 o7 o8
    simp only [VC.arr, zD, zT]
    go_enter Tryz.func188, Tryz.ntmps188
    go_wp2
    go_ret
    exact ⟨by first | rfl | simp, (Below.refl _ _).alloc (Nat.le_refl _) _⟩
  · obtain rfl := o2 (by decide)
    obtain rfl := o4 (by decide)
    obtain rfl := o5 (by decide)
    obtain rfl := o6 (by decide)
    obtain rfl := o7 (by decide)
    obtain rfl := o8 (by decide)
    clear o0 o1 o2 o3 o4 o5 o6 o7 o8
    simp only [VC.arr, zT]
    go_enter Tryz.func188, Tryz.ntmps188
    go_wp2
    go_ret
    exact ⟨by first | rfl | simp, (Below.refl _ _).alloc (Nat.le_refl _) _⟩
  · obtain rfl := o2 (by decide)
    obtain rfl := o3 (by decide)
    obtain rfl := o5 (by decide)
    obtain rfl := o6 (by decide)
    obtain rfl := o7 (by decide)
    obtain rfl := o8 (by decide)
    clear o0 o1 o2 o3 o4 o5 o6 o7 o8
    simp only [VC.arr, zD]
    go_enter Tryz.func188, Tryz.ntmps188
    go_wp2
    go_ret
    exact ⟨by first | rfl | simp, (Below.refl _ _).alloc (Nat.le_refl _) _⟩
  · obtain rfl := o2 (by decide)
    obtain rfl := o3 (by decide)
    obtain rfl := o4 (by decide)
    obtain rfl := o6 (by decide)
    obtain rfl := o7 (by decide)
    obtain rfl := o8 (by decide)
    clear o0 o1 o2 o3 o4 o5 o6 o7 o8
    simp only [VC.arr, zD, zT]
    go_enter Tryz.func188, Tryz.ntmps188
    go_wp2
    go_ret
    exact ⟨by first | rfl | simp, (Below.refl _ _).alloc (Nat.le_refl _) _⟩
  · obtain rfl := o2 (by decide)
    obtain rfl := o3 (by decide)
    obtain rfl := o4 (by decide)
    obtain rfl := o5 (by decide)
    obtain rfl := o7 (by decide)
    obtain rfl := o8 (by decide)
    clear o0 o1 o2 o3 o4 o5 o6 o7 o8
    simp only [VC.arr, zD, zT]
    go_enter Tryz.func188, Tryz.ntmps188
    go_wp2
    go_ret
    exact ⟨by first | rfl | simp, (Below.refl _ _).alloc (Nat.le_refl _) _⟩
  · obtain rfl := o2 (by decide)
    obtain rfl := o3 (by decide)
    obtain rfl := o4 (by decide)
    obtain rfl := o5 (by decide)
    obtain rfl := o6 (by decide)
    obtain rfl := o8 (by decide)
    clear o0 o1 o2 o3 o4 o5 o6 o7 o8
    simp only [VC.arr, zD, zT]
    go_enter Tryz.func188, Tryz.ntmps188
    go_wp2
    go_ret
    exact ⟨by first | rfl | simp, (Below.refl _ _).alloc (Nat.le_refl _) _⟩
  · obtain rfl := o2 (by decide)
    obtain rfl := o3 (by decide)
    obtain rfl := o4 (by decide)
    obtain rfl := o5 (by decide)
    obtain rfl := o6 (by decide)
    obtain rfl := o7 (by decide)
    clear o0 o1 o2 o3 o4 o5 o6 o7 o8
    simp only [VC.arr, zD, zT]
    go_enter Tryz.func188, Tryz.ntmps188
    go_wp2
    go_ret
    exact ⟨by first | rfl | simp, (Below.refl _ _).alloc (Nat.le_refl _) _⟩
end Go.Proofs.YtaeclmligojlaaaGreatDoor.D

/- value.check and value.Check of valid values: they answer 0; the counter has been raised by the number of values. Conditions: depth and number of values within the limits. -/
namespace Go.Proofs.YtaeclmligojlaaaGreatDoor.D
open Go.RowKit

/-- From w to w' nothing of w has changed but the one cell of block p, which holds n now. -/
structure Bump (p : Nat) (w w' : World) (n : Int) : Prop where
  below : Below p w w'
  same : ∀ b, b < w.heap.size → b ≠ p → w'.heap[b]? = w.heap[b]?
  cell : w'.heap[p]? = some (.cells #[.int .i64 n] 3 (0, 0))
  size : w.heap.size ≤ w'.heap.size
theorem Bump.lt {p : Nat} {w w' : World} {n : Int} (h : Bump p w w' n) : p < w'.heap.size := by
  rcases Nat.lt_or_ge p w'.heap.size with h1 | h1
  · exact h1
  · have := h.cell; rw [Array.getElem?_eq_none h1] at this; cases this
theorem Bump.then {p : Nat} {w w1 w2 : World} {n : Int} (h : Bump p w w1 n) (g : Below w1.heap.size w1 w2) : Bump p w w2 n :=
  ⟨h.below.trans (g.mono (Nat.le_of_lt h.lt)), fun b hb hn => by rw [g.block b (Nat.lt_of_lt_of_le hb h.size)]; exact h.same b hb hn, by rw [g.block p h.lt]; exact h.cell, Nat.le_trans h.size g.size⟩
theorem Bump.trans {p : Nat} {w w1 w2 : World} {n m : Int} (h : Bump p w w1 n) (g : Bump p w1 w2 m) : Bump p w w2 m :=
  ⟨h.below.trans g.below, fun b hb hn => by rw [g.same b (Nat.lt_of_lt_of_le hb h.size) hn]; exact h.same b hb hn, g.cell, Nat.le_trans h.size g.size⟩
theorem Bump.alloc {p : Nat} {w w1 : World} {n : Int} (h : Bump p w w1 n) (o : Obj) : Bump p w (w1.alloc o) n := h.then ((Below.refl _ _).alloc (Nat.le_refl _) _)
theorem Bump.goes {p : Nat} {U : Nat → Prop} {w w' : World} {n : Int} (h : Bump p w w' n) (hp : U p) : Goes U U w w' :=
  ⟨fun b hb hu => h.same b hb (fun e => hu (by rw [e]; exact hp)), fun _ _ h => h⟩
theorem Bump.set {p : Nat} {w w1 : World} {n m : Int} (h : Bump p w w1 n) : Bump p w (w1.setCell ⟨p, 0, none⟩ (.int .i64 m)) m :=
  ⟨h.below.setCell (Nat.le_refl _) _, fun b hb hn => by rw [heap_setCell_other _ _ _ _ (by simpa using hn)]; exact h.same b hb hn, by rw [heap_setCell_same _ _ _ _ _ _ h.cell]; rfl, by simp [World.setCell]; exact h.size⟩
theorem Bump.now {p : Nat} {w w' : World} {n : Int} (h : Bump p w w' n) : w'.cell? ⟨p, 0, none⟩ = some (.int .i64 n) ∧ w'.frozen? ⟨p, 0, none⟩ = false := by
  have := h.cell
  exact ⟨cell_of_row w' p 0 _ _ _ this, by simp [World.frozen?, this]⟩

set_option maxRecDepth 100000 in
set_option maxHeartbeats 4000000 in
theorem check_ok (d : Nat) : ∀ (v : Val) (c : VC) (U : Nat → Prop) (dep n : Int) (p : Nat) (w : World), v.deep ≤ d → OkV v → 1 ≤ dep → dep + v.deep ≤ 49 → 0 ≤ n → n + v.cnt ≤ 65536 → VR U w c v → U p → w.heap[p]? = some (.cells #[.int .i64 n] 3 (0, 0)) →
    Calls Tryz.prog 129 #[.agg c.arr, .int .i64 dep, .pointer (some ⟨p, 0, none⟩)] w fun e w' => e = .returned (.int .i64 0) ∧ Bump p w w' (n + v.cnt) := by
  induction d with
  | zero =>
    intro v c U dep n p w hd
    cases v
    simp only [Val.deep] at hd
    omega
  | succ d ih =>
    intro v c U dep n p w hd hok h1 h2 h3 h4 hv hp hpc
    have HE := hid (fun (w' : World) (g : Goes U U w w') => extra_no c v U w' (hv.goes g) hok.one.own)
    have HV := hid hv
    have HOK := hid hok
    have hone := hok.one
    have hlh := hok.hl
    have hfh := hok.hf
    have hdp := Val.deep_eq v
    have hcn := Val.cnt_eq v
    clear hv hok
    obtain ⟨_, _, lc, fc, hk, hbo, hn, hdg, he, ht0, ht1, ht2, ht3, htx, hb, hl, hl', hf, hf'⟩ := HV.out
    obtain ⟨k, b, ng, dg, ex, tk, td, tn, to_, tx, ab, nb, cb, al, nl, cl, af, nf, cf⟩ := c
    obtain ⟨vk, vb, vn, vt, vx, vbs, vl, vf⟩ := v
    obtain ⟨own, onum, otime, otext, otl, obl, okeys⟩ := hone
    have ok0 := own.k0
    have ok7 := own.k7
    simp only [Val.kind, Val.bool, Val.num, Val.time, Val.text, Val.bytes, Val.list, Val.fields] at *
    have e6 := hb.1
    have e7 := hl.1
    have e8 := hf.1
    subst hk hbo hn hdg he ht0 ht1 ht2 ht3 htx
    have hnb : nb ≤ 65536 := by omega
    have hnl : nl ≤ vl.length := by omega
    have hnl' : vl.length ≤ nl := by omega
    have hnf : nf ≤ vf.length := by omega
    have hnf' : vf.length ≤ nf := by omega
    clear e6 e7 e8
    have hw0 : Bump p w w n := ⟨Below.refl _ _, fun _ _ _ => rfl, hpc, Nat.le_refl _⟩
    have IH := hid ih
    have HB := hid hb
    have HL := hid hl
    have HL' := hid hl'
    have HF := hid hf
    have HF' := hid hf'
    have HW0 := hid hw0
    have HLH := hid hlh
    have HFH := hid hfh
    have HDP := hid hdp
    have HCN := hid hcn
    have h48 : decide (48 < dep) = false := by simp; omega
    have hd1 : decide (65536 < n + 1) = false := by simp; omega
    have hk1 : decide (k < 0) = false := by simp; omega
    have hk2 : decide (8 ≤ k) = false := by simp; omega
    have hn1 : 0 ≤ n + 1 := by omega
    have hn2 : n + 1 ≤ 65536 := by omega
    obtain ⟨hcp, hfp⟩ := hw0.now
    have hplt := hw0.lt
    clear ih hb hl hl' hf hf' hw0 hlh hfh hdp hcn hpc
    simp only [VC.arr] at HE ⊢
    go_enter Tryz.func129, Tryz.ntmps129
    go_upto_block 0 with (fail)
    go_cut [] (fun wc => Bump p w wc (n + 1) ∧ wc.heap[w.heap.size]? = some (.cells #[.int .i64 k, .bool b, .bool vn.neg, .string vn.digits, .int .i64 vn.exp, .int .i64 vt.kind, .int .i64 vt.day, .int .i64 vt.nano, .int .i64 vt.offset, .string tx, .slice ab nb cb, .slice al nl cl, .slice af nf cf] 30 (0, 0)))
    case first =>
      have hwa : Bump p w ((w.setCell ⟨p, 0, none⟩ (.int .i64 (n + 1))).alloc (.cells #[.int .i64 k, .bool b, .bool vn.neg, .string vn.digits, .int .i64 vn.exp, .int .i64 vt.kind, .int .i64 vt.day, .int .i64 vt.nano, .int .i64 vt.offset, .string tx, .slice ab nb cb, .slice al nl cl, .slice af nf cf] 30)) (n + 1) := HW0.out.set.alloc _
      have HWA := hid hwa
      clear hwa
      have hx0 : ((w.setCell ⟨p, 0, none⟩ (.int .i64 (n + 1))).alloc (.cells #[.int .i64 k, .bool b, .bool vn.neg, .string vn.digits, .int .i64 vn.exp, .int .i64 vt.kind, .int .i64 vt.day, .int .i64 vt.nano, .int .i64 vt.offset, .string tx, .slice ab nb cb, .slice al nl cl, .slice af nf cf] 30)).heap[w.heap.size]? = some (.cells #[.int .i64 k, .bool b, .bool vn.neg, .string vn.digits, .int .i64 vn.exp, .int .i64 vt.kind, .int .i64 vt.day, .int .i64 vt.nano, .int .i64 vt.offset, .string tx, .slice ab nb cb, .slice al nl cl, .slice af nf cf] 30 (0, 0)) := by
        have h := heap_alloc_new (w.setCell ⟨p, 0, none⟩ (.int .i64 (n + 1))) (.cells #[.int .i64 k, .bool b, .bool vn.neg, .string vn.digits, .int .i64 vn.exp, .int .i64 vt.kind, .int .i64 vt.day, .int .i64 vt.nano, .int .i64 vt.offset, .string tx, .slice ab nb cb, .slice al nl cl, .slice af nf cf] 30)
        have e : (w.setCell ⟨p, 0, none⟩ (.int .i64 (n + 1))).heap.size = w.heap.size := by simp [World.setCell]
        rw [e] at h
        exact h
      have HX0 := hid hx0
      have hsz0 : ((w.setCell ⟨p, 0, none⟩ (.int .i64 (n + 1))).alloc (.cells #[.int .i64 k, .bool b, .bool vn.neg, .string vn.digits, .int .i64 vn.exp, .int .i64 vt.kind, .int .i64 vt.day, .int .i64 vt.nano, .int .i64 vt.offset, .string tx, .slice ab nb cb, .slice al nl cl, .slice af nf cf] 30)).heap.size = w.heap.size + 1 := by simp [World.setCell]
      have HS0 := hid hsz0
      clear hx0 hsz0
      have ht1 : decide (65536 < tx.size) = false := by simp; omega
      have ht2 : decide (65536 < nb) = false := by simp; omega
      by_cases k2 : k = 2
      · have HD := hid (onum k2)
        subst k2
        clear onum otime
        go_wp2_with fail
        refine (HE.out _ (HWA.out.goes hp)).mono ?_
        rintro e w1 ⟨rfl, hb⟩
        have HB1 := hid hb
        obtain ⟨hc1, hf1⟩ := bcell hb
        have hx1 : w1.heap[w.heap.size]? = some (.cells #[.int .i64 2, .bool b, .bool vn.neg, .string vn.digits, .int .i64 vn.exp, .int .i64 vt.kind, .int .i64 vt.day, .int .i64 vt.nano, .int .i64 vt.offset, .string tx, .slice ab nb cb, .slice al nl cl, .slice af nf cf] 30 (0, 0)) := by rw [hb.block _ (by rw [HS0.out]; omega)]; exact HX0.out
        have hz1 : w.heap.size < w1.heap.size := by have := hb.size; rw [HS0.out] at this; omega
        have HX1 := hid hx1
        clear hb hc1 hf1 hx1
        have hcx1 : ∀ j, w1.cell? ⟨w.heap.size, j, none⟩ = (#[.int .i64 2, .bool b, .bool vn.neg, .string vn.digits, .int .i64 vn.exp, .int .i64 vt.kind, .int .i64 vt.day, .int .i64 vt.nano, .int .i64 vt.offset, .string tx, .slice ab nb cb, .slice al nl cl, .slice af nf cf] : Array Value)[j]? := fun j => cell_of_row w1 w.heap.size j _ 30 (0, 0) HX1.out
        go_wp2_with fail
        refine (decimal_valid vn _ HD.out).mono ?_
        rintro e w2 ⟨rfl, hb⟩
        have HB2 := hid hb
        have hx2 : w2.heap[w.heap.size]? = some (.cells #[.int .i64 2, .bool b, .bool vn.neg, .string vn.digits, .int .i64 vn.exp, .int .i64 vt.kind, .int .i64 vt.day, .int .i64 vt.nano, .int .i64 vt.offset, .string tx, .slice ab nb cb, .slice al nl cl, .slice af nf cf] 30 (0, 0)) := by rw [hb.block _ hz1]; exact HX1.out
        have HX2 := hid hx2
        clear hb hx2 hcx1
        have hcx2 : ∀ j, w2.cell? ⟨w.heap.size, j, none⟩ = (#[.int .i64 2, .bool b, .bool vn.neg, .string vn.digits, .int .i64 vn.exp, .int .i64 vt.kind, .int .i64 vt.day, .int .i64 vt.nano, .int .i64 vt.offset, .string tx, .slice ab nb cb, .slice al nl cl, .slice af nf cf] : Array Value)[j]? := fun j => cell_of_row w2 w.heap.size j _ 30 (0, 0) HX2.out
        go_wp2_with fail
        go_meet
        case rel => exact ⟨(HWA.out.then HB1.out).then HB2.out, HX2.out⟩
      by_cases k3 : k = 3
      · have HD := hid (otime k3)
        subst k3
        clear onum otime
        go_wp2_with fail
        refine (HE.out _ (HWA.out.goes hp)).mono ?_
        rintro e w1 ⟨rfl, hb⟩
        have HB1 := hid hb
        obtain ⟨hc1, hf1⟩ := bcell hb
        have hx1 : w1.heap[w.heap.size]? = some (.cells #[.int .i64 3, .bool b, .bool vn.neg, .string vn.digits, .int .i64 vn.exp, .int .i64 vt.kind, .int .i64 vt.day, .int .i64 vt.nano, .int .i64 vt.offset, .string tx, .slice ab nb cb, .slice al nl cl, .slice af nf cf] 30 (0, 0)) := by rw [hb.block _ (by rw [HS0.out]; omega)]; exact HX0.out
        have hz1 : w.heap.size < w1.heap.size := by have := hb.size; rw [HS0.out] at this; omega
        have HX1 := hid hx1
        clear hb hc1 hf1 hx1
        have hcx1 : ∀ j, w1.cell? ⟨w.heap.size, j, none⟩ = (#[.int .i64 3, .bool b, .bool vn.neg, .string vn.digits, .int .i64 vn.exp, .int .i64 vt.kind, .int .i64 vt.day, .int .i64 vt.nano, .int .i64 vt.offset, .string tx, .slice ab nb cb, .slice al nl cl, .slice af nf cf] : Array Value)[j]? := fun j => cell_of_row w1 w.heap.size j _ 30 (0, 0) HX1.out
        go_wp2_with fail
        refine (moment_valid vt _ HD.out).mono ?_
        rintro e w2 ⟨rfl, hb⟩
        have HB2 := hid hb
        have hx2 : w2.heap[w.heap.size]? = some (.cells #[.int .i64 3, .bool b, .bool vn.neg, .string vn.digits, .int .i64 vn.exp, .int .i64 vt.kind, .int .i64 vt.day, .int .i64 vt.nano, .int .i64 vt.offset, .string tx, .slice ab nb cb, .slice al nl cl, .slice af nf cf] 30 (0, 0)) := by rw [hb.block _ hz1]; exact HX1.out
        have HX2 := hid hx2
        clear hb hx2 hcx1
        have hcx2 : ∀ j, w2.cell? ⟨w.heap.size, j, none⟩ = (#[.int .i64 3, .bool b, .bool vn.neg, .string vn.digits, .int .i64 vn.exp, .int .i64 vt.kind, .int .i64 vt.day, .int .i64 vt.nano, .int .i64 vt.offset, .string tx, .slice ab nb cb, .slice al nl cl, .slice af nf cf] : Array Value)[j]? := fun j => cell_of_row w2 w.heap.size j _ 30 (0, 0) HX2.out
        go_wp2_with fail
        go_meet
        case rel => exact ⟨(HWA.out.then HB1.out).then HB2.out, HX2.out⟩
      by_cases k4 : k = 4
      · have hd : ∀ w, Calls Tryz.prog 190 #[.string tx] w fun e w' => e = .returned (.bool true) ∧ Below w.heap.size w w' := fun w => by
          have := utf_valid tx w (by omega)
          rw [otext] at this
          exact this
        have HD := hid hd
        subst k4
        clear onum otime hd otext
        go_wp2_with fail
        refine (HE.out _ (HWA.out.goes hp)).mono ?_
        rintro e w1 ⟨rfl, hb⟩
        have HB1 := hid hb
        obtain ⟨hc1, hf1⟩ := bcell hb
        have hx1 : w1.heap[w.heap.size]? = some (.cells #[.int .i64 4, .bool b, .bool vn.neg, .string vn.digits, .int .i64 vn.exp, .int .i64 vt.kind, .int .i64 vt.day, .int .i64 vt.nano, .int .i64 vt.offset, .string tx, .slice ab nb cb, .slice al nl cl, .slice af nf cf] 30 (0, 0)) := by rw [hb.block _ (by rw [HS0.out]; omega)]; exact HX0.out
        have hz1 : w.heap.size < w1.heap.size := by have := hb.size; rw [HS0.out] at this; omega
        have HX1 := hid hx1
        clear hb hc1 hf1 hx1
        have hcx1 : ∀ j, w1.cell? ⟨w.heap.size, j, none⟩ = (#[.int .i64 4, .bool b, .bool vn.neg, .string vn.digits, .int .i64 vn.exp, .int .i64 vt.kind, .int .i64 vt.day, .int .i64 vt.nano, .int .i64 vt.offset, .string tx, .slice ab nb cb, .slice al nl cl, .slice af nf cf] : Array Value)[j]? := fun j => cell_of_row w1 w.heap.size j _ 30 (0, 0) HX1.out
        go_wp2_with fail
        refine (HD.out _).mono ?_
        rintro e w2 ⟨rfl, hb⟩
        have HB2 := hid hb
        have hx2 : w2.heap[w.heap.size]? = some (.cells #[.int .i64 4, .bool b, .bool vn.neg, .string vn.digits, .int .i64 vn.exp, .int .i64 vt.kind, .int .i64 vt.day, .int .i64 vt.nano, .int .i64 vt.offset, .string tx, .slice ab nb cb, .slice al nl cl, .slice af nf cf] 30 (0, 0)) := by rw [hb.block _ hz1]; exact HX1.out
        have HX2 := hid hx2
        clear hb hx2 hcx1
        have hcx2 : ∀ j, w2.cell? ⟨w.heap.size, j, none⟩ = (#[.int .i64 4, .bool b, .bool vn.neg, .string vn.digits, .int .i64 vn.exp, .int .i64 vt.kind, .int .i64 vt.day, .int .i64 vt.nano, .int .i64 vt.offset, .string tx, .slice ab nb cb, .slice al nl cl, .slice af nf cf] : Array Value)[j]? := fun j => cell_of_row w2 w.heap.size j _ 30 (0, 0) HX2.out
        go_wp2_with fail
        go_meet
        case rel => exact ⟨(HWA.out.then HB1.out).then HB2.out, HX2.out⟩
      · clear onum otime
        go_wp2_with fail
        refine (HE.out _ (HWA.out.goes hp)).mono ?_
        rintro e w1 ⟨rfl, hb⟩
        have HB1 := hid hb
        obtain ⟨hc1, hf1⟩ := bcell hb
        have hx1 : w1.heap[w.heap.size]? = some (.cells #[.int .i64 k, .bool b, .bool vn.neg, .string vn.digits, .int .i64 vn.exp, .int .i64 vt.kind, .int .i64 vt.day, .int .i64 vt.nano, .int .i64 vt.offset, .string tx, .slice ab nb cb, .slice al nl cl, .slice af nf cf] 30 (0, 0)) := by rw [hb.block _ (by rw [HS0.out]; omega)]; exact HX0.out
        have hz1 : w.heap.size < w1.heap.size := by have := hb.size; rw [HS0.out] at this; omega
        have HX1 := hid hx1
        clear hb hc1 hf1 hx1
        have hcx1 : ∀ j, w1.cell? ⟨w.heap.size, j, none⟩ = (#[.int .i64 k, .bool b, .bool vn.neg, .string vn.digits, .int .i64 vn.exp, .int .i64 vt.kind, .int .i64 vt.day, .int .i64 vt.nano, .int .i64 vt.offset, .string tx, .slice ab nb cb, .slice al nl cl, .slice af nf cf] : Array Value)[j]? := fun j => cell_of_row w1 w.heap.size j _ 30 (0, 0) HX1.out
        go_wp2_with fail
        go_meet
        case rel => exact ⟨HWA.out.then HB1.out, HX1.out⟩
    case rest =>
      clear HE
      obtain ⟨hb0, hx0⟩ := hcut
      have HB0 := hid hb0
      have HX0 := hid hx0
      have hz0 : w.heap.size < wc.heap.size := by
        rcases Nat.lt_or_ge w.heap.size wc.heap.size with h | h
        · exact h
        · rw [Array.getElem?_eq_none h] at hx0; cases hx0
      clear hb0 hx0
      have hcnt : n + 1 + Val.cntL vl + Val.cntF vf ≤ 65536 := by have := HCN.out; omega
      have hll := Val.cntL_len vl
      have hfl := Val.cntF_len vf
      have hcx0 : ∀ j, wc.cell? ⟨w.heap.size, j, none⟩ = (#[.int .i64 k, .bool b, .bool vn.neg, .string vn.digits, .int .i64 vn.exp, .int .i64 vt.kind, .int .i64 vt.day, .int .i64 vt.nano, .int .i64 vt.offset, .string tx, .slice ab nb cb, .slice al nl cl, .slice af nf cf] : Array Value)[j]? := fun j => cell_of_row wc w.heap.size j _ 30 (0, 0) HX0.out
      have HKS := hid okeys
      clear okeys
      go_wp2_with fail
      refine (keys_ok U af nf cf vf fc _ (HF.out.goes (HB0.out.goes hp)) HKS.out (by omega)).mono ?_
      rintro e w1 ⟨rfl, hb⟩
      have HB1 := hid (HB0.out.then hb)
      have hx1 : w1.heap[w.heap.size]? = some (.cells #[.int .i64 k, .bool b, .bool vn.neg, .string vn.digits, .int .i64 vn.exp, .int .i64 vt.kind, .int .i64 vt.day, .int .i64 vt.nano, .int .i64 vt.offset, .string tx, .slice ab nb cb, .slice al nl cl, .slice af nf cf] 30 (0, 0)) := by rw [hb.block _ hz0]; exact HX0.out
      have HX1 := hid hx1
      have hz1 : w.heap.size < w1.heap.size := by have := hb.size; omega
      clear hb hx1 hcx0
      have hcx1 : ∀ j, w1.cell? ⟨w.heap.size, j, none⟩ = (#[.int .i64 k, .bool b, .bool vn.neg, .string vn.digits, .int .i64 vn.exp, .int .i64 vt.kind, .int .i64 vt.day, .int .i64 vt.nano, .int .i64 vt.offset, .string tx, .slice ab nb cb, .slice al nl cl, .slice af nf cf] : Array Value)[j]? := fun j => cell_of_row w1 w.heap.size j _ 30 (0, 0) HX1.out
      go_wp2_with fail
      clear hcx1
      go_loopw [91] (fun iv wr => ∃ q : Nat, q ≤ nl ∧ iv = .int .i64 q ∧ Bump p w wr (n + 1 + (Val.cntL (vl.take q) : Nat)) ∧ w.heap.size < wr.heap.size ∧ wr.heap[w.heap.size]? = some (.cells #[.int .i64 k, .bool b, .bool vn.neg, .string vn.digits, .int .i64 vn.exp, .int .i64 vt.kind, .int .i64 vt.day, .int .i64 vt.nano, .int .i64 vt.offset, .string tx, .slice ab nb cb, .slice al nl cl, .slice af nf cf] 30 (0, 0)))
        (fun iv _ => nl - (intOf iv).toNat)
      case atStart =>
        exact ⟨0, Nat.zero_le _, rfl, by have := HB1.out; simpa [Val.cntL] using this, hz1, HX1.out⟩
      case round =>
        obtain ⟨q, hq, rfl, hbu, hsz, hbx⟩ := hrel
        have HBU := hid hbu
        have HBX := hid hbx
        have hplt1 := hbu.lt
        clear hbu hbx
        by_cases hlt : q < nl
        · obtain ⟨b0, o0, hal, hb0, hu0, hcell⟩ := HL.out.2.2 (by omega)
          subst hal
          have hcq : ∀ j, j < 13 → wr.cell? ⟨b0, o0 + q * 13 + j, none⟩ = some ((lc q).cell j) := fun j hj => by
            rw [← hcell q (by omega) j hj]
            exact World.cell?_of_block (w := w) (HBU.out.same b0 hb0 (fun e => hu0 (by rw [e]; exact hp)))
          obtain ⟨g0, g1, g2, g3, g4, g5, g6, g7, g8, g9, g10, g11, g12⟩ := val_cells hcq
          clear hcq hcell
          have HV0 := hid (HL'.out q (by omega))
          have HO0 := hid (HLH.out q (by omega))
          have hdq := Val.deepL_get vl q (by omega)
          have hnx := Val.cntL_next vl q (by omega)
          have HTK := hid (Val.cntL_take vl q (by omega))
          have hdp := HDP.out
          have hdd : dep + 1 + (vl[q]'(by omega)).deep ≤ 49 := by omega
          have hd1 : (vl[q]'(by omega)).deep ≤ d := by omega
          clear hdp
          generalize hce : lc q = ce at *
          generalize hve : vl[q]'(by omega) = ve at *
          clear hce hve
          have hwl : IntKind.i64.wrap (dep + 1) = dep + 1 := IntWalk.i64_in _ (by omega)
          have HWL := hid hwl
          clear hwl
          go_wp2_with fail
          refine (IH.out ve ce U (dep + 1) _ p _ hd1 HO0.out (by omega) hdd (by omega) (by omega) (HV0.out.goes ((HBU.out.alloc _).goes hp)) hp ((HBU.out.alloc _).cell)).mono ?_
          rintro e w2 ⟨rfl, hb2⟩
          have HB2 := hid hb2
          have hs2 := hb2.size
          simp only [World.size_alloc] at hs2
          clear hb2
          go_wp2_with fail
          go_roundw
          case rel =>
            refine ⟨q + 1, by omega, by go_num, ?_, by omega, ?_⟩
            · have := (HBU.out.alloc _).trans HB2.out
              rw [HTK.out]
              have e : n + 1 + ((Val.cntL (vl.take q) + ve.cnt : Nat) : Int) = n + 1 + (Val.cntL (vl.take q) : Nat) + (ve.cnt : Nat) := by omega
              rw [e]
              exact this
            · rw [HB2.out.same _ (by simp only [World.size_alloc]; omega) (by omega), Below.heap_alloc _ _ _ hsz]
              exact HBX.out
          case measure => simp [intOf]; omega
        · obtain rfl : q = nl := by omega
          have htk : Val.cntL (vl.take q) = Val.cntL vl := by rw [List.take_of_length_le (by omega)]
          have HTK := hid htk
          have hcx2 : ∀ j, wr.cell? ⟨w.heap.size, j, none⟩ = (#[.int .i64 k, .bool b, .bool vn.neg, .string vn.digits, .int .i64 vn.exp, .int .i64 vt.kind, .int .i64 vt.day, .int .i64 vt.nano, .int .i64 vt.offset, .string tx, .slice ab nb cb, .slice al q cl, .slice af nf cf] : Array Value)[j]? := fun j => cell_of_row wr w.heap.size j _ 30 (0, 0) HBX.out
          have HBV : Hid (Bump p w wr (n + 1 + (Val.cntL vl : Nat))) := by have := HBU.out; rw [htk] at this; exact this
          clear hlt htk HBU HTK
          go_wp2_with fail
          clear hcx2
          obtain ⟨wo, rfl⟩ : ∃ wo : World, wo = wr := ⟨_, rfl⟩
          go_loopw [107] (fun iv wr => ∃ r : Nat, r ≤ nf ∧ iv = .int .i64 r ∧ Bump p w wr (n + 1 + (Val.cntL vl : Nat) + (Val.cntF (vf.take r) : Nat)) ∧ w.heap.size < wr.heap.size)
            (fun iv _ => nf - (intOf iv).toNat)
          case atStart =>
            exact ⟨0, Nat.zero_le _, rfl, by have := HBV.out; simpa [Val.cntF] using this, hsz⟩
          case round =>
            obtain ⟨r, hr, rfl, hbu, hsz2⟩ := hrel
            have HBU := hid hbu
            have hplt2 := hbu.lt
            clear hbu
            by_cases hlt : r < nf
            · obtain ⟨b0, o0, hal, hb0, hu0, hcell⟩ := HF.out.2.2 (by omega)
              subst hal
              have hcq : ∀ j, j < 14 → wr.cell? ⟨b0, o0 + r * 14 + j, none⟩ = some (fcell ((vf[r]?.map (·.1)).getD default) (fc r) j) := fun j hj => by
                rw [← hcell r (by omega) j hj]
                exact World.cell?_of_block (w := w) (HBU.out.same b0 hb0 (fun e => hu0 (by rw [e]; exact hp)))
              have hkey : (vf[r]?.map (·.1)).getD default = (vf[r]'(by omega)).1 := by
                have : r < vf.length := by omega
                simp [this]
              rw [hkey] at hcq
              have HV0 := hid (HF'.out r (by omega))
              have HO0 := hid (HFH.out r (by omega))
              have hdq := Val.deepF_get vf r (by omega)
              have hnx := Val.cntF_next vf r (by omega)
              have HTK := hid (Val.cntF_take vf r (by omega))
              have hdp := HDP.out
              have hdd : dep + 1 + (vf[r]'(by omega)).2.deep ≤ 49 := by omega
              have hd1 : (vf[r]'(by omega)).2.deep ≤ d := by omega
              clear hdp
              generalize hce : fc r = ce at *
              generalize hve : vf[r]'(by omega) = ve at *
              obtain ⟨key, ve⟩ := ve
              dsimp only at *
              clear hce hve hkey hcell
              obtain ⟨g0, g1, g2, g3, g4, g5, g6, g7, g8, g9, g10, g11, g12, g13⟩ := field_cells hcq
              clear hcq
              go_wp2_with fail
              refine (IH.out ve ce U (dep + 1) _ p _ hd1 HO0.out (by omega) hdd (by omega) (by omega) (HV0.out.goes ((HBU.out.alloc _).goes hp)) hp ((HBU.out.alloc _).cell)).mono ?_
              rintro e w2 ⟨rfl, hb2⟩
              have HB2 := hid hb2
              have hs2 := hb2.size
              simp only [World.size_alloc] at hs2
              clear hb2
              go_wp2_with fail
              go_roundw
              case rel =>
                refine ⟨r + 1, by omega, by go_num, ?_, by omega⟩
                have := (HBU.out.alloc _).trans HB2.out
                rw [HTK.out]
                have e : n + 1 + (Val.cntL vl : Nat) + ((Val.cntF (vf.take r) + ve.cnt : Nat) : Int) = n + 1 + (Val.cntL vl : Nat) + (Val.cntF (vf.take r) : Nat) + (ve.cnt : Nat) := by omega
                rw [e]
                exact this
              case measure => simp [intOf]; omega
            · obtain rfl : r = nf := by omega
              have hfin : n + 1 + (Val.cntL vl : Nat) + (Val.cntF (vf.take r) : Nat) = n + ((Val.mk k b vn vt tx vbs vl vf).cnt : Nat) := by
                rw [HCN.out, List.take_of_length_le (by omega)]; omega
              have HFIN := hid hfin
              clear hfin hlt
              go_wp2_with fail
              go_ret
              exact ⟨rfl, by have := HBU.out; rw [HFIN.out] at this; exact this⟩

set_option maxRecDepth 100000 in
/-- value.Check of a valid value. -/
theorem Check_ok (v : Val) (c : VC) (U : Nat → Prop) (w : World) (hok : OkV v) (hd : v.deep ≤ 48) (hn : v.cnt ≤ 65536) (hv : VR U w c v) (hU : ∀ b, U b → b < w.heap.size) :
    Calls Tryz.prog 61 #[.agg c.arr] w fun e w' => e = .returned (.int .i64 0) ∧ Below w.heap.size w w' := by
  have HC := hid (fun (w1 : World) (g : Goes U (fun b => U b ∨ w.heap.size ≤ b) w w1) (hc : w1.heap[w.heap.size + 1]? = some (.cells #[.int .i64 0] 3 (0, 0))) => check_ok v.deep v c (fun b => U b ∨ w.heap.size ≤ b) 1 0 (w.heap.size + 1) w1 (Nat.le_refl _) hok (by omega) (by omega) (by omega) (by omega) (hv.goes g) (.inr (by omega)) hc)
  clear hv hok
  unfold VC.arr at HC ⊢
  go_enter Tryz.func61, Tryz.ntmps61
  go_wp2_with fail
  refine (HC.out _ ⟨fun b hb _ => ?_, fun b hb h => ?_⟩ ?_).mono ?_
  · rw [Below.heap_alloc _ _ _ (by simp; omega), Below.heap_alloc _ _ _ hb]
  · rcases h with h | h
    · exact h
    · omega
  · exact heap_alloc2_new ..
  rintro e w1 ⟨rfl, hb⟩
  have HB := hid hb
  clear hb
  go_wp2
  go_ret
  exact ⟨rfl, (((Below.refl _ _).alloc (Nat.le_refl _) _).alloc (by simp) _).trans (HB.out.below.mono (by omega))⟩
end Go.Proofs.YtaeclmligojlaaaGreatDoor.D
