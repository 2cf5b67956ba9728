/- The reference's own: what it answers, for any value; where it answers true, the value has no field but its kind's own. Conditions: none. | The reference's Keys: what it answers, for any fields; where it answers 0, the keys are valid and apart. Conditions: keys of at most 2^40 bytes. | The reference's one: what it answers, for any value; where it answers 0, the value is valid but for the values in it. Conditions: strings of at most 2^40 bytes. | The reference's Kids, look and Check: where they find nothing wrong, the value is valid. Conditions: strings of at most 2^40 bytes. | The reference's look and Check: where they find nothing wrong, the value is valid, and not too deep or large. Conditions: strings of at most 2^40 bytes. -/
import Derived.Test.YtaeclmligojlaaaGreatDoorB3
import Derived.Test.YtaeclmligojlaaaGreatDoorB2
import Derived.Deep.QuietTactic
import Derived.BigQuiet
/- The reference's own: what it answers, for any value; where it answers true, the value has no field but its kind's own. Conditions: none. -/
namespace Go.Proofs.YtaeclmligojlaaaGreatDoor.D
open Go.RowKit

theorem num_zero (d : Dec) : ∃ x : Bool, (∀ w, (binOp .neq 24 (.agg #[.bool d.neg, .string d.digits, .int .i64 d.exp]) (.agg #[.bool false, .string ⟨#[]⟩, .int .i64 0])).run Tryz.prog w = .ok (.bool x) w) ∧ (x = false → d = zD) := by
  obtain ⟨ng, dg, ex⟩ := d
  refine ⟨ng || (!dg.toList.isEmpty || !(ex == 0)), fun w => ?_, ?_⟩
  · simp [go_sem]
    cases ng
    · by_cases h : dg.toList = []
      · by_cases h2 : ex = 0 <;> simp [h, h2]
      · cases h3 : dg.toList with
        | nil => exact absurd h3 h
        | cons => simp
    · simp
  · intro h
    simp at h
    obtain ⟨h1, h2, h3⟩ := h
    have : dg = ⟨#[]⟩ := by
      rw [ByteArray.toList_eq] at h2
      exact ByteArray.ext (Array.toList_inj.1 h2)
    simp [zD, h1, h3, this]
theorem tm_zero (t : Tm) : ∃ x : Bool, (∀ w, (binOp .neq 26 (.agg #[.int .i64 t.kind, .int .i64 t.day, .int .i64 t.nano, .int .i64 t.offset]) (.agg #[.int .i64 0, .int .i64 0, .int .i64 0, .int .i64 0])).run Tryz.prog w = .ok (.bool x) w) ∧ (x = false → t = zT) := by
  obtain ⟨a, b, c, d⟩ := t
  refine ⟨!(a == 0 && (b == 0 && (c == 0 && d == 0))), fun w => ?_, ?_⟩
  · simp [go_sem]
    by_cases h1 : a = 0 <;> by_cases h2 : b = 0 <;> by_cases h3 : c = 0 <;> by_cases h4 : d = 0 <;> simp [h1, h2, h3, h4]
  · intro h
    simp at h
    obtain ⟨h1, h2, h3, h4⟩ := h
    simp [zT, h1, h2, h3, h4]
set_option maxRecDepth 100000 in
set_option maxHeartbeats 4000000 in
theorem ref_own (c : VC) (v : Val) (U : Nat → Prop) (w : World) (h : VR U w c v) : Calls Tryz.prog 154 #[.agg c.arr] w fun e w' => ∃ r : Bool, e = .returned (.bool r) ∧ (r = true → Own v) ∧ Below w.heap.size w w' := by
  obtain ⟨_, _, lc, fc, hk, hbo, hn, hdg, he, ht0, ht1, ht2, ht3, htx, hb, hl, hl', hf, hf'⟩ := h
  obtain ⟨k, b, ng, dg, ex, tk, td, tn, to_, tx, ab, nb, cb, al, nl, cl, af, nf, cf⟩ := c
  obtain ⟨vk, vb, vn, vt, vx, vbs, vl, vf⟩ := v
  simp only [Val.kind, Val.bool, Val.num, Val.time, Val.text, Val.bytes, Val.list, Val.fields] at *
  have E6 := hid hb.1
  have E7 := hid hl.1
  have E8 := hid hf.1
  clear hb hl hl' hf hf'
  subst hk hbo hn hdg he ht0 ht1 ht2 ht3 htx
  unfold VC.arr
  obtain ⟨x1, hx1, hz1⟩ := num_zero vn
  obtain ⟨x2, hx2, hz2⟩ := tm_zero vt
  have HZ1 := hid hz1
  have HZ2 := hid hz2
  clear hz1 hz2
  go_enter Tryz.func154, Tryz.ntmps154
  go_upto_region 2 with (fail)
  go_cut [39] (fun v39 wc => ∃ x : Bool, v39 = .bool x ∧ (x = false → 0 ≤ k ∧ k < 8 ∧ (k ≠ 1 → b = false) ∧ (k ≠ 2 → vn = zD) ∧ (k ≠ 3 → vt = zT)) ∧ wc = w.alloc (.cells #[.int .i64 k, .bool b, .bool vn.neg, .string vn.digits, .int .i64 vn.exp, .int .i64 vt.kind, .int .i64 vt.day, .int .i64 vt.nano, .int .i64 vt.offset, .string tx, .slice ab nb cb, .slice al nl cl, .slice af nf cf] 30))
  case first =>
    by_cases k1 : k = 1
    · subst k1
      cases b <;> go_wp2_with fail
      all_goals go_meet
      all_goals
        refine ⟨_, rfl, fun hx => ?_, rfl⟩
        first | (exfalso; revert hx; decide) | skip
      all_goals
        have z1 := HZ1.out
        have z2 := HZ2.out
        refine ⟨by omega, by omega, fun h => ?_, fun h => ?_, fun h => ?_⟩
      all_goals first | (exact absurd rfl h) | (simp_all; done) | (exact z1 (by simp_all)) | (exact z2 (by simp_all)) | trace_state
    by_cases k2 : k = 2
    · subst k2
      cases b <;> go_wp2_with fail
      all_goals go_meet
      all_goals
        refine ⟨_, rfl, fun hx => ?_, rfl⟩
        first | (exfalso; revert hx; decide) | skip
      all_goals
        have z1 := HZ1.out
        have z2 := HZ2.out
        refine ⟨by omega, by omega, fun h => ?_, fun h => ?_, fun h => ?_⟩
      all_goals first | (exact absurd rfl h) | (simp_all; done) | (exact z1 (by simp_all)) | (exact z2 (by simp_all)) | trace_state
    by_cases k3 : k = 3
    · subst k3
      cases b <;> go_wp2_with fail
      all_goals go_meet
      all_goals
        refine ⟨_, rfl, fun hx => ?_, rfl⟩
        first | (exfalso; revert hx; decide) | skip
      all_goals
        have z1 := HZ1.out
        have z2 := HZ2.out
        refine ⟨by omega, by omega, fun h => ?_, fun h => ?_, fun h => ?_⟩
      all_goals first | (exact absurd rfl h) | (simp_all; done) | (exact z1 (by simp_all)) | (exact z2 (by simp_all)) | trace_state
    · have q1 : (k != 1) = true := by simpa using k1
      have q2 : (k != 2) = true := by simpa using k2
      have q3 : (k != 3) = true := by simpa using k3
      cases b <;> go_wp2_with fail
      all_goals go_meet
      all_goals
        refine ⟨_, rfl, fun hx => ?_, rfl⟩
        first | (exfalso; revert hx; decide) | skip
      all_goals
        have z1 := HZ1.out
        have z2 := HZ2.out
        refine ⟨by omega, by omega, fun h => ?_, fun h => ?_, fun h => ?_⟩
      all_goals first | (exact absurd rfl h) | (simp_all; done) | (exact z1 (by simp_all)) | (exact z2 (by simp_all)) | trace_state
  case rest =>
    obtain ⟨x, rfl, hp1, rfl⟩ := hcut
    have HP1 := hid hp1
    clear hp1
    cases x
    · have E : Hid ((k ≠ 4 → tx.toList = []) → (k ≠ 5 → nb = 0) → (k ≠ 6 → nl = 0) → (k ≠ 7 → nf = 0) → Own (Val.mk k b vn vt tx vbs vl vf)) := by
        intro h4 h5 h6 h7
        obtain ⟨a1, a2, a3, a4, a5⟩ := HP1.out rfl
        refine ⟨a1, a2, a3, a4, a5, fun h => ?_, fun h => ?_, fun h => ?_, fun h => ?_⟩
        · have := h4 h
          rw [ByteArray.toList_eq] at this
          exact ByteArray.ext (Array.toList_inj.1 this)
        · have := E6.out; simp only [Val.bytes]; rw [← this]; exact h5 h
        · have := E7.out; simp only [Val.list]; rw [← this]; exact h6 h
        · have := E8.out; simp only [Val.fields]; rw [← this]; exact h7 h
      clear HP1 E6 E7 E8 HZ1 HZ2 hx1 hx2
      by_cases k4 : k = 4
      · subst k4
        go_wp2_with fail
        all_goals go_ret
        all_goals refine ⟨_, rfl, fun hx => E.out ?_ ?_ ?_ ?_, (Below.refl _ _).alloc (Nat.le_refl _) _⟩
        all_goals simp_all
      by_cases k5 : k = 5
      · subst k5
        go_wp2_with fail
        all_goals go_ret
        all_goals refine ⟨_, rfl, fun hx => E.out ?_ ?_ ?_ ?_, (Below.refl _ _).alloc (Nat.le_refl _) _⟩
        all_goals simp_all
      by_cases k6 : k = 6
      · subst k6
        go_wp2_with fail
        all_goals go_ret
        all_goals refine ⟨_, rfl, fun hx => E.out ?_ ?_ ?_ ?_, (Below.refl _ _).alloc (Nat.le_refl _) _⟩
        all_goals simp_all
      by_cases k7 : k = 7
      · subst k7
        go_wp2_with fail
        all_goals go_ret
        all_goals refine ⟨_, rfl, fun hx => E.out ?_ ?_ ?_ ?_, (Below.refl _ _).alloc (Nat.le_refl _) _⟩
        all_goals simp_all
      have q4 : (k == 4) = false := by simpa using k4
      have q5 : (k == 5) = false := by simpa using k5
      have q6 : (k == 6) = false := by simpa using k6
      have q7 : (k == 7) = false := by simpa using k7
      go_wp2_with fail
      all_goals go_ret
      all_goals refine ⟨_, rfl, fun hx => E.out ?_ ?_ ?_ ?_, (Below.refl _ _).alloc (Nat.le_refl _) _⟩
      all_goals simp_all
    · go_wp2_with fail
      go_ret
      exact ⟨false, rfl, (fun h => nomatch h), (Below.refl _ _).alloc (Nat.le_refl _) _⟩
end Go.Proofs.YtaeclmligojlaaaGreatDoor.D

/- The reference's Keys: what it answers, for any fields; where it answers 0, the keys are valid and apart. Conditions: keys of at most 2^40 bytes. -/
namespace Go.Proofs.YtaeclmligojlaaaGreatDoor.D
open Go.RowKit

theorem below_drewN {b : Nat} {w w' : World} (h : Below b w w') (m : Nat) (hs : b ≤ w'.heap.size) : Below b w (w'.drewN m) :=
  h.trans ((Go.Proofs.YtaeclmligojlaaaGreatDoorW.PrintWords.Drawn0.mk ⟨m, rfl⟩).below.mono hs)
def KeysTo (fs : List (ByteArray × Val)) (q : Nat) : Prop := (∀ i (h : i < fs.length), i < q → vld fs[i].1.data.toList = true ∧ fs[i].1.size ≤ 1024) ∧ (∀ i j (h : i < j) (hj : j < fs.length), j < q → (fs[i]'(by omega)).1 ≠ fs[j].1)
def ApartTo (fs : List (ByteArray × Val)) (q r : Nat) : Prop := ∀ i (h : i < fs.length) (hq : q < fs.length), i < r → (fs[i]).1 ≠ fs[q].1
def KeysEnd (fs : List (ByteArray × Val)) (w : World) (e : Ending) (w' : World) : Prop := ∃ r : Int, e = .returned (.int .i64 r) ∧ (r = 0 → KeysOk fs) ∧ Below w.heap.size w w'

set_option maxRecDepth 100000 in
set_option maxHeartbeats 4000000 in
theorem ref_keys (U : Nat → Prop) (A : Option Addr) (n c : Nat) (fs : List (ByteArray × Val)) (fc : Nat → VC) (w : World) (h : RowAt U w A n fs.length 14 (fun i => fcell ((fs[i]?.map (·.1)).getD default) (fc i))) (hs : ∀ i (h : i < fs.length), fs[i].1.size ≤ 1099511627776) :
    Calls Tryz.prog 158 #[.slice A n c] w (KeysEnd fs w) := by
  have HR := hid h
  have hnl : n ≤ fs.length := Nat.le_of_eq h.1
  have hnl' : fs.length ≤ n := Nat.le_of_eq h.1.symm
  have hmx := h.2.1
  clear h
  have HS := hid hs
  clear hs
  go_enter Tryz.func158, Tryz.ntmps158
  go_wp2_with fail
  go_loopw [3] (fun iv wr => ∃ q : Nat, q ≤ n ∧ iv = .int .i64 q ∧ Below w.heap.size w wr ∧ KeysTo fs q)
    (fun iv _ => n - (intOf iv).toNat)
  case atStart => exact ⟨0, Nat.zero_le _, rfl, Below.refl _ _, ⟨fun i _ h => by omega, fun i j _ _ h => by omega⟩⟩
  case round =>
    obtain ⟨q, hq, rfl, hbel, hks⟩ := hrel
    have HBel := hid hbel
    have HKS := hid hks
    have hsz := hbel.size
    clear hbel hks
    by_cases hlt : q < n
    · obtain ⟨b0, o0, hal, hb0, hu0, hcell⟩ := HR.out.2.2 (by omega)
      subst hal
      have hkc : ∀ i (h : i < fs.length), ∀ wx : World, Below w.heap.size w wx → wx.cell? ⟨b0, o0 + i * 14, none⟩ = some (.string fs[i].1) := fun i h wx hb => by
        rw [hb.cell hb0]
        have := hcell i (by omega) 0 (by omega)
        simpa [fcell, h] using this
      have HKC := hid hkc
      clear hcell hkc
      have hg0 := HKC.out q (by omega) wr HBel.out
      have HC := hid (fun w => ref_valid (fs[q]'(by omega)).1 w (HS.out q (by omega)))
      generalize hke : (fs[q]'(by omega)).1 = key at *
      have HKE := hid hke
      clear hke
      go_wp2_with fail
      refine (HC.out _).mono ?_
      rintro e w1 ⟨rfl, hb⟩
      have HB := hid (HBel.out.trans (hb.mono hsz))
      have hsz1 : w.heap.size ≤ w1.heap.size := by have := hb.size; omega
      clear hb hg0
      have hg1 : w1.cell? ⟨b0, o0 + q * 14, none⟩ = some (.string key) := by rw [← HKE.out]; exact HKC.out q (by omega) w1 HB.out
      cases hv : vld key.data.toList with
      | false =>
        clear hv
        go_wp2_with fail
        go_ret
        exact ⟨5, rfl, fun h => by omega, HB.out⟩
      | true =>
        have HV := hid hv
        clear hv
        by_cases hk : key.size ≤ 1024
        · have hk' : Hid (key.size ≤ 1024) := hid hk
          have ht : decide (1024 < key.size) = false := by simp; omega
          go_wp2_with fail
          clear hg1
          obtain ⟨wo, rfl⟩ : ∃ wo : World, wo = w1 := ⟨_, rfl⟩
          go_loopw [4] (fun iv wr => ∃ r : Nat, r ≤ q ∧ iv = .int .i64 r ∧ Below w.heap.size w wr ∧ w.heap.size ≤ wr.heap.size ∧ ApartTo fs q r)
            (fun iv _ => q - (intOf iv).toNat)
          case atStart => exact ⟨0, Nat.zero_le _, rfl, HB.out, hsz1, fun i _ _ h => by omega⟩
          case round =>
            obtain ⟨r, hr, rfl, hbel2, hsz2, hap⟩ := hrel
            have HBel2 := hid hbel2
            have HAP := hid hap
            clear hbel2 hap
            by_cases hlt2 : r < q
            · have hg1 : wr.cell? ⟨b0, o0 + q * 14, none⟩ = some (.string key) := by rw [← HKE.out]; exact HKC.out q (by omega) wr HBel2.out
              have hg2 := HKC.out r (by omega) wr HBel2.out
              generalize hre : (fs[r]'(by omega)).1 = kr at *
              have HRE := hid hre
              clear hre
              go_wp2_with fail
              by_cases he : kr = key
              · subst he
                go_quiet (fail)
                go_wp2_with fail
                go_ret
                exact ⟨8, rfl, fun h => by omega, below_drewN HBel2.out _ hsz2⟩
              · have hl1 : (kr.toList == key.toList) = false := by
                  rw [beq_eq_false_iff_ne, ByteArray.toList_eq, ByteArray.toList_eq]
                  exact fun h => he (ByteArray.ext (Array.toList_inj.1 h))
                have HE := hid he
                clear he
                go_quiet (fail)
                go_wp2_with fail
                go_roundw
                case rel =>
                  refine ⟨r + 1, by omega, by go_num, below_drewN HBel2.out _ hsz2, hsz2, fun i h hq' hi => ?_⟩
                  by_cases hir : i < r
                  · exact HAP.out i h hq' hir
                  · obtain rfl : i = r := by omega
                    rw [HRE.out, HKE.out]
                    exact HE.out
                case measure => simp [intOf]; omega
            · obtain rfl : r = q := by omega
              go_wp2_with fail
              go_roundw
              case rel =>
                refine ⟨r + 1, by omega, by go_num, HBel2.out, ⟨fun i h hi => ?_, fun i j h hj hj2 => ?_⟩⟩
                · by_cases hir : i < r
                  · exact HKS.out.1 i h hir
                  · obtain rfl : i = r := by omega
                    rw [HKE.out]
                    exact ⟨HV.out, hk'.out⟩
                · by_cases hir : j < r
                  · exact HKS.out.2 i j h hj hir
                  · obtain rfl : j = r := by omega
                    exact HAP.out i (by omega) hj h
              case measure => simp [intOf]; omega
        · go_wp2_with fail
          go_ret
          exact ⟨10, rfl, fun h => by omega, HB.out⟩
    · go_wp2_with fail
      go_ret
      exact ⟨0, rfl, fun _ => ⟨fun i h => HKS.out.1 i h (by omega), fun i j h hj => HKS.out.2 i j h hj (by omega)⟩, HBel.out⟩
end Go.Proofs.YtaeclmligojlaaaGreatDoor.D

/- The reference's one: what it answers, for any value; where it answers 0, the value is valid but for the values in it. Conditions: strings of at most 2^40 bytes. -/
namespace Go.Proofs.YtaeclmligojlaaaGreatDoor.D
open Go.RowKit

/-- Strings of at most 2^40 bytes, everywhere in a value. -/
structure Lim1 (v : Val) : Prop where
  num : v.num.digits.size ≤ 1099511627776
  text : v.text.size ≤ 1099511627776
  keys : ∀ i (h : i < v.fields.length), v.fields[i].1.size ≤ 1099511627776
inductive Lim : Val → Prop where
  | mk (v : Val) (one : Lim1 v) (hl : ∀ i (h : i < v.list.length), Lim v.list[i]) (hf : ∀ i (h : i < v.fields.length), Lim v.fields[i].2) : Lim v
theorem Lim.one {v : Val} (h : Lim v) : Lim1 v := by cases h; assumption
theorem Lim.hl {v : Val} (h : Lim v) : ∀ i (h : i < v.list.length), Lim v.list[i] := by cases h; assumption
theorem Lim.hf {v : Val} (h : Lim v) : ∀ i (h : i < v.fields.length), Lim v.fields[i].2 := by cases h; assumption

def OneEnd (v : Val) (w : World) (e : Ending) (w' : World) : Prop := ∃ r : Int, e = .returned (.int .i64 r) ∧ (r = 0 → One v) ∧ Below w.heap.size w w'

set_option maxRecDepth 100000 in
set_option maxHeartbeats 4000000 in
theorem ref_one (c : VC) (v : Val) (U : Nat → Prop) (w : World) (h : VR U w c v) (hlim : Lim1 v) (_hU : ∀ b, U b → b < w.heap.size) : Calls Tryz.prog 94 #[.agg c.arr] w (OneEnd v w) := by
  have HO := hid (fun (w' : World) (g : Goes U U w w') => ref_own c v U w' (h.goes g))
  obtain ⟨_, _, lc, fc, hk, hbo, hn, hdg, he, ht0, ht1, ht2, ht3, htx, hb, hl, hl', hf, hf'⟩ := h
  obtain ⟨k, b, ng, dg, ex, tk, td, tn, to_, tx, ab, nb, cb, al, nl, cl, af, nf, cf⟩ := c
  obtain ⟨vk, vb, vn, vt, vx, vbs, vl, vf⟩ := v
  obtain ⟨l1, l2, l3⟩ := hlim
  simp only [Val.kind, Val.bool, Val.num, Val.time, Val.text, Val.bytes, Val.list, Val.fields] at *
  have E6 := hid hb.1
  subst hk hbo hn hdg he ht0 ht1 ht2 ht3 htx
  have HK := hid (fun (w' : World) (g : Goes U U w w') => ref_keys U af nf cf vf fc w' (hf.goes g) l3)
  clear hb hl hl' hf hf' l3
  have HN := hid (fun w' => (ref_decimal vn w' l1).elim fun r (hr : (r = true → DecOk vn) ∧ _) => hr.2.mono (fun e w'' (hh : e = .returned (.bool r) ∧ Below w'.heap.size w' w'') => (⟨r, hh.1, hr.1, hh.2⟩ : ∃ r : Bool, e = .returned (.bool r) ∧ (r = true → DecOk vn) ∧ Below w'.heap.size w' w'')))
  have HT := hid (fun w' => (ref_moment vt w').elim fun r (hr : (r = true → TmOk vt) ∧ _) => hr.2.mono (fun e w'' (hh : e = .returned (.bool r) ∧ Below w'.heap.size w' w'') => (⟨r, hh.1, hr.1, hh.2⟩ : ∃ r : Bool, e = .returned (.bool r) ∧ (r = true → TmOk vt) ∧ Below w'.heap.size w' w'')))
  have HX := hid (fun w' => ref_valid tx w' l2)
  clear l1 l2
  simp only [VC.arr] at HO ⊢
  go_enter Tryz.func94, Tryz.ntmps94
  go_wp2_with fail
  refine (HO.out _ ⟨fun b hb _ => Below.heap_alloc _ _ _ hb, fun _ _ h => h⟩).mono ?_
  rintro e w1 ⟨r1, rfl, h1, hb1⟩
  have HOW := hid h1
  clear h1
  have hx1 : w1.heap[w.heap.size]? = some (.cells #[.int .i64 k, .bool b, .bool vn.neg, .string vn.digits, .int .i64 vn.exp, .int .i64 vt.kind, .int .i64 vt.day, .int .i64 vt.nano, .int .i64 vt.offset, .string tx, .slice ab nb cb, .slice al nl cl, .slice af nf cf] 30 (0, 0)) := by rw [hb1.block _ (by simp only [World.size_alloc]; omega)]; exact heap_alloc_new w _
  have hz1 : w.heap.size < w1.heap.size := by have := hb1.size; simp only [World.size_alloc] at this; omega
  have HB1 : Hid (Below w.heap.size w w1) := hid (((Below.refl _ _).alloc (Nat.le_refl _) _).trans (hb1.mono (by simp)))
  have HX1 := hid hx1
  clear hb1 hx1
  have hcx1 : ∀ j, w1.cell? ⟨w.heap.size, j, none⟩ = (#[.int .i64 k, .bool b, .bool vn.neg, .string vn.digits, .int .i64 vn.exp, .int .i64 vt.kind, .int .i64 vt.day, .int .i64 vt.nano, .int .i64 vt.offset, .string tx, .slice ab nb cb, .slice al nl cl, .slice af nf cf] : Array Value)[j]? := fun j => cell_of_row w1 w.heap.size j _ 30 (0, 0) HX1.out
  cases r1
  · go_wp2_with fail
    go_ret
    exact ⟨6, rfl, (fun h => absurd h (by decide)), HB1.out⟩
  · go_wp2_with fail
    refine (HN.out _).mono ?_
    rintro e w2 ⟨r2, rfl, h2, hb2⟩
    have HDO := hid h2
    clear h2
    have hx2 : w2.heap[w.heap.size]? = some (.cells #[.int .i64 k, .bool b, .bool vn.neg, .string vn.digits, .int .i64 vn.exp, .int .i64 vt.kind, .int .i64 vt.day, .int .i64 vt.nano, .int .i64 vt.offset, .string tx, .slice ab nb cb, .slice al nl cl, .slice af nf cf] 30 (0, 0)) := by rw [hb2.block _ hz1]; exact HX1.out
    have hz2 : w.heap.size < w2.heap.size := by have := hb2.size; omega
    have HB2 : Hid (Below w.heap.size w w2) := hid (HB1.out.trans (hb2.mono (Nat.le_of_lt hz1)))
    have HX2 := hid hx2
    clear hb2 hx2
    clear hcx1
    have hcx2 : ∀ j, w2.cell? ⟨w.heap.size, j, none⟩ = (#[.int .i64 k, .bool b, .bool vn.neg, .string vn.digits, .int .i64 vn.exp, .int .i64 vt.kind, .int .i64 vt.day, .int .i64 vt.nano, .int .i64 vt.offset, .string tx, .slice ab nb cb, .slice al nl cl, .slice af nf cf] : Array Value)[j]? := fun j => cell_of_row w2 w.heap.size j _ 30 (0, 0) HX2.out
    cases r2
    · go_wp2_with fail
      go_ret
      exact ⟨2, rfl, (fun h => absurd h (by decide)), HB2.out⟩
    · by_cases k3 : k = 3
      · subst k3
        go_wp2_with fail
        refine (HT.out _).mono ?_
        rintro e w3 ⟨r3, rfl, h3, hb3⟩
        have HTO := hid h3
        clear h3
        have hx3 : w3.heap[w.heap.size]? = some (.cells #[.int .i64 3, .bool b, .bool vn.neg, .string vn.digits, .int .i64 vn.exp, .int .i64 vt.kind, .int .i64 vt.day, .int .i64 vt.nano, .int .i64 vt.offset, .string tx, .slice ab nb cb, .slice al nl cl, .slice af nf cf] 30 (0, 0)) := by rw [hb3.block _ hz2]; exact HX2.out
        have hz3 : w.heap.size < w3.heap.size := by have := hb3.size; omega
        have HB3 : Hid (Below w.heap.size w w3) := hid (HB2.out.trans (hb3.mono (Nat.le_of_lt hz2)))
        have HX3 := hid hx3
        clear hb3 hx3
        clear hcx2
        have hcx3 : ∀ j, w3.cell? ⟨w.heap.size, j, none⟩ = (#[.int .i64 3, .bool b, .bool vn.neg, .string vn.digits, .int .i64 vn.exp, .int .i64 vt.kind, .int .i64 vt.day, .int .i64 vt.nano, .int .i64 vt.offset, .string tx, .slice ab nb cb, .slice al nl cl, .slice af nf cf] : Array Value)[j]? := fun j => cell_of_row w3 w.heap.size j _ 30 (0, 0) HX3.out
        cases r3
        · go_wp2_with fail
          go_ret
          exact ⟨2, rfl, (fun h => absurd h (by decide)), HB3.out⟩
        · skip
          go_wp2_with fail
          refine (HX.out _).mono ?_
          rintro e w4 ⟨rfl, hb4⟩
          have hx4 : w4.heap[w.heap.size]? = some (.cells #[.int .i64 3, .bool b, .bool vn.neg, .string vn.digits, .int .i64 vn.exp, .int .i64 vt.kind, .int .i64 vt.day, .int .i64 vt.nano, .int .i64 vt.offset, .string tx, .slice ab nb cb, .slice al nl cl, .slice af nf cf] 30 (0, 0)) := by rw [hb4.block _ hz3]; exact HX3.out
          have hz4 : w.heap.size < w4.heap.size := by have := hb4.size; omega
          have HB4 : Hid (Below w.heap.size w w4) := hid (HB3.out.trans (hb4.mono (Nat.le_of_lt hz3)))
          have HX4 := hid hx4
          clear hb4 hx4
          clear hcx3
          have hcx4 : ∀ j, w4.cell? ⟨w.heap.size, j, none⟩ = (#[.int .i64 3, .bool b, .bool vn.neg, .string vn.digits, .int .i64 vn.exp, .int .i64 vt.kind, .int .i64 vt.day, .int .i64 vt.nano, .int .i64 vt.offset, .string tx, .slice ab nb cb, .slice al nl cl, .slice af nf cf] : Array Value)[j]? := fun j => cell_of_row w4 w.heap.size j _ 30 (0, 0) HX4.out
          cases hv : vld tx.data.toList with
          | false =>
            clear hv
            go_wp2_with fail
            go_ret
            exact ⟨5, rfl, (fun h => absurd h (by decide)), HB4.out⟩
          | true =>
            have HV := hid hv
            clear hv
            by_cases t1 : tx.size ≤ 65536
            · by_cases t2 : nb ≤ 65536
              · have u1 : decide (65536 < tx.size) = false := by simp; omega
                have u2 : decide (65536 < nb) = false := by simp; omega
                go_wp2_with fail
                refine (HK.out _ (Goes.below HB4.out)).mono ?_
                rintro e w5 ⟨r, rfl, hr, hb5⟩
                have HB5 := hid (HB4.out.trans (hb5.mono (Nat.le_of_lt hz4)))
                have HR := hid hr
                clear hb5 hr
                go_wp2_with fail
                go_ret
                exact ⟨r, rfl, fun h0 => ⟨HOW.out (by trivial), fun _ => HDO.out (by trivial), fun _ => HTO.out (by trivial), HV.out, t1, by have := E6.out; simp only [Val.bytes]; omega, HR.out h0⟩, HB5.out⟩
              · go_wp2_with fail
                go_ret
                exact ⟨10, rfl, (fun h => absurd h (by decide)), HB4.out⟩
            · go_wp2_with fail
              go_ret
              exact ⟨10, rfl, (fun h => absurd h (by decide)), HB4.out⟩
      · have q3 : (k == 3) = false := by simpa using k3
        go_wp2_with fail
        refine (HX.out _).mono ?_
        rintro e w3 ⟨rfl, hb3⟩
        have hx3 : w3.heap[w.heap.size]? = some (.cells #[.int .i64 k, .bool b, .bool vn.neg, .string vn.digits, .int .i64 vn.exp, .int .i64 vt.kind, .int .i64 vt.day, .int .i64 vt.nano, .int .i64 vt.offset, .string tx, .slice ab nb cb, .slice al nl cl, .slice af nf cf] 30 (0, 0)) := by rw [hb3.block _ hz2]; exact HX2.out
        have hz3 : w.heap.size < w3.heap.size := by have := hb3.size; omega
        have HB3 : Hid (Below w.heap.size w w3) := hid (HB2.out.trans (hb3.mono (Nat.le_of_lt hz2)))
        have HX3 := hid hx3
        clear hb3 hx3
        clear hcx2
        have hcx3 : ∀ j, w3.cell? ⟨w.heap.size, j, none⟩ = (#[.int .i64 k, .bool b, .bool vn.neg, .string vn.digits, .int .i64 vn.exp, .int .i64 vt.kind, .int .i64 vt.day, .int .i64 vt.nano, .int .i64 vt.offset, .string tx, .slice ab nb cb, .slice al nl cl, .slice af nf cf] : Array Value)[j]? := fun j => cell_of_row w3 w.heap.size j _ 30 (0, 0) HX3.out
        cases hv : vld tx.data.toList with
        | false =>
          clear hv
          go_wp2_with fail
          go_ret
          exact ⟨5, rfl, (fun h => absurd h (by decide)), HB3.out⟩
        | true =>
          have HV := hid hv
          clear hv
          by_cases t1 : tx.size ≤ 65536
          · by_cases t2 : nb ≤ 65536
            · have u1 : decide (65536 < tx.size) = false := by simp; omega
              have u2 : decide (65536 < nb) = false := by simp; omega
              go_wp2_with fail
              refine (HK.out _ (Goes.below HB3.out)).mono ?_
              rintro e w4 ⟨r, rfl, hr, hb4⟩
              have HB4 := hid (HB3.out.trans (hb4.mono (Nat.le_of_lt hz3)))
              have HR := hid hr
              clear hb4 hr
              go_wp2_with fail
              go_ret
              exact ⟨r, rfl, fun h0 => ⟨HOW.out (by trivial), fun _ => HDO.out (by trivial), fun h => absurd h k3, HV.out, t1, by have := E6.out; simp only [Val.bytes]; omega, HR.out h0⟩, HB4.out⟩
            · go_wp2_with fail
              go_ret
              exact ⟨10, rfl, (fun h => absurd h (by decide)), HB3.out⟩
          · go_wp2_with fail
            go_ret
            exact ⟨10, rfl, (fun h => absurd h (by decide)), HB3.out⟩
end Go.Proofs.YtaeclmligojlaaaGreatDoor.D

/- The reference's Kids, look and Check: where they find nothing wrong, the value is valid. Conditions: strings of at most 2^40 bytes. -/
namespace Go.Proofs.YtaeclmligojlaaaGreatDoor.D
open Go.RowKit

/-- The values in a value, as Kids gives them. -/
def Val.kids (v : Val) : List Val := if v.kind = 7 then v.fields.map (·.2) else v.list
set_option maxRecDepth 100000 in
set_option maxHeartbeats 4000000 in
/-- Kids: a slice that reads as the values in the value. -/
theorem ref_kids (c : VC) (v : Val) (U : Nat → Prop) (w : World) (h : VR U w c v) (hw : v.fields.length ≤ 4294967296) (hU : ∀ b, U b → b < w.heap.size) : Calls Tryz.prog 95 #[.agg c.arr] w fun e w' =>
    ∃ (A : Option Addr) (n cp : Nat) (lc : Nat → VC), e = .returned (.slice A n cp) ∧ Below w.heap.size w w' ∧ RowAt U w' A n v.kids.length 13 (fun i => (lc i).cell) ∧ ∀ i (h : i < v.kids.length), VR U w' (lc i) v.kids[i] := by
  obtain ⟨_, _, lc, fc, hk, hbo, hn, hdg, he, ht0, ht1, ht2, ht3, htx, hb, hl, hl', hf, hf'⟩ := h
  obtain ⟨k, b, ng, dg, ex, tk, td, tn, to_, tx, ab, nb, cb, al, nl, cl, af, nf, cf⟩ := c
  obtain ⟨vk, vb, vn, vt, vx, vbs, vl, vf⟩ := v
  simp only [Val.kind, Val.bool, Val.num, Val.time, Val.text, Val.bytes, Val.list, Val.fields] at *
  subst hk
  have HL := hid hl
  have HL' := hid hl'
  have HF := hid hf
  have HF' := hid hf'
  have hnf : nf ≤ vf.length := Nat.le_of_eq hf.1
  have hnf' : vf.length ≤ nf := Nat.le_of_eq hf.1.symm
  have HU := hid hU
  clear hbo hn hdg he ht0 ht1 ht2 ht3 htx hb hl hl' hf hf' hU
  by_cases k7 : k = 7
  · subst k7
    unfold VC.arr
    go_enter Tryz.func95, Tryz.ntmps95
    go_wp2_with fail
    go_loopw [3, 4] (fun lv iv wr => ∃ q : Nat, q ≤ nf ∧ iv = .int .i64 q ∧
        wr.ownsRow (w.heap.size + 1) 30 13 lv q (((List.range q).map fc).flatMap (·.arr.toList)) ∧ Below w.heap.size w wr ∧ w.heap.size + 1 ≤ wr.heap.size ∧
        wr.heap[w.heap.size]? = some (.cells #[.int .i64 7, .bool b, .bool ng, .string dg, .int .i64 ex, .int .i64 tk, .int .i64 td, .int .i64 tn, .int .i64 to_, .string tx, .slice ab nb cb, .slice al nl cl, .slice af nf cf] 30 (0, 0)))
      (fun _ iv _ => nf - (intOf iv).toNat)
    case atStart =>
      exact ⟨0, Nat.zero_le _, rfl, World.ownsRow_nil .., (Below.refl _ _).alloc (Nat.le_refl _) _, by simp, heap_alloc_new w _⟩
    case round =>
      obtain ⟨q, hq, rfl, hown, hbel, hsz, hbx⟩ := hrel
      have HO := hid hown
      have HBel := hid hbel
      have HX := hid hbx
      have hcx : ∀ j, wr.cell? ⟨w.heap.size, j, none⟩ = (#[.int .i64 7, .bool b, .bool ng, .string dg, .int .i64 ex, .int .i64 tk, .int .i64 td, .int .i64 tn, .int .i64 to_, .string tx, .slice ab nb cb, .slice al nl cl, .slice af nf cf] : Array Value)[j]? := fun j => cell_of_row wr w.heap.size j _ 30 (0, 0) HX.out
      clear hown hbel hbx
      by_cases hlt : q < nf
      · obtain ⟨b0, o0, hal, hb0, hu0, hcell⟩ := HF.out.2.2 (by omega)
        subst hal
        have hcq : ∀ j, j < 14 → wr.cell? ⟨b0, o0 + q * 14 + j, none⟩ = some (fcell ((vf[q]?.map (·.1)).getD default) (fc q) j) := fun j hj => by
          rw [HBel.out.cell hb0]
          exact hcell q (by omega) j hj
        have HR := hid (List.range_succ (n := q))
        generalize hce : fc q = ce at *
        have HCE := hid hce
        clear hce hcell
        obtain ⟨g0, g1, g2, g3, g4, g5, g6, g7, g8, g9, g10, g11, g12, g13⟩ := field_cells hcq
        clear hcq g0
        obtain ⟨i0, hi, hz0, hz1, hz2⟩ := info_parts info_Value
        go_wp2_with (at_builtin; refine wpList_append_own_at _ rfl (.tmp 17) (.tmp 24) 22 rfl (w.heap.size + 1) 30 i0 zV 13 168 Tryz.underlying22 hi hz0 hz1 hz2 rfl (by decide) u3 q (((List.range q).map fc).flatMap (·.arr.toList)) rfl (HO.out.alloc _) ⟨wr.heap.size, 0, none⟩ 1 1 ce.arr.toList rfl ?c1 ?c2 ?c3 ?c4 ?c5 ?c6 ?_)
        case c1 => rfl
        case c2 => exact World.news_of_block (cs := ce.arr) (t := 30) (fr := (0, 0)) (heap_alloc_new wr _)
        case c3 => simp [VC.arr, Value.oneCell']
        case c4 => unfold maxLen; omega
        case c5 => omega
        case c6 => simp; omega
        intro v3 w3 hown3 hg3 _ hat3
        have HO3 := hid hown3
        have HG3 := hid hg3
        have HA3 := hid hat3
        clear hown3 hg3 hat3
        go_wp2_with fail
        go_roundw
        case rel =>
          have hown5 := HO.out
          refine ⟨q + 1, by omega, by go_num, ?_, ?_, ?_, ?_⟩
          · rw [HR.out, List.map_append, List.flatMap_append]
            simp only [List.map_cons, List.map_nil, HCE.out, List.flatMap_cons, List.flatMap_nil, List.append_nil]
            exact HO3.out
          · exact (HBel.out.alloc (by omega) _).grown HG3.out (by simp; omega) (fun k hk => by have := (hown5.lt k hk).1; omega)
          · have := HG3.out.size; simp only [World.size_alloc] at this; omega
          · rw [HG3.out.block _ (by simp only [World.size_alloc]; omega) (fun e => by have := (hown5.lt _ e.symm).1; omega), Below.heap_alloc _ _ _ (by omega)]
            exact HX.out
        case measure => simp [intOf]; omega
      · obtain rfl : q = nf := by omega
        clear hlt
        obtain ⟨hqn, Al, cl', hu3, hrow⟩ := own_vals HO.out
        subst hu3
        have ek : (Val.mk 7 vb vn vt vx vbs vl vf).kids = vf.map (·.2) := by simp [Val.kids, Val.kind, Val.fields]
        have HRow := hid (hrow U (fun k hk hu => by have := (HO.out.lt k hk).1; have := HU.out k hu; omega))
        have EK := hid ek
        clear hrow hqn ek HO
        go_wp2_with fail
        go_ret
        refine ⟨Al, q, cl', fun i => ((List.range q).map fc).getD i default, rfl, HBel.out, ?_, fun i h => ?_⟩
        · simp only [EK.out, List.length_map]
          have := HRow.out
          simp only [List.length_map, List.length_range] at this
          have e : vf.length = q := by omega
          rw [e]
          exact this
        · simp only [EK.out, List.length_map] at h ⊢
          have e : ((List.range q).map fc).getD i default = fc i := by
            rw [List.getD_eq_getElem?_getD]
            simp [show i < q by omega]
          rw [e]
          have := (HF'.out i h).goes (Goes.below HBel.out)
          simpa using this
  · have q7 : (k != 7) = true := by simpa using k7
    have ek : (Val.mk k vb vn vt vx vbs vl vf).kids = vl := by simp [Val.kids, Val.kind, Val.list, k7]
    unfold VC.arr
    go_enter Tryz.func95, Tryz.ntmps95
    go_wp2_with fail
    go_ret
    have hg : Goes U U w (w.alloc (.cells #[.int .i64 k, .bool b, .bool ng, .string dg, .int .i64 ex, .int .i64 tk, .int .i64 td, .int .i64 tn, .int .i64 to_, .string tx, .slice ab nb cb, .slice al nl cl, .slice af nf cf] 30)) := ⟨fun b hb _ => Below.heap_alloc _ _ _ hb, fun _ _ h => h⟩
    refine ⟨al, nl, cl, lc, rfl, (Below.refl _ _).alloc (Nat.le_refl _) _, ?_, fun i h => ?_⟩
    · simp only [ek]
      exact HL.out.goes hg
    · simp only [ek] at h ⊢
      exact (HL'.out i h).goes hg
end Go.Proofs.YtaeclmligojlaaaGreatDoor.D

/- The reference's look and Check: where they find nothing wrong, the value is valid, and not too deep or large. Conditions: strings of at most 2^40 bytes. -/
namespace Go.Proofs.YtaeclmligojlaaaGreatDoor.D
open Go.RowKit

theorem kids_own {v : Val} (h : Own v) : (v.kids = v.list ∧ v.fields = []) ∨ (v.kids = v.fields.map (·.2) ∧ v.list = []) := by
  by_cases k7 : v.kind = 7
  · right
    exact ⟨by simp [Val.kids, k7], List.length_eq_zero_iff.1 (h.l (by omega))⟩
  · left
    exact ⟨by simp [Val.kids, k7], List.length_eq_zero_iff.1 (h.f k7)⟩
theorem cntF_map (l : List (ByteArray × Val)) : Val.cntL (l.map (·.2)) = Val.cntF l := by
  induction l with
  | nil => rfl
  | cons x l ih => simp only [List.map_cons, Val.cntL, Val.cntF, ih]
theorem deepF_map (l : List (ByteArray × Val)) : Val.deepL (l.map (·.2)) = Val.deepF l := by
  induction l with
  | nil => rfl
  | cons x l ih => simp only [List.map_cons, Val.deepL, Val.deepF, ih]
theorem kids_cnt {v : Val} (h : Own v) : v.cnt = 1 + Val.cntL v.kids := by
  rw [Val.cnt_eq]
  rcases kids_own h with ⟨h1, h2⟩ | ⟨h1, h2⟩
  · rw [h1, h2]; simp [Val.cntF]
  · rw [h1, h2, cntF_map]; simp [Val.cntL]
theorem kids_deep {v : Val} (h : Own v) : v.deep = 1 + Val.deepL v.kids := by
  rw [Val.deep_eq]
  rcases kids_own h with ⟨h1, h2⟩ | ⟨h1, h2⟩
  · rw [h1, h2]; simp [Val.deepF]
  · rw [h1, h2, deepF_map]; simp [Val.deepL]
theorem kids_ok {v : Val} (h : One v) (hk : ∀ x ∈ v.kids, OkV x) : OkV v := by
  rcases kids_own h.own with ⟨h1, h2⟩ | ⟨h1, h2⟩
  · refine ⟨v, h, fun i hi => hk _ (by rw [h1]; exact List.getElem_mem hi), fun i hi => ?_⟩
    rw [h2] at hi
    simp at hi
  · refine ⟨v, h, fun i hi => ?_, fun i hi => hk _ (by rw [h1]; exact List.mem_map.2 ⟨_, List.getElem_mem hi, rfl⟩)⟩
    rw [h2] at hi
    simp at hi
theorem kids_lim {v : Val} (h : Lim v) : ∀ x ∈ v.kids, Lim x := by
  intro x hx
  unfold Val.kids at hx
  split at hx
  · obtain ⟨y, hy, rfl⟩ := List.mem_map.1 hx
    obtain ⟨i, hi, rfl⟩ := List.mem_iff_getElem.1 hy
    exact h.hf i hi
  · obtain ⟨i, hi, rfl⟩ := List.mem_iff_getElem.1 hx
    exact h.hl i hi
theorem kids_deep_le (v : Val) : ∀ x ∈ v.kids, x.deep + 1 ≤ v.deep := by
  intro x hx
  rw [Val.deep_eq v]
  unfold Val.kids at hx
  split at hx
  · obtain ⟨y, hy, rfl⟩ := List.mem_map.1 hx
    obtain ⟨i, hi, rfl⟩ := List.mem_iff_getElem.1 hy
    have := Val.deepF_get v.fields i hi
    omega
  · obtain ⟨i, hi, rfl⟩ := List.mem_iff_getElem.1 hx
    have := Val.deepL_get v.list i hi
    omega
theorem kids_weight_le (v : Val) : ∀ x ∈ v.kids, x.weight ≤ v.weight := by
  intro x hx
  obtain ⟨k, b, n, t, tx, bs, l, f⟩ := v
  simp only [Val.weight]
  unfold Val.kids at hx
  split at hx
  · obtain ⟨y, hy, rfl⟩ := List.mem_map.1 hx
    obtain ⟨i, hi, rfl⟩ := List.mem_iff_getElem.1 hy
    have := (Val.weightF_get f).2 i hi
    simp only [Val.fields]
    omega
  · obtain ⟨i, hi, rfl⟩ := List.mem_iff_getElem.1 hx
    have := (Val.weightL_get l).2 i hi
    simp only [Val.list]
    omega
theorem deepL_take (l : List Val) : ∀ i (h : i < l.length), Val.deepL (l.take (i + 1)) = max (Val.deepL (l.take i)) l[i].deep := by
  induction l with
  | nil => intro i h; simp at h
  | cons v l ih =>
    intro i h
    cases i with
    | zero => simp [Val.deepL]
    | succ i => have := ih i (by simpa using h); simp only [List.take_succ_cons, Val.deepL, List.getElem_cons_succ]; omega
theorem deepL_append (l m : List Val) : Val.deepL (l ++ m) = max (Val.deepL l) (Val.deepL m) := by
  induction l with
  | nil => simp [Val.deepL]
  | cons v l ih => simp only [List.cons_append, Val.deepL, ih]; omega
theorem cntL_append (l m : List Val) : Val.cntL (l ++ m) = Val.cntL l + Val.cntL m := by
  induction l with
  | nil => simp [Val.cntL]
  | cons v l ih => simp only [List.cons_append, Val.cntL, ih]; omega

def LookEnd (v : Val) (dep seen : Int) (w : World) (e : Ending) (w' : World) : Prop :=
  ∃ s r : Int, e = .returned (.tuple #[.int .i64 s, .int .i64 r]) ∧ seen ≤ s ∧ s ≤ 65536 ∧ (r = 0 → OkV v ∧ dep + v.deep ≤ 49 ∧ s = seen + v.cnt) ∧ Below w.heap.size w w'
/-- What has been found after some of the values in a value. -/
def LookTo (l : List Val) (dep seen s : Int) : Prop := (∀ x ∈ l, OkV x) ∧ (dep + Val.deepL l ≤ 48) ∧ s = seen + Val.cntL l

set_option maxRecDepth 100000 in
set_option maxHeartbeats 4000000 in
theorem ref_look (d : Nat) : ∀ (v : Val) (c : VC) (U : Nat → Prop) (dep seen : Int) (w : World), v.deep ≤ d → Lim v → v.weight ≤ 4294967296 → VR U w c v → (∀ b, U b → b < w.heap.size) → 1 ≤ dep → dep ≤ 100 → 0 ≤ seen → seen ≤ 65536 →
    Calls Tryz.prog 33 #[.agg c.arr, .int .i64 dep, .int .i64 seen] w (LookEnd v dep seen w) := by
  induction d with
  | zero =>
    intro v c U dep seen w hd
    cases v
    simp only [Val.deep] at hd
    omega
  | succ d ih =>
    intro v c U dep seen w hd hlim hwt hv hU h1 h2 h3 h4
    have IH := hid ih
    have HV := hid hv
    have HU := hid hU
    have HL := hid hlim
    have HO := hid (fun (w' : World) (g : Goes U U w w') (hu : ∀ b, U b → b < w'.heap.size) => ref_one c v U w' (hv.goes g) hlim.one hu)
    have hfl : v.fields.length ≤ 4294967296 := by
      have := Val.cntF_len v.fields
      obtain ⟨k, b, n, t, tx, bs, l, f⟩ := v
      simp only [Val.weight, Val.fields] at hwt ⊢
      have := (Val.weightF_get f).1
      omega
    have HK := hid (fun (w' : World) (g : Goes U U w w') (hu : ∀ b, U b → b < w'.heap.size) => ref_kids c v U w' (hv.goes g) hfl hu)
    clear ih hv hU hlim hfl
    unfold VC.arr at HO HK ⊢
    by_cases hdep : dep ≤ 48
    · by_cases hse : seen < 65536
      · go_enter Tryz.func33, Tryz.ntmps33
        go_wp2_with fail
        refine (HO.out _ ⟨fun b hb _ => Below.heap_alloc _ _ _ hb, fun _ _ h => h⟩ (fun b hu => by have := HU.out b hu; simp only [World.size_alloc]; omega)).mono ?_
        rintro e w1 ⟨r1, rfl, hr1, hb1⟩
        have hx1 : w1.heap[w.heap.size]? = some (.cells #[.int .i64 c.kind, .bool c.bool, .bool c.neg, .string c.digits, .int .i64 c.exp, .int .i64 c.tkind, .int .i64 c.day, .int .i64 c.nano, .int .i64 c.offset, .string c.text, .slice c.ab c.nb c.cb, .slice c.al c.nl c.cl, .slice c.af c.nf c.cf] 30 (0, 0)) := by rw [hb1.block _ (by simp only [World.size_alloc]; omega)]; exact heap_alloc_new w _
        have hz1 : w.heap.size < w1.heap.size := by have := hb1.size; simp only [World.size_alloc] at this; omega
        have HB1 : Hid (Below w.heap.size w w1) := hid (((Below.refl _ _).alloc (Nat.le_refl _) _).trans (hb1.mono (by simp)))
        have HX1 := hid hx1
        have HR1 := hid hr1
        clear hb1 hx1 hr1
        have hcx1 : ∀ j, w1.cell? ⟨w.heap.size, j, none⟩ = (#[.int .i64 c.kind, .bool c.bool, .bool c.neg, .string c.digits, .int .i64 c.exp, .int .i64 c.tkind, .int .i64 c.day, .int .i64 c.nano, .int .i64 c.offset, .string c.text, .slice c.ab c.nb c.cb, .slice c.al c.nl c.cl, .slice c.af c.nf c.cf] : Array Value)[j]? := fun j => cell_of_row w1 w.heap.size j _ 30 (0, 0) HX1.out
        by_cases hr0 : r1 = 0
        · subst hr0
          have HONE := hid (HR1.out rfl)
          clear HR1
          go_wp2_with fail
          refine (HK.out _ (Goes.below HB1.out) (fun b hu => by have := HU.out b hu; omega)).mono ?_
          rintro e w2 ⟨Ak, nk, ck, lc, rfl, hb2, hrow, hvr⟩
          have HB2 : Hid (Below w.heap.size w w2) := hid (HB1.out.trans (hb2.mono (Nat.le_of_lt hz1)))
          have hz2 : w.heap.size < w2.heap.size := by have := hb2.size; omega
          have hnk : nk ≤ v.kids.length := Nat.le_of_eq hrow.1
          have hnk' : v.kids.length ≤ nk := Nat.le_of_eq hrow.1.symm
          have hmx := hrow.2.1
          have HROW := hid hrow
          have HVR := hid hvr
          clear hb2 hrow hvr hcx1
          go_wp2_with fail
          go_loopw [2, 10] (fun sv iv wr => ∃ (q : Nat) (s : Int), q ≤ nk ∧ iv = .int .i64 q ∧ sv = .int .i64 s ∧ seen + 1 ≤ s ∧ s ≤ 65536 ∧ LookTo (v.kids.take q) dep (seen + 1) s ∧ Below w2.heap.size w2 wr)
            (fun _ iv _ => nk - (intOf iv).toNat)
          case atStart => exact ⟨0, _, Nat.zero_le _, rfl, rfl, by omega, by omega, ⟨fun x hx => by simp at hx, by simp [Val.deepL]; omega, by simp [Val.cntL]⟩, Below.refl _ _⟩
          case round =>
            obtain ⟨q, s, hq, rfl, rfl, hs1, hs2, hto, hbel⟩ := hrel
            have HT := hid hto
            have HBel := hid hbel
            have hszr := hbel.size
            clear hto hbel
            by_cases hlt : q < nk
            · obtain ⟨b0, o0, hal, hb0, hu0, hcell⟩ := HROW.out.2.2 (by omega)
              subst hal
              have hcq : ∀ j, j < 13 → wr.cell? ⟨b0, o0 + q * 13 + j, none⟩ = some ((lc q).cell j) := fun j hj => by
                rw [HBel.out.cell hb0]
                exact hcell q (by omega) j hj
              obtain ⟨g0, g1, g2, g3, g4, g5, g6, g7, g8, g9, g10, g11, g12⟩ := val_cells hcq
              clear hcq hcell
              have hmem : v.kids[q]'(by omega) ∈ v.kids := List.getElem_mem _
              have HV0 := hid (HVR.out q (by omega))
              have HL0 := hid (kids_lim HL.out _ hmem)
              have hdq := kids_deep_le v _ hmem
              have hwq := kids_weight_le v _ hmem
              have HTK := hid (take_snoc' v.kids q (by omega))
              generalize hce : lc q = ce at *
              generalize hve : v.kids[q]'(by omega) = ve at *
              clear hce hve hmem
              go_wp2_with fail
              refine (IH.out ve ce U (dep + 1) s wr (by omega) HL0.out (by omega) (HV0.out.goes (Goes.below HBel.out)) (fun b hu => by have := HU.out b hu; omega) (by omega) (by omega) (by omega) hs2).mono ?_
              rintro e w3 ⟨s3, r3, rfl, hs3, hs4, h3, hb3⟩
              have HB3 := hid hb3
              have HL3 := hid h3
              clear hb3 h3
              by_cases hr0 : r3 = 0
              · subst hr0
                have hres := HL3.out rfl
                have HRES := hid hres
                have hsn : s3 ≤ 65536 := hs4
                clear hres HL3
                go_wp2_with fail
                go_roundw
                case rel =>
                  refine ⟨q + 1, s3, by omega, by go_num, rfl, by omega, hs4, ?_, HBel.out.trans (HB3.out.mono hszr)⟩
                  obtain ⟨t1, t2, t3⟩ := HT.out
                  obtain ⟨u1, u2, u3⟩ := HRES.out
                  rw [HTK.out]
                  refine ⟨fun x hx => ?_, ?_, ?_⟩
                  · rcases List.mem_append.1 hx with hx | hx
                    · exact t1 x hx
                    · rw [List.mem_singleton.1 hx]; exact u1
                  · rw [deepL_append]; simp only [Val.deepL]; omega
                  · rw [cntL_append]; simp only [Val.cntL]; omega
                case measure => simp [intOf]; omega
              · have hr0' : (r3 != 0) = true := by simpa using hr0
                go_wp2_with fail
                go_ret2
                exact ⟨s3, r3, rfl, by omega, hs4, (fun h => absurd h hr0), HB2.out.trans ((HBel.out.trans (HB3.out.mono hszr)).mono (Nat.le_of_lt hz2))⟩
            · obtain rfl : q = nk := by omega
              go_wp2_with fail
              go_ret2
              refine ⟨s, 0, rfl, by omega, hs2, fun _ => ?_, HB2.out.trans (HBel.out.mono (Nat.le_of_lt hz2))⟩
              obtain ⟨t1, t2, t3⟩ := HT.out
              rw [List.take_of_length_le (by omega)] at t1 t2 t3
              refine ⟨kids_ok HONE.out t1, ?_, ?_⟩
              · rw [kids_deep HONE.out.own]; omega
              · rw [kids_cnt HONE.out.own]; omega
        · have hr0' : (r1 != 0) = true := by simpa using hr0
          go_wp2_with fail
          go_ret2
          exact ⟨seen, r1, rfl, Int.le_refl _, h4, (fun h => absurd h hr0), HB1.out⟩
      · go_enter Tryz.func33, Tryz.ntmps33
        go_wp2_with fail
        go_ret2
        exact ⟨seen, 10, rfl, Int.le_refl _, h4, (fun h => absurd h (by decide)), (Below.refl _ _).alloc (Nat.le_refl _) _⟩
    · go_enter Tryz.func33, Tryz.ntmps33
      go_wp2_with fail
      go_ret2
      exact ⟨seen, 9, rfl, Int.le_refl _, h4, (fun h => absurd h (by decide)), (Below.refl _ _).alloc (Nat.le_refl _) _⟩

set_option maxRecDepth 100000 in
/-- The reference's Check. -/
theorem ref_check (v : Val) (c : VC) (U : Nat → Prop) (w : World) (hl : Lim v) (hw : v.weight ≤ 4294967296) (hv : VR U w c v) (hU : ∀ b, U b → b < w.heap.size) :
    Calls Tryz.prog 11 #[.agg c.arr] w fun e w' => ∃ r : Int, e = .returned (.int .i64 r) ∧ (r = 0 → OkV v ∧ v.deep ≤ 48 ∧ v.cnt ≤ 65536) ∧ Below w.heap.size w w' := by
  have HC := hid (fun (w' : World) (g : Goes U U w w') (hu : ∀ b, U b → b < w'.heap.size) => ref_look v.deep v c U 1 0 w' (Nat.le_refl _) hl hw (hv.goes g) hu (by decide) (by decide) (by decide) (by decide))
  have HU := hid hU
  clear hv hl hU
  unfold VC.arr at HC ⊢
  go_enter Tryz.func11, Tryz.ntmps11
  go_wp2_with fail
  refine (HC.out _ ⟨fun b hb _ => Below.heap_alloc _ _ _ hb, fun _ _ h => h⟩ (fun b hu => by have := HU.out b hu; simp only [World.size_alloc]; omega)).mono ?_
  rintro e w1 ⟨s, r, rfl, h1, h2, h3, hb⟩
  have HB := hid hb
  have H3 := hid h3
  clear hb h3
  go_wp2_with fail
  go_ret
  refine ⟨r, rfl, fun h => ?_, ((Below.refl _ _).alloc (Nat.le_refl _) _).trans (HB.out.mono (by simp))⟩
  obtain ⟨a1, a2, a3⟩ := H3.out h
  exact ⟨a1, by omega, by omega⟩
end Go.Proofs.YtaeclmligojlaaaGreatDoor.D
