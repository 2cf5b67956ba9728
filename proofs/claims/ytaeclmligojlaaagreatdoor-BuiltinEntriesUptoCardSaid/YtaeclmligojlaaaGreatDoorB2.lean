/- utf.Len and the reference's Boundaries, as print.sh writes them, against UTF-8 in plain terms. Conditions: strings of at most 2^40 bytes. | The reference's Boundaries (of UTF-8), as print.sh writes it, against UTF-8 in plain terms. Conditions: strings of at most 2^40 bytes. | Contracts of small functions over strings and numbers: utf.Valid, digits.Valid, digits.Zeros, decimal.Valid, moment.Valid (where they answer true), and the reference's. Conditions: strings of at most 2^40 bytes. | The reference's Valid of decimals: what it answers, for any decimal; a decimal of which it answers true is valid. Conditions: digits of at most 2^40 bytes. | Valid values, in plain terms: what a valid value has in its own fields, in its keys and in the values in it; how many values there are in a value. Conditions: none. -/
import Derived.Test.YtaeclmligojlaaaGreatDoorB1
import Derived.Test.YtaeclmligojlaaaGreatDoorPLenx1
import Derived.Test.YtaeclmligojlaaaGreatDoorPBuiltinJoinsx5
import Derived.Laws.BitsLemmas
import Derived.Test.YtaeclmligojlaaaGreatDoorProg
import Derived.Test.YtaeclmligojlaaaGreatDoorPallx1
import Derived.Test.YtaeclmligojlaaaGreatDoorPtrimRightBytex1
import Derived.Test.YtaeclmligojlaaaGreatDoorPBuiltinJoinsx7
import Derived.Deep.RegionHeld3
import Derived.IntWalk
/- utf.Len and the reference's Boundaries, as print.sh writes them, against UTF-8 in plain terms. Conditions: strings of at most 2^40 bytes. -/
namespace Go.Proofs.YtaeclmligojlaaaGreatDoor.D
open Go.Proofs.YtaeclmligojlaaaGreatDoorW.PrintWords Go.RowKit

theorem all256 {P : Nat → Prop} (h : ∀ n : Fin 256, P n.val) (b : UInt8) : P b.toNat := h ⟨b.toNat, b.toNat_lt⟩
theorem u8_31 (b : UInt8) : Go.bits .and .u8 (b.toNat : Int) 31 = ((b.toNat % 32 : Nat) : Int) := all256 (P := fun n => Go.bits .and .u8 (n : Int) 31 = ((n % 32 : Nat) : Int)) (by decide +kernel) b
theorem u8_15 (b : UInt8) : Go.bits .and .u8 (b.toNat : Int) 15 = ((b.toNat % 16 : Nat) : Int) := all256 (P := fun n => Go.bits .and .u8 (n : Int) 15 = ((n % 16 : Nat) : Int)) (by decide +kernel) b
theorem u8_7 (b : UInt8) : Go.bits .and .u8 (b.toNat : Int) 7 = ((b.toNat % 8 : Nat) : Int) := all256 (P := fun n => Go.bits .and .u8 (n : Int) 7 = ((n % 8 : Nat) : Int)) (by decide +kernel) b
theorem u8_63 (b : UInt8) : Go.bits .and .u8 (b.toNat : Int) 63 = ((b.toNat % 64 : Nat) : Int) := all256 (P := fun n => Go.bits .and .u8 (n : Int) 63 = ((n % 64 : Nat) : Int)) (by decide +kernel) b
theorem u8_192 (b : UInt8) : Go.bits .and .u8 (b.toNat : Int) 192 = ((b.toNat / 64 * 64 : Nat) : Int) := all256 (P := fun n => Go.bits .and .u8 (n : Int) 192 = ((n / 64 * 64 : Nat) : Int)) (by decide +kernel) b
theorem i64_31 (b : UInt8) : Go.bits .and .i64 (b.toNat : Int) 31 = ((b.toNat % 32 : Nat) : Int) := all256 (P := fun n => Go.bits .and .i64 (n : Int) 31 = ((n % 32 : Nat) : Int)) (by decide +kernel) b
theorem i64_15 (b : UInt8) : Go.bits .and .i64 (b.toNat : Int) 15 = ((b.toNat % 16 : Nat) : Int) := all256 (P := fun n => Go.bits .and .i64 (n : Int) 15 = ((n % 16 : Nat) : Int)) (by decide +kernel) b
theorem i64_7 (b : UInt8) : Go.bits .and .i64 (b.toNat : Int) 7 = ((b.toNat % 8 : Nat) : Int) := all256 (P := fun n => Go.bits .and .i64 (n : Int) 7 = ((n % 8 : Nat) : Int)) (by decide +kernel) b
theorem i64_63 (b : UInt8) : Go.bits .and .i64 (b.toNat : Int) 63 = ((b.toNat % 64 : Nat) : Int) := all256 (P := fun n => Go.bits .and .i64 (n : Int) 63 = ((n % 64 : Nat) : Int)) (by decide +kernel) b
theorem w64 (n : Int) (h : -9223372036854775808 ≤ n) (h' : n ≤ 9223372036854775807) : wrap64 n = n := by unfold wrap64; omega
theorem wraps_i64 (n : Int) (h₀ : 0 ≤ n) (h₁ : n < 2 ^ 63) : IntKind.i64.wrap n = n := by rw [IntKind.wrap_i64]; omega
/-- Six more bits. -/
theorem or64 (r y : Nat) (hr : r < 2097152) (hy : y < 64) : Go.bits .or .i64 (wrap64 ((r : Int) * 64)) (y : Int) = ((r * 64 + y : Nat) : Int) := by
  rw [w64 _ (by omega) (by omega), bits_join .i64 63 (by decide) wraps_i64 6 _ _ (by omega) (by omega) (by omega) (by omega) (by omega) (by omega)]
  omega
theorem bt_nat (s : ByteArray) (i : Nat) : bt s (i : Int) = ((s.data.toList.getD i 0).toNat : Int) := by
  unfold bt
  split
  · rename_i h
    simp only [Int.toNat_natCast] at h ⊢
    rw [List.getD_eq_getElem?_getD, List.getElem?_eq_getElem (by simpa using h)]
    rfl
  · rename_i h
    simp only [Int.toNat_natCast] at h
    rw [List.getD_eq_getElem?_getD, List.getElem?_eq_none (by simpa using h)]
    rfl
theorem bt_drop (s : ByteArray) (p i : Nat) : bt s (((p + i : Nat) : Int)) = (((s.data.toList.drop p).getD i 0).toNat : Int) := by
  rw [bt_nat]
  simp only [List.getD_eq_getElem?_getD, List.getElem?_drop]

theorem head_eq (k : Nat) (b : UInt8) : PLen.utf_head.f (k + 2) (b.toNat : Int) = some (if b.toNat < 128 then ((1 : Int), (b.toNat : Int)) else if b.toNat < 192 then (0, 0) else if b.toNat < 224 then (2, ((b.toNat % 32 : Nat) : Int)) else if b.toNat < 240 then (3, ((b.toNat % 16 : Nat) : Int)) else if b.toNat < 248 then (4, ((b.toNat % 8 : Nat) : Int)) else (0, 0)) := by
  have hb := b.toNat_lt
  unfold PLen.utf_head.f
  by_cases h1 : b.toNat < 128
  · rw [if_pos (by omega), if_pos h1, w64 _ (by omega) (by omega)]
  rw [if_neg (by omega), if_neg h1]
  by_cases h2 : b.toNat < 192
  · rw [if_neg (by omega), if_pos h2]
    simp only [PLen.utf_head.j0, Bool.false_eq_true, if_false]
    rw [if_neg (by omega)]
    simp only [PLen.utf_head.j1, Bool.false_eq_true, if_false]
    rw [if_neg (by omega)]
  rw [if_pos (by omega), if_neg h2]
  by_cases h3 : b.toNat < 224
  · rw [if_pos h3]
    simp only [PLen.utf_head.j0]
    rw [if_pos (by simp; omega), u8_31, w64 _ (by omega) (by omega)]
  rw [if_neg h3]
  simp only [PLen.utf_head.j0]
  rw [if_neg (by simp; omega), if_pos (by omega)]
  simp only [PLen.utf_head.j1]
  by_cases h4 : b.toNat < 240
  · rw [if_pos h4, if_pos (by simp; omega), u8_15, w64 _ (by omega) (by omega)]
  rw [if_neg h4, if_neg (by simp; omega), if_pos (by omega)]
  by_cases h5 : b.toNat < 248
  · rw [if_pos h5, if_pos (by omega), u8_7, w64 _ (by omega) (by omega)]
  rw [if_neg h5, if_neg (by omega)]

def sclB (r : Nat) : Bool := decide (r ≤ 1114111 ∧ (r < 55296 ∨ 57343 < r))
def wid (r : Nat) : Nat := if r < 128 then 1 else if r < 2048 then 2 else if r < 65536 then 3 else 4
theorem scalar_eq (r : Nat) : PLen.utf_scalar.f (r : Int) = some (sclB r) := by
  unfold PLen.utf_scalar.f sclB
  rw [if_pos (by omega)]
  by_cases h1 : r ≤ 1114111
  · rw [if_pos (by omega)]
    by_cases h2 : r < 55296
    · rw [if_pos (by omega)]; simp [h1, h2]
    · rw [if_neg (by omega)]; simp only [Option.some.injEq]; rw [Bool.eq_iff_iff]; simp only [decide_eq_true_eq]; omega
  · rw [if_neg (by omega)]; simp [h1]
theorem width_eq (r : Nat) : PLen.utf_width.f (r : Int) = some ((wid r : Nat) : Int) := by
  unfold PLen.utf_width.f wid
  repeat' split
  all_goals first | rfl | (exfalso; omega)

/-- The end of the loop. -/
theorem l0_end (k : Nat) (s : ByteArray) (p : Int) (r n i : Nat) (h : n ≤ i) : PLen.utf_Decode.l0 (k + 1) s p r n i = some (if sclB r = true ∧ wid r = n then ((r : Int), (n : Int)) else (0, 0)) := by
  simp only [PLen.utf_Decode.l0]
  rw [if_neg (by omega), scalar_eq]
  simp only [Option.bind_some, width_eq]
  by_cases h1 : sclB r = true
  · rw [if_pos h1]
    by_cases h2 : wid r = n
    · rw [if_pos (by omega), if_pos ⟨h1, h2⟩]
    · rw [if_neg (by omega), if_neg (fun h => h2 h.2)]
  · rw [if_neg h1, if_neg (fun h => h1 h.1)]
/-- A round. -/
theorem l0_go (k : Nat) (s : ByteArray) (p r n i : Nat) (b : UInt8) (hb : (s.data.toList.drop p).getD i 0 = b) (h : i < n) (hn : n ≤ 4) (hp : p + i < s.size) (hs : s.size ≤ 1099511627776) (hr : r < 2097152) :
    PLen.utf_Decode.l0 (k + 1) s p r n i = if b.toNat / 64 = 2 then PLen.utf_Decode.l0 k s p ((r * 64 + b.toNat % 64 : Nat) : Int) n ((i + 1 : Nat) : Int) else some (0, 0) := by
  have h1 : wrap64 ((p : Int) + (i : Int)) = ((p + i : Nat) : Int) := by rw [w64 _ (by omega) (by omega)]; omega
  have h2 : bt s ((p + i : Nat) : Int) = (b.toNat : Int) := by rw [bt_drop, hb]
  have h3 : wrap64 ((i : Int) + 1) = ((i + 1 : Nat) : Int) := by rw [w64 _ (by omega) (by omega)]; omega
  simp only [PLen.utf_Decode.l0, h1, h2, h3, u8_192, u8_63]
  rw [if_pos (by omega), if_pos (by omega), if_pos (by omega), w64 (((b.toNat % 64 : Nat) : Int)) (by omega) (by omega), or64 r (b.toNat % 64) hr (by omega)]
  by_cases hc : b.toNat / 64 = 2
  · rw [if_pos (by omega), if_pos hc]
  · rw [if_neg (by omega), if_neg hc]

theorem dec_out (k : Nat) (s : ByteArray) (p : Nat) (hp : s.size ≤ p) : PLen.utf_Decode.f (k + 1) s p = some (0, 0) := by
  unfold PLen.utf_Decode.f
  rw [if_neg (by omega), decide_eq_true (by omega : (p : Int) ≥ (s.size : Int))]
  simp only [PLen.utf_Decode.j0, if_true]

theorem dec_in (k : Nat) (s : ByteArray) (p : Nat) (a : UInt8) (t : List UInt8) (hl : s.data.toList.drop p = a :: t) (n : Nat) (r : Nat) (hs : s.size ≤ 1099511627776)
    (hh : PLen.utf_head.f (k + 1) (a.toNat : Int) = some ((n : Int), (r : Int))) :
    PLen.utf_Decode.f (k + 2) s p = if n = 0 ∨ t.length + 1 < n then some (0, 0) else PLen.utf_Decode.l0 k s p r n ((1 : Nat) : Int) := by
  have hlen : s.size - p = t.length + 1 := by have := congrArg List.length hl; simpa using this
  have hb : bt s (p : Int) = (a.toNat : Int) := by have := bt_drop s p 0; rw [hl] at this; simpa using this
  unfold PLen.utf_Decode.f
  rw [if_neg (by omega), decide_eq_false (by omega : ¬ (p : Int) ≥ (s.size : Int))]
  simp only [PLen.utf_Decode.j0, Bool.false_eq_true, if_false]
  rw [if_pos (by omega), if_pos (by omega), hb, hh, w64 _ (by omega) (by omega)]
  simp only [Option.bind_some]
  by_cases h0 : n = 0
  · rw [if_pos (by omega), if_pos (.inl h0)]
    simp only [PLen.utf_Decode.j1, if_true]
  rw [if_neg (by omega)]
  simp only [PLen.utf_Decode.j1]
  by_cases h1 : t.length + 1 < n
  · rw [if_pos (decide_eq_true (by omega)), if_pos (.inr h1)]
  · rw [if_neg (by simp; omega), if_neg (by omega)]
    rfl

/-- utf.Decode: the size of the first character. -/
theorem dec_eq (k : Nat) (s : ByteArray) (p : Nat) (hs : s.size ≤ 1099511627776) : ∃ r : Int, PLen.utf_Decode.f (k + 8) s p = some (r, ((dsz (s.data.toList.drop p) : Nat) : Int)) := by
  have hlen : s.size - p = (s.data.toList.drop p).length := by simp
  cases hl : s.data.toList.drop p with
  | nil => rw [hl] at hlen; exact ⟨0, dec_out _ s p (by simp at hlen; omega)⟩
  | cons a t =>
    rw [hl] at hlen
    simp only [List.length_cons] at hlen
    have hh := head_eq (k + 5) a
    have hc := a.toNat_lt
    by_cases h1 : a.toNat < 128
    · rw [if_pos h1] at hh
      refine ⟨(a.toNat : Int), ?_⟩
      rw [dec_in (k + 6) s p a t hl 1 a.toNat hs hh, if_neg (by omega), l0_end _ s p a.toNat 1 1 (by omega), if_pos ⟨by unfold sclB; simp; omega, by unfold wid; rw [if_pos h1]⟩]
      simp [dsz, h1]
    rw [if_neg h1] at hh
    by_cases h2 : a.toNat < 192
    · rw [if_pos h2] at hh
      refine ⟨0, ?_⟩
      rw [dec_in (k + 6) s p a t hl 0 0 hs hh, if_pos (.inl rfl)]
      simp [dsz, h1, h2]
    rw [if_neg h2] at hh
    by_cases h3 : a.toNat < 224
    · rw [if_pos h3] at hh
      rw [dec_in (k + 6) s p a t hl 2 (a.toNat % 32) hs hh]
      cases t with
      | nil => exact ⟨0, by rw [if_pos (.inr (by simp))]; simp [dsz, h1, h2, h3]⟩
      | cons b t =>
        have hb := b.toNat_lt
        simp only [List.length_cons] at hlen ⊢
        rw [if_neg (by omega), l0_go (k + 5) s p (a.toNat % 32) 2 1 b (by rw [hl]; rfl) (by omega) (by omega) (by omega) hs (by omega), l0_end (k + 4) s p _ 2 2 (by omega)]
        simp only [dsz, h1, h2, h3, if_true, if_false]
        have e : a.toNat % 32 * 64 + b.toNat % 64 = if b.toNat / 64 = 2 then (a.toNat - 192) * 64 + (b.toNat - 128) else a.toNat % 32 * 64 + b.toNat % 64 := by split <;> omega
        by_cases c1 : b.toNat / 64 = 2
        · rw [if_pos c1] at e ⊢
          rw [e]
          by_cases c2 : 128 ≤ (a.toNat - 192) * 64 + (b.toNat - 128)
          · rw [if_pos ⟨by unfold sclB; simp; omega, by unfold wid; rw [if_neg (by omega), if_pos (by omega)]⟩, if_pos ⟨c1, c2⟩]
            exact ⟨_, rfl⟩
          · rw [if_neg (fun h => by have := h.2; unfold wid at this; rw [if_pos (by omega)] at this; omega), if_neg (fun h => c2 h.2)]
            exact ⟨_, rfl⟩
        · rw [if_neg c1, if_neg (fun h => c1 h.1)]
          exact ⟨_, rfl⟩
    rw [if_neg h3] at hh
    by_cases h4 : a.toNat < 240
    · rw [if_pos h4] at hh
      rw [dec_in (k + 6) s p a t hl 3 (a.toNat % 16) hs hh]
      match t, hl, hlen with
      | [], _, _ => exact ⟨0, by rw [if_pos (.inr (by simp))]; simp [dsz, h1, h2, h3, h4]⟩
      | [b], _, _ => exact ⟨0, by rw [if_pos (.inr (by simp))]; simp [dsz, h1, h2, h3, h4]⟩
      | b :: c :: t, hl, hlen =>
        have hb := b.toNat_lt
        have hc := c.toNat_lt
        simp only [List.length_cons] at hlen ⊢
        rw [if_neg (by omega), l0_go (k + 5) s p (a.toNat % 16) 3 1 b (by rw [hl]; rfl) (by omega) (by omega) (by omega) hs (by omega), l0_go (k + 4) s p _ 3 2 c (by rw [hl]; rfl) (by omega) (by omega) (by omega) hs (by omega), l0_end (k + 3) s p _ 3 3 (by omega)]
        simp only [dsz, h1, h2, h3, h4, if_true, if_false]
        by_cases c1 : b.toNat / 64 = 2
        · by_cases c2 : c.toNat / 64 = 2
          · rw [if_pos c1, if_pos c2]
            have e : (a.toNat % 16 * 64 + b.toNat % 64) * 64 + c.toNat % 64 = (a.toNat - 224) * 4096 + (b.toNat - 128) * 64 + (c.toNat - 128) := by omega
            rw [e]
            by_cases c3 : 2048 ≤ (a.toNat - 224) * 4096 + (b.toNat - 128) * 64 + (c.toNat - 128) ∧ ((a.toNat - 224) * 4096 + (b.toNat - 128) * 64 + (c.toNat - 128) < 55296 ∨ 57343 < (a.toNat - 224) * 4096 + (b.toNat - 128) * 64 + (c.toNat - 128))
            · rw [if_pos ⟨by unfold sclB; simp; omega, by unfold wid; rw [if_neg (by omega), if_neg (by omega), if_pos (by omega)]⟩, if_pos ⟨c1, c2, c3⟩]
              exact ⟨_, rfl⟩
            · rw [if_neg (fun h => by
                have h4 := h.2
                have h3 := h.1
                unfold sclB at h3
                unfold wid at h4
                simp only [decide_eq_true_eq] at h3
                split at h4
                · omega
                · split at h4
                  · omega
                  · split at h4 <;> omega), if_neg (fun h => c3 h.2.2)]
              exact ⟨_, rfl⟩
          · rw [if_pos c1, if_neg c2, if_neg (fun h => c2 h.2.1)]
            exact ⟨_, rfl⟩
        · rw [if_neg c1, if_neg (fun h => c1 h.1)]
          exact ⟨_, rfl⟩
    rw [if_neg h4] at hh
    by_cases h5 : a.toNat < 248
    · rw [if_pos h5] at hh
      rw [dec_in (k + 6) s p a t hl 4 (a.toNat % 8) hs hh]
      match t, hl, hlen with
      | [], _, _ => exact ⟨0, by rw [if_pos (.inr (by simp))]; simp [dsz, h1, h2, h3, h4, h5]⟩
      | [b], _, _ => exact ⟨0, by rw [if_pos (.inr (by simp))]; simp [dsz, h1, h2, h3, h4, h5]⟩
      | [b, c], _, _ => exact ⟨0, by rw [if_pos (.inr (by simp))]; simp [dsz, h1, h2, h3, h4, h5]⟩
      | b :: c :: d :: t, hl, hlen =>
        have hb := b.toNat_lt
        have hc := c.toNat_lt
        have hd := d.toNat_lt
        simp only [List.length_cons] at hlen ⊢
        rw [if_neg (by omega), l0_go (k + 5) s p (a.toNat % 8) 4 1 b (by rw [hl]; rfl) (by omega) (by omega) (by omega) hs (by omega), l0_go (k + 4) s p _ 4 2 c (by rw [hl]; rfl) (by omega) (by omega) (by omega) hs (by omega), l0_go (k + 3) s p _ 4 3 d (by rw [hl]; rfl) (by omega) (by omega) (by omega) hs (by omega), l0_end (k + 2) s p _ 4 4 (by omega)]
        simp only [dsz, h1, h2, h3, h4, h5, if_true, if_false]
        by_cases c1 : b.toNat / 64 = 2
        · by_cases c2 : c.toNat / 64 = 2
          · by_cases c3 : d.toNat / 64 = 2
            · rw [if_pos c1, if_pos c2, if_pos c3]
              have e : ((a.toNat % 8 * 64 + b.toNat % 64) * 64 + c.toNat % 64) * 64 + d.toNat % 64 = (a.toNat - 240) * 262144 + (b.toNat - 128) * 4096 + (c.toNat - 128) * 64 + (d.toNat - 128) := by omega
              rw [e]
              by_cases c4 : 65536 ≤ (a.toNat - 240) * 262144 + (b.toNat - 128) * 4096 + (c.toNat - 128) * 64 + (d.toNat - 128) ∧ (a.toNat - 240) * 262144 + (b.toNat - 128) * 4096 + (c.toNat - 128) * 64 + (d.toNat - 128) ≤ 1114111
              · rw [if_pos ⟨by unfold sclB; simp; omega, by unfold wid; rw [if_neg (by omega), if_neg (by omega), if_neg (by omega)]⟩, if_pos ⟨c1, c2, c3, c4⟩]
                exact ⟨_, rfl⟩
              · rw [if_neg (fun h => by
                  have h4 := h.2
                  have h3 := h.1
                  unfold sclB at h3
                  unfold wid at h4
                  simp only [decide_eq_true_eq] at h3
                  split at h4
                  · omega
                  · split at h4
                    · omega
                    · split at h4 <;> omega), if_neg (fun h => c4 h.2.2.2)]
                exact ⟨_, rfl⟩
            · rw [if_pos c1, if_pos c2, if_neg c3, if_neg (fun h => c3 h.2.2.1)]
              exact ⟨_, rfl⟩
          · rw [if_pos c1, if_neg c2, if_neg (fun h => c2 h.2.1)]
            exact ⟨_, rfl⟩
        · rw [if_neg c1, if_neg (fun h => c1 h.1)]
          exact ⟨_, rfl⟩
    rw [if_neg h5] at hh
    refine ⟨0, ?_⟩
    rw [dec_in (k + 6) s p a t hl 0 0 hs hh, if_pos (.inl rfl)]
    simp [dsz, h1, h2, h3, h4, h5]

theorem len_step (k : Nat) (s : ByteArray) (n p : Int) : PLen.utf_Len.l0 (k + 1) s n p = if p < (s.size : Int) then ((PLen.utf_Decode.f k s p).bind fun b => (if b.2 = 0 then (some (0, 5)) else (PLen.utf_Len.l0 k s (wrap64 (n + 1)) (wrap64 (p + b.2))))) else (some (n, 0)) := by
  simp only [PLen.utf_Len.l0]
/-- The loop of utf.Len. -/
theorem len_loop (s : ByteArray) (hs : s.size ≤ 1099511627776) : ∀ (m p n : Nat), s.size - p ≤ m → p ≤ s.size → n ≤ p → ∃ c : Nat, c ≤ s.size ∧ PLen.utf_Len.l0 (m + 9) s n p = some (if vld (s.data.toList.drop p) then ((c : Int), (0 : Int)) else (0, 5)) := by
  intro m
  induction m with
  | zero =>
    intro p n hm hp hn
    refine ⟨n, by omega, ?_⟩
    rw [len_step, if_neg (by omega), List.drop_eq_nil_of_le (by simp; omega), vld_nil]
    rfl
  | succ m ih =>
    intro p n hm hp hn
    by_cases hlt : p < s.size
    · obtain ⟨r, hr⟩ := dec_eq (m + 1) s p hs
      have hle := dsz_le (s.data.toList.drop p)
      have hle : dsz (s.data.toList.drop p) ≤ s.size - p ∧ dsz (s.data.toList.drop p) ≤ 4 := ⟨by have := hle.1; rw [List.length_drop] at this; exact this, hle.2⟩
      rw [vld_step (s.data.toList.drop p) (by intro h; have := congrArg List.length h; rw [List.length_drop] at this; have h2 : s.size - p = 0 := this; omega)]
      rw [len_step, if_pos (by omega), hr]
      simp only [Option.bind_some]
      by_cases h0 : dsz (s.data.toList.drop p) = 0
      · refine ⟨0, by omega, ?_⟩
        rw [if_pos (by omega), h0]
        rfl
      · rw [if_neg (by omega), w64 _ (by omega) (by omega), w64 _ (by omega) (by omega)]
        obtain ⟨c, hc, he⟩ := ih (p + dsz (s.data.toList.drop p)) (n + 1) (by omega) (by omega) (by omega)
        refine ⟨c, hc, ?_⟩
        have e1 : ((n : Int) + 1) = ((n + 1 : Nat) : Int) := by omega
        have e2 : ((p : Int) + ((dsz (s.data.toList.drop p) : Nat) : Int)) = ((p + dsz (s.data.toList.drop p) : Nat) : Int) := by omega
        rw [e1, e2, he, List.drop_drop]
        simp [h0]
    · refine ⟨n, by omega, ?_⟩
      rw [len_step, if_neg (by omega), List.drop_eq_nil_of_le (by simp; omega), vld_nil]
      rfl
theorem len_eq (s : ByteArray) (hs : s.size ≤ 1099511627776) : ∃ c : Nat, c ≤ s.size ∧ PLen.utf_Len.f (s.size + 9) s = some (if vld s.data.toList then ((c : Int), (0 : Int)) else (0, 5)) := by
  obtain ⟨c, hc, h⟩ := len_loop s hs s.size 0 0 (by omega) (by omega) (by omega)
  exact ⟨c, hc, by rw [List.drop_zero] at h; exact h⟩
end Go.Proofs.YtaeclmligojlaaaGreatDoor.D

/- The reference's Boundaries (of UTF-8), as print.sh writes it, against UTF-8 in plain terms. Conditions: strings of at most 2^40 bytes. -/
namespace Go.Proofs.YtaeclmligojlaaaGreatDoor.D
open Go.Proofs.YtaeclmligojlaaaGreatDoorW.PrintWords Go.RowKit

theorem extract_list (s : ByteArray) (p n : Nat) (_h : p + n ≤ s.size) : (s.extract p (p + n)).toList = (s.data.toList.drop p).take n := by
  rw [ByteArray.toList_eq, ByteArray.data_extract, Array.toList_extract]
  simp [List.extract]
theorem strOf1 (a : Nat) : (strOfNums [(a : Int)]).toList = [UInt8.ofNat a] := by simp [strOfNums]
theorem strOf2 (a b : Nat) : (strOfNums [(a : Int), (b : Int)]).toList = [UInt8.ofNat a, UInt8.ofNat b] := by simp [strOfNums]
theorem strOf3 (a b c : Nat) : (strOfNums [(a : Int), (b : Int), (c : Int)]).toList = [UInt8.ofNat a, UInt8.ofNat b, UInt8.ofNat c] := by simp [strOfNums]
theorem strOf4 (a b c d : Nat) : (strOfNums [(a : Int), (b : Int), (c : Int), (d : Int)]).toList = [UInt8.ofNat a, UInt8.ofNat b, UInt8.ofNat c, UInt8.ofNat d] := by simp [strOfNums]
theorem ofNat_eq (n : Nat) (hn : n < 256) (b : UInt8) : UInt8.ofNat n = b ↔ n = b.toNat := by
  constructor
  · rintro rfl; simp; omega
  · rintro rfl; simp

/-- What Encode makes of a number, as bytes. -/
def enc (r : Nat) : List UInt8 :=
  if r < 128 then [UInt8.ofNat r]
  else if r < 2048 then [UInt8.ofNat (192 + r / 64), UInt8.ofNat (128 + r % 64)]
  else if r < 65536 then [UInt8.ofNat (224 + r / 4096), UInt8.ofNat (128 + r / 64 % 64), UInt8.ofNat (128 + r % 64)]
  else [UInt8.ofNat (240 + r / 262144), UInt8.ofNat (128 + r / 4096 % 64), UInt8.ofNat (128 + r / 64 % 64), UInt8.ofNat (128 + r % 64)]
theorem and63 (r : Nat) (h : r < 2097152) : Go.bits .and .i64 (r : Int) 63 = ((r % 64 : Nat) : Int) := by
  have := bits_mask .i64 63 (by decide) wraps_i64 6 (by decide) (r : Int) (by omega) (by omega)
  simpa using this
theorem orN (i x y : Nat) (hx : x % 2 ^ i = 0) (hy : y < 2 ^ i) (h1 : x < 4096) (h2 : y < 4096) : Go.bits .or .i64 (x : Int) (y : Int) = ((x + y : Nat) : Int) := by
  rw [bits_join .i64 63 (by decide) wraps_i64 i _ _ (by omega) (by exact_mod_cast hx) (by omega) (by omega) (by exact_mod_cast hy) (by omega)]
  omega
theorem character_eq (r : Nat) : PBuiltinJoins.datakitref03_character.f (r : Int) = some (sclB r) := by
  unfold PBuiltinJoins.datakitref03_character.f sclB
  rw [if_pos (by omega)]
  by_cases h1 : r ≤ 1114111
  · rw [if_pos (by omega)]
    by_cases h2 : r < 55296
    · rw [if_pos (by omega)]; simp [h1, h2]
    · rw [if_neg (by omega)]; simp only [Option.some.injEq]; rw [Bool.eq_iff_iff]; simp only [decide_eq_true_eq]; omega
  · rw [if_neg (by omega)]; simp [h1]
theorem encode_no (r : Nat) (h : sclB r = false) : ∃ x, PBuiltinJoins.datakitref03_Encode.f (r : Int) = some (x, 2) := by
  unfold PBuiltinJoins.datakitref03_Encode.f
  rw [character_eq, h]
  simp
theorem encode_yes (r : Nat) (h : sclB r = true) : ∃ x, PBuiltinJoins.datakitref03_Encode.f (r : Int) = some (x, 0) ∧ x.toList = enc r := by
  unfold PBuiltinJoins.datakitref03_Encode.f
  rw [character_eq, h]
  simp only [Option.bind_some, if_true]
  have hr : r ≤ 1114111 := by unfold sclB at h; simp only [decide_eq_true_eq] at h; exact h.1
  unfold enc
  by_cases h1 : r < 128
  · rw [if_pos (by omega), if_pos h1]
    have e : (r : Int) % 256 = (r : Int) := by omega
    exact ⟨_, rfl, by rw [e, strOf1]⟩
  rw [if_neg (by omega), if_neg h1]
  have q1 : ((r : Int) / 64) = ((r / 64 : Nat) : Int) := by omega
  have q2 : ((r : Int) / 4096) = ((r / 4096 : Nat) : Int) := by omega
  have q3 : ((r : Int) / 262144) = ((r / 262144 : Nat) : Int) := by omega
  by_cases h2 : r < 2048
  · rw [if_pos (by omega), if_pos h2]
    refine ⟨_, rfl, ?_⟩
    rw [q1, and63 r (by omega)]
    have e1 : Go.bits .or .i64 192 (((r / 64) : Nat) : Int) = ((192 + r / 64 : Nat) : Int) := orN 5 192 (r / 64) (by decide) (by omega) (by omega) (by omega)
    have e2 : Go.bits .or .i64 128 (((r % 64) : Nat) : Int) = ((128 + r % 64 : Nat) : Int) := orN 6 128 (r % 64) (by decide) (by omega) (by omega) (by omega)
    rw [e1, e2]
    have f1 : ((192 + r / 64 : Nat) : Int) % 256 = ((192 + r / 64 : Nat) : Int) := by omega
    have f2 : ((128 + r % 64 : Nat) : Int) % 256 = ((128 + r % 64 : Nat) : Int) := by omega
    rw [f1, f2, strOf2]
  rw [if_neg (by omega), if_neg h2]
  by_cases h3 : r < 65536
  · rw [if_pos (by omega), if_pos h3]
    refine ⟨_, rfl, ?_⟩
    rw [q1, q2, and63 r (by omega), and63 (r / 64) (by omega)]
    have e1 : Go.bits .or .i64 224 (((r / 4096) : Nat) : Int) = ((224 + r / 4096 : Nat) : Int) := orN 4 224 (r / 4096) (by decide) (by omega) (by omega) (by omega)
    have e2 : Go.bits .or .i64 128 (((r / 64 % 64) : Nat) : Int) = ((128 + r / 64 % 64 : Nat) : Int) := orN 6 128 (r / 64 % 64) (by decide) (by omega) (by omega) (by omega)
    have e3 : Go.bits .or .i64 128 (((r % 64) : Nat) : Int) = ((128 + r % 64 : Nat) : Int) := orN 6 128 (r % 64) (by decide) (by omega) (by omega) (by omega)
    rw [e1, e2, e3]
    have f1 : ((224 + r / 4096 : Nat) : Int) % 256 = ((224 + r / 4096 : Nat) : Int) := by omega
    have f2 : ((128 + r / 64 % 64 : Nat) : Int) % 256 = ((128 + r / 64 % 64 : Nat) : Int) := by omega
    have f3 : ((128 + r % 64 : Nat) : Int) % 256 = ((128 + r % 64 : Nat) : Int) := by omega
    rw [f1, f2, f3, strOf3]
  · rw [if_neg (by omega), if_neg h3]
    refine ⟨_, rfl, ?_⟩
    rw [q1, q2, q3, and63 r (by omega), and63 (r / 64) (by omega), and63 (r / 4096) (by omega)]
    have e1 : Go.bits .or .i64 240 (((r / 262144) : Nat) : Int) = ((240 + r / 262144 : Nat) : Int) := orN 4 240 (r / 262144) (by decide) (by omega) (by omega) (by omega)
    have e2 : Go.bits .or .i64 128 (((r / 4096 % 64) : Nat) : Int) = ((128 + r / 4096 % 64 : Nat) : Int) := orN 6 128 (r / 4096 % 64) (by decide) (by omega) (by omega) (by omega)
    have e3 : Go.bits .or .i64 128 (((r / 64 % 64) : Nat) : Int) = ((128 + r / 64 % 64 : Nat) : Int) := orN 6 128 (r / 64 % 64) (by decide) (by omega) (by omega) (by omega)
    have e4 : Go.bits .or .i64 128 (((r % 64) : Nat) : Int) = ((128 + r % 64 : Nat) : Int) := orN 6 128 (r % 64) (by decide) (by omega) (by omega) (by omega)
    rw [e1, e2, e3, e4]
    have f1 : ((240 + r / 262144 : Nat) : Int) % 256 = ((240 + r / 262144 : Nat) : Int) := by omega
    have f2 : ((128 + r / 4096 % 64 : Nat) : Int) % 256 = ((128 + r / 4096 % 64 : Nat) : Int) := by omega
    have f3 : ((128 + r / 64 % 64 : Nat) : Int) % 256 = ((128 + r / 64 % 64 : Nat) : Int) := by omega
    have f4 : ((128 + r % 64 : Nat) : Int) % 256 = ((128 + r % 64 : Nat) : Int) := by omega
    rw [f1, f2, f3, f4, strOf4]

theorem r0_end (k : Nat) (s : ByteArray) (p r n i : Nat) (h : n ≤ i) (hp : p + n ≤ s.size) (hs : s.size ≤ 1099511627776) :
    PBuiltinJoins.datakitref03_Decode.l0 (k + 1) s p n r i = some (if sclB r = true ∧ enc r = (s.data.toList.drop p).take n then ((r : Int), (n : Int)) else (0, 0)) := by
  have hw : wrap64 ((p : Int) + (n : Int)) = ((p + n : Nat) : Int) := by rw [w64 _ (by omega) (by omega)]; omega
  simp only [PBuiltinJoins.datakitref03_Decode.l0]
  rw [if_neg (by omega)]
  cases hc : sclB r with
  | false =>
    obtain ⟨x, hx⟩ := encode_no r hc
    rw [hx]
    simp
  | true =>
    obtain ⟨x, hx, hl⟩ := encode_yes r hc
    rw [hx]
    simp only [Option.bind_some, if_true, hw]
    rw [if_pos (by omega), if_pos (by omega), if_pos (by omega), hl]
    simp only [Int.toNat_natCast]
    have hx2 := extract_list s p n hp
    by_cases he : enc r = (s.data.toList.drop p).take n
    · rw [if_pos (he.trans hx2.symm), if_pos ⟨trivial, he⟩]
    · rw [if_neg (fun h => he (h.trans hx2)), if_neg (fun h => he h.2)]
theorem r0_go (k : Nat) (s : ByteArray) (p r n i : Nat) (b : UInt8) (hb : (s.data.toList.drop p).getD i 0 = b) (h : i < n) (hn : n ≤ 4) (hp : p + i < s.size) (hs : s.size ≤ 1099511627776) (hr : r < 2097152) :
    PBuiltinJoins.datakitref03_Decode.l0 (k + 1) s p n r i = PBuiltinJoins.datakitref03_Decode.l0 k s p n ((r * 64 + b.toNat % 64 : Nat) : Int) ((i + 1 : Nat) : Int) := by
  have h1 : wrap64 ((p : Int) + (i : Int)) = ((p + i : Nat) : Int) := by rw [w64 _ (by omega) (by omega)]; omega
  have h2 : bt s ((p + i : Nat) : Int) = (b.toNat : Int) := by rw [bt_drop, hb]
  have h3 : wrap64 ((i : Int) + 1) = ((i + 1 : Nat) : Int) := by rw [w64 _ (by omega) (by omega)]; omega
  have hb' := b.toNat_lt
  simp only [PBuiltinJoins.datakitref03_Decode.l0, h1, h2, h3]
  rw [if_pos (by omega), if_pos (by omega), if_pos (by omega), w64 (b.toNat : Int) (by omega) (by omega), i64_63, or64 r (b.toNat % 64) hr (by omega)]

theorem rdec_out (k : Nat) (s : ByteArray) (p : Nat) (hp : s.size ≤ p) : PBuiltinJoins.datakitref03_Decode.f (k + 1) s p = some (0, 0) := by
  unfold PBuiltinJoins.datakitref03_Decode.f
  rw [if_neg (by omega), decide_eq_true (by omega : (p : Int) ≥ (s.size : Int))]
  simp only [PBuiltinJoins.datakitref03_Decode.j0, if_true]
def rsz (a : UInt8) : Nat := if 240 ≤ a.toNat then 4 else if 224 ≤ a.toNat then 3 else if 192 ≤ a.toNat then 2 else 1
def rbits (a : UInt8) : Nat := if 240 ≤ a.toNat then a.toNat % 8 else if 224 ≤ a.toNat then a.toNat % 16 else if 192 ≤ a.toNat then a.toNat % 32 else a.toNat
theorem rj1 (k : Nat) (s : ByteArray) (p n r : Nat) (hp : p ≤ s.size) (hs : s.size ≤ 1099511627776) : PBuiltinJoins.datakitref03_Decode.j1 (k + 1) s p n r = if s.size - p < n then some (0, 0) else PBuiltinJoins.datakitref03_Decode.l0 k s p n r ((1 : Nat) : Int) := by
  simp only [PBuiltinJoins.datakitref03_Decode.j1]
  rw [w64 _ (by omega) (by omega)]
  by_cases h : s.size - p < n
  · rw [if_pos (by omega), if_pos h]
  · rw [if_neg (by omega), if_neg h]; rfl
theorem rdec_in (k : Nat) (s : ByteArray) (p : Nat) (a : UInt8) (t : List UInt8) (hl : s.data.toList.drop p = a :: t) (hs : s.size ≤ 1099511627776) :
    PBuiltinJoins.datakitref03_Decode.f (k + 2) s p = if t.length + 1 < rsz a then some (0, 0) else PBuiltinJoins.datakitref03_Decode.l0 k s p (rsz a) (rbits a) ((1 : Nat) : Int) := by
  have hlen : s.size - p = t.length + 1 := by have := congrArg List.length hl; simpa using this
  have hb : bt s (p : Int) = (a.toNat : Int) := by have := bt_drop s p 0; rw [hl] at this; simpa using this
  have ha := a.toNat_lt
  unfold PBuiltinJoins.datakitref03_Decode.f
  rw [if_neg (by omega), decide_eq_false (by omega : ¬ (p : Int) ≥ (s.size : Int))]
  simp only [PBuiltinJoins.datakitref03_Decode.j0, Bool.false_eq_true, if_false]
  rw [if_pos (by omega), if_pos (by omega), hb, w64 (a.toNat : Int) (by omega) (by omega), i64_7, i64_15, i64_31]
  unfold rsz rbits
  rw [← hlen]
  by_cases h1 : 240 ≤ a.toNat
  · rw [if_pos (by omega), if_pos h1, if_pos h1]
    exact rj1 k s p 4 _ (by omega) hs
  rw [if_neg (by omega), if_neg h1, if_neg h1]
  by_cases h2 : 224 ≤ a.toNat
  · rw [if_pos (by omega), if_pos h2, if_pos h2]
    exact rj1 k s p 3 _ (by omega) hs
  rw [if_neg (by omega), if_neg h2, if_neg h2]
  by_cases h3 : 192 ≤ a.toNat
  · rw [if_pos (by omega), if_pos h3, if_pos h3]
    exact rj1 k s p 2 _ (by omega) hs
  rw [if_neg (by omega), if_neg h3, if_neg h3]
  exact rj1 k s p 1 _ (by omega) hs

/-- Encode gives the bytes back just where they are a character. -/
theorem enc1 (a : UInt8) (r : Nat) (hr : r = rbits a) (hn : rsz a = 1) (t : List UInt8) : (sclB r = true ∧ enc r = [a]) ↔ dsz (a :: t) = 1 := by
  subst hr
  unfold rsz at hn
  have ha := a.toNat_lt
  have h1 : a.toNat < 192 := by (repeat' split at hn) <;> omega
  unfold rbits
  rw [if_neg (by omega), if_neg (by omega), if_neg (by omega)]
  by_cases h2 : a.toNat < 128
  · simp [dsz, h2, enc, sclB]; omega
  · simp [dsz, h1, h2, enc]
    intro _
    rw [if_pos (by omega)]
    simp
theorem enc2 (a b : UInt8) (r : Nat) (hr : r = rbits a * 64 + b.toNat % 64) (hn : rsz a = 2) (t : List UInt8) : (sclB r = true ∧ enc r = [a, b]) ↔ dsz (a :: b :: t) = 2 := by
  unfold rsz at hn
  have ha := a.toNat_lt
  have hb := b.toNat_lt
  have h1 : 192 ≤ a.toNat ∧ a.toNat < 224 := by (repeat' split at hn) <;> omega
  unfold rbits at hr
  rw [if_neg (by omega), if_neg (by omega), if_pos (by omega)] at hr
  simp only [dsz]
  rw [if_neg (by omega), if_neg (by omega), if_pos (by omega)]
  have hlt : r < 2048 := by omega
  unfold enc
  by_cases h2 : r < 128
  · rw [if_pos h2]
    constructor
    · intro h; simp at h
    · intro h; exfalso; split at h <;> omega
  · rw [if_neg h2, if_pos hlt]
    simp only [List.cons.injEq, and_true]
    rw [ofNat_eq _ (by omega), ofNat_eq _ (by omega)]
    unfold sclB
    simp only [decide_eq_true_eq]
    constructor
    · intro h; rw [if_pos (by omega)]
    · intro h; split at h <;> omega
theorem enc3 (a b c : UInt8) (r : Nat) (hr : r = (rbits a * 64 + b.toNat % 64) * 64 + c.toNat % 64) (hn : rsz a = 3) (t : List UInt8) : (sclB r = true ∧ enc r = [a, b, c]) ↔ dsz (a :: b :: c :: t) = 3 := by
  unfold rsz at hn
  have ha := a.toNat_lt
  have hb := b.toNat_lt
  have hc := c.toNat_lt
  have h1 : 224 ≤ a.toNat ∧ a.toNat < 240 := by (repeat' split at hn) <;> omega
  unfold rbits at hr
  rw [if_neg (by omega), if_pos (by omega)] at hr
  simp only [dsz]
  rw [if_neg (by omega), if_neg (by omega), if_neg (by omega), if_pos (by omega)]
  have hlt : r < 65536 := by omega
  unfold enc
  by_cases h2 : r < 128
  · rw [if_pos h2]
    constructor
    · intro h; simp at h
    · intro h; exfalso; split at h <;> omega
  rw [if_neg h2]
  by_cases h3 : r < 2048
  · rw [if_pos h3]
    constructor
    · intro h; simp at h
    · intro h; exfalso; split at h <;> omega
  rw [if_neg h3, if_pos hlt]
  simp only [List.cons.injEq, and_true]
  rw [ofNat_eq _ (by omega), ofNat_eq _ (by omega), ofNat_eq _ (by omega)]
  unfold sclB
  simp only [decide_eq_true_eq]
  constructor
  · intro h; rw [if_pos (by omega)]
  · intro h; split at h <;> omega
theorem enc4 (a b c d : UInt8) (r : Nat) (hr : r = ((rbits a * 64 + b.toNat % 64) * 64 + c.toNat % 64) * 64 + d.toNat % 64) (hn : rsz a = 4) (t : List UInt8) : (sclB r = true ∧ enc r = [a, b, c, d]) ↔ dsz (a :: b :: c :: d :: t) = 4 := by
  unfold rsz at hn
  have ha := a.toNat_lt
  have hb := b.toNat_lt
  have hc := c.toNat_lt
  have hd := d.toNat_lt
  have h1 : 240 ≤ a.toNat := by (repeat' split at hn) <;> omega
  unfold rbits at hr
  rw [if_pos (by omega)] at hr
  simp only [dsz]
  rw [if_neg (by omega), if_neg (by omega), if_neg (by omega), if_neg (by omega)]
  unfold enc
  by_cases h2 : r < 128
  · rw [if_pos h2]
    constructor
    · intro h; simp at h
    · intro h; exfalso; split at h
      · split at h <;> omega
      · omega
  rw [if_neg h2]
  by_cases h3 : r < 2048
  · rw [if_pos h3]
    constructor
    · intro h; simp at h
    · intro h; exfalso; split at h
      · split at h <;> omega
      · omega
  rw [if_neg h3]
  by_cases h4 : r < 65536
  · rw [if_pos h4]
    constructor
    · intro h; simp at h
    · intro h; exfalso; split at h
      · split at h <;> omega
      · omega
  rw [if_neg h4]
  simp only [List.cons.injEq, and_true]
  rw [ofNat_eq _ (by omega), ofNat_eq _ (by omega), ofNat_eq _ (by omega), ofNat_eq _ (by omega)]
  unfold sclB
  simp only [decide_eq_true_eq]
  constructor
  · intro h; rw [if_pos (by omega), if_pos (by omega)]
  · intro h
    split at h
    · split at h <;> omega
    · omega

theorem dsz_sizes (a : UInt8) (t : List UInt8) : dsz (a :: t) = 0 ∨ dsz (a :: t) = rsz a := by
  unfold dsz rsz
  simp only
  repeat' split
  all_goals first | (left; rfl) | (right; rfl) | (exfalso; omega)

/-- The reference's Decode: the size of the first character. -/
theorem rdec_eq (k : Nat) (s : ByteArray) (p : Nat) (hs : s.size ≤ 1099511627776) : ∃ r : Int, PBuiltinJoins.datakitref03_Decode.f (k + 8) s p = some (r, ((dsz (s.data.toList.drop p) : Nat) : Int)) := by
  have hlen : s.size - p = (s.data.toList.drop p).length := by simp
  cases hl : s.data.toList.drop p with
  | nil => rw [hl] at hlen; exact ⟨0, rdec_out _ s p (by simp at hlen; omega)⟩
  | cons a t =>
    rw [hl] at hlen
    simp only [List.length_cons] at hlen
    have ha := a.toNat_lt
    have hbt : rbits a < 256 := by unfold rbits; (repeat' split) <;> omega
    rw [rdec_in (k + 6) s p a t hl hs]
    have hz := dsz_sizes a t
    have hle := (dsz_le (a :: t)).1
    simp only [List.length_cons] at hle
    by_cases hshort : t.length + 1 < rsz a
    · rw [if_pos hshort]
      refine ⟨0, ?_⟩
      have : dsz (a :: t) = 0 := by omega
      rw [this]; rfl
    rw [if_neg hshort]
    have hr4 : rsz a = 1 ∨ rsz a = 2 ∨ rsz a = 3 ∨ rsz a = 4 := by unfold rsz; (repeat' split) <;> simp
    have fin : ∀ (r n : Nat) (l : List UInt8), l = (a :: t).take n → rsz a = n → 0 < n → ((sclB r = true ∧ enc r = l) ↔ dsz (a :: t) = n) → ∃ x : Int, (some (if sclB r = true ∧ enc r = (s.data.toList.drop p).take n then ((r : Int), (n : Int)) else (0, 0)) : Option (Int × Int)) = some (x, ((dsz (a :: t) : Nat) : Int)) := by
      intro r n l hl' hn h0 hiff
      rw [hl, ← hl']
      by_cases h : sclB r = true ∧ enc r = l
      · rw [if_pos h, hiff.1 h]; exact ⟨_, rfl⟩
      · rw [if_neg h]
        have : dsz (a :: t) = 0 := by
          rcases hz with h0 | h0
          · exact h0
          · exact absurd (hiff.2 (by omega)) h
        rw [this]; exact ⟨_, rfl⟩
    rcases hr4 with hn | hn | hn | hn <;> rw [hn] at hshort ⊢
    · rw [r0_end (k + 5) s p _ 1 1 (by omega) (by omega) hs]
      exact fin (rbits a) 1 [a] rfl hn (by omega) (enc1 a _ rfl hn t)
    · match t, hl, hlen, hshort, fin with
      | [], _, _, h, _ => simp at h
      | b :: t, hl, hlen, _, fin =>
        simp only [List.length_cons] at hlen
        rw [r0_go (k + 5) s p (rbits a) 2 1 b (by rw [hl]; rfl) (by omega) (by omega) (by omega) hs (by omega), r0_end (k + 4) s p _ 2 2 (by omega) (by omega) hs]
        exact fin _ 2 [a, b] rfl hn (by omega) (enc2 a b _ rfl hn t)
    · match t, hl, hlen, hshort, fin with
      | [], _, _, h, _ => simp at h
      | [_], _, _, h, _ => simp at h
      | b :: c :: t, hl, hlen, _, fin =>
        simp only [List.length_cons] at hlen
        have hb := b.toNat_lt
        rw [r0_go (k + 5) s p (rbits a) 3 1 b (by rw [hl]; rfl) (by omega) (by omega) (by omega) hs (by omega), r0_go (k + 4) s p _ 3 2 c (by rw [hl]; rfl) (by omega) (by omega) (by omega) hs (by omega), r0_end (k + 3) s p _ 3 3 (by omega) (by omega) hs]
        exact fin _ 3 [a, b, c] rfl hn (by omega) (enc3 a b c _ rfl hn t)
    · match t, hl, hlen, hshort, fin with
      | [], _, _, h, _ => simp at h
      | [_], _, _, h, _ => simp at h
      | [_, _], _, _, h, _ => simp at h
      | b :: c :: d :: t, hl, hlen, _, fin =>
        simp only [List.length_cons] at hlen
        have hb := b.toNat_lt
        have hc := c.toNat_lt
        have h8 : rbits a < 8 := by unfold rsz at hn; unfold rbits; (repeat' split at hn) <;> (repeat' split) <;> omega
        rw [r0_go (k + 5) s p (rbits a) 4 1 b (by rw [hl]; rfl) (by omega) (by omega) (by omega) hs (by omega), r0_go (k + 4) s p _ 4 2 c (by rw [hl]; rfl) (by omega) (by omega) (by omega) hs (by omega), r0_go (k + 3) s p _ 4 3 d (by rw [hl]; rfl) (by omega) (by omega) (by omega) hs (by omega), r0_end (k + 2) s p _ 4 4 (by omega) (by omega) hs]
        exact fin _ 4 [a, b, c, d] rfl hn (by omega) (enc4 a b c d _ rfl hn t)

theorem bnd_step (k : Nat) (s : ByteArray) (l : List Int) (p : Int) : PBuiltinJoins.datakitref03_Boundaries.l0 (k + 1) s l p = if p < (s.size : Int) then ((PBuiltinJoins.datakitref03_Decode.f k s p).bind fun b => (if b.2 = 0 then (some (l, false)) else (if l.length < 17592186044416 then (PBuiltinJoins.datakitref03_Boundaries.l0 k s (l ++ [wrap64 (p + b.2)]) (wrap64 (p + b.2))) else (none)))) else (some (l, true)) := by
  simp only [PBuiltinJoins.datakitref03_Boundaries.l0]
theorem bnd_loop (s : ByteArray) (hs : s.size ≤ 1099511627776) : ∀ (m p : Nat) (l : List Int), s.size - p ≤ m → p ≤ s.size → l.length ≤ p + 1 → ∃ l', PBuiltinJoins.datakitref03_Boundaries.l0 (m + 9) s l p = some (l', vld (s.data.toList.drop p)) := by
  intro m
  induction m with
  | zero =>
    intro p l hm hp hn
    exact ⟨l, by rw [bnd_step, if_neg (by omega), List.drop_eq_nil_of_le (by simp; omega), vld_nil]⟩
  | succ m ih =>
    intro p l hm hp hn
    by_cases hlt : p < s.size
    · obtain ⟨r, hr⟩ := rdec_eq (m + 1) s p hs
      have hle := dsz_le (s.data.toList.drop p)
      have hle : dsz (s.data.toList.drop p) ≤ s.size - p ∧ dsz (s.data.toList.drop p) ≤ 4 := ⟨by have := hle.1; rw [List.length_drop] at this; exact this, hle.2⟩
      rw [vld_step (s.data.toList.drop p) (by intro h; have := congrArg List.length h; rw [List.length_drop] at this; have h2 : s.size - p = 0 := this; omega)]
      rw [bnd_step, if_pos (by omega), hr]
      simp only [Option.bind_some]
      by_cases h0 : dsz (s.data.toList.drop p) = 0
      · refine ⟨l, ?_⟩
        rw [if_pos (by omega), h0]
        rfl
      · rw [if_neg (by omega), if_pos (by omega), w64 _ (by omega) (by omega)]
        have e2 : ((p : Int) + ((dsz (s.data.toList.drop p) : Nat) : Int)) = ((p + dsz (s.data.toList.drop p) : Nat) : Int) := by omega
        rw [e2]
        obtain ⟨c, he⟩ := ih (p + dsz (s.data.toList.drop p)) (l ++ [((p + dsz (s.data.toList.drop p) : Nat) : Int)]) (by omega) (by omega) (by simp only [List.length_append, List.length_singleton]; omega)
        refine ⟨c, ?_⟩
        rw [he, List.drop_drop]
        simp [h0]
    · exact ⟨l, by rw [bnd_step, if_neg (by omega), List.drop_eq_nil_of_le (by simp; omega), vld_nil]⟩
theorem rvalid_eq (s : ByteArray) (hs : s.size ≤ 1099511627776) : PBuiltinJoins.datakitref03_Valid.f (s.size + 9) s = some (vld s.data.toList) := by
  obtain ⟨l, h⟩ := bnd_loop s hs s.size 0 [0] (by omega) (by omega) (by simp)
  unfold PBuiltinJoins.datakitref03_Valid.f PBuiltinJoins.datakitref03_Boundaries.f
  rw [List.drop_zero] at h
  have h' : PBuiltinJoins.datakitref03_Boundaries.l0 (s.size + 9) s [0] 0 = some (l, vld s.data.toList) := h
  rw [h']
  rfl
end Go.Proofs.YtaeclmligojlaaaGreatDoor.D

/- Contracts of small functions over strings and numbers: utf.Valid, digits.Valid, digits.Zeros, decimal.Valid, moment.Valid (where they answer true), and the reference's. Conditions: strings of at most 2^40 bytes. -/
namespace Go.Proofs.YtaeclmligojlaaaGreatDoor.D
open Go.Proofs.YtaeclmligojlaaaGreatDoorW.PrintWords Go.RowKit

/-- utf.Valid. -/
theorem utf_valid (s : ByteArray) (w : World) (hs : s.size ≤ 1099511627776) : Calls Tryz.prog 190 #[.string s] w fun e w' => e = .returned (.bool (vld s.data.toList)) ∧ Below w.heap.size w w' := by
  obtain ⟨c, _, h⟩ := len_eq s hs
  by_cases hv : vld s.data.toList = true
  · rw [if_pos hv] at h
    have HC := fun w => PLen.utf_Len.calls _ s _ _ w h
    have H := hid HC
    rw [hv]
    clear HC h hv
    go_enter Tryz.func190, Tryz.ntmps190
    go_wp2_with fail
    refine (H.out _).mono ?_
    rintro e w1 ⟨rfl, hb⟩
    have HB := hid hb.below
    clear hb
    go_wp2
    go_ret
    exact ⟨rfl, HB.out⟩
  · rw [if_neg hv] at h
    have HC := fun w => PLen.utf_Len.calls _ s _ _ w h
    have H := hid HC
    rw [Bool.not_eq_true] at hv
    rw [hv]
    clear HC h hv
    go_enter Tryz.func190, Tryz.ntmps190
    go_wp2_with fail
    refine (H.out _).mono ?_
    rintro e w1 ⟨rfl, hb⟩
    have HB := hid hb.below
    clear hb
    go_wp2
    go_ret
    exact ⟨rfl, HB.out⟩

/-- The reference's Valid of strings. -/
theorem ref_valid (s : ByteArray) (w : World) (hs : s.size ≤ 1099511627776) : Calls Tryz.prog 157 #[.string s] w fun e w' => e = .returned (.bool (vld s.data.toList)) ∧ Below w.heap.size w w' :=
  PBuiltinJoins.datakitref03_Valid.calls _ s _ w (rvalid_eq s hs)

/-- A valid decimal. -/
structure DecOk (d : Dec) : Prop where mk ::
  out : (d.digits.size = 0 ∧ d.neg = false ∧ d.exp = 0) ∨ (0 < d.digits.size ∧ d.digits.size ≤ 120 ∧ (∀ b ∈ d.digits.data.toList, 48 ≤ b.toNat ∧ b.toNat ≤ 57) ∧ bt d.digits 0 ≠ 48 ∧ bt d.digits ((d.digits.size : Int) - 1) ≠ 48 ∧ -400 ≤ d.exp ∧ d.exp ≤ 400)

theorem all_loop (s : ByteArray) (hs : s.size ≤ 1099511627776) (h : ∀ b ∈ s.data.toList, 48 ≤ b.toNat ∧ b.toNat ≤ 57) : ∀ (m i : Nat), s.size - i ≤ m → i ≤ s.size → Pall.digits_all.l0 (m + 1) s (s.size : Int) i = some true := by
  intro m
  induction m with
  | zero => intro i hm hi; simp only [Pall.digits_all.l0]; rw [if_neg (by omega)]
  | succ m ih =>
    intro i hm hi
    unfold Pall.digits_all.l0
    by_cases hlt : i < s.size
    · have hb := bt_nat s i
      have hg : s.data.toList.getD i 0 ∈ s.data.toList := by
        rw [List.getD_eq_getElem?_getD, List.getElem?_eq_getElem (by simpa using hlt)]
        exact List.getElem_mem _
      have := h _ hg
      rw [if_pos (by omega), if_pos (by omega), if_pos (by omega), hb, if_neg (by omega), if_neg (by omega), w64 _ (by omega) (by omega)]
      have e : ((i : Int) + 1) = ((i + 1 : Nat) : Int) := by omega
      rw [e]
      exact ih (i + 1) (by omega) (by omega)
    · rw [if_neg (by omega)]
theorem digits_all_true (s : ByteArray) (w : World) (hs : s.size ≤ 1099511627776) (h : ∀ b ∈ s.data.toList, 48 ≤ b.toNat ∧ b.toNat ≤ 57) : Calls Tryz.prog 233 #[.string s] w fun e w' => e = .returned (.bool true) ∧ Below w.heap.size w w' :=
  (Pall.digits_all.calls (s.size + 1) s true w (by have := all_loop s hs h s.size 0 (by omega) (by omega); exact this)).mono fun _ _ ⟨h1, h2⟩ => ⟨h1, h2.below⟩

theorem not_empty (s : ByteArray) (h0 : 0 < s.size) : s.toList.isEmpty = false ∧ (s.toList = []) = False := by
  have h : s.toList ≠ [] := by
    intro h
    rw [ByteArray.toList_eq] at h
    have := congrArg List.length h
    have h2 : s.size = 0 := this
    omega
  exact ⟨by cases h' : s.toList with | nil => exact absurd h' h | cons => rfl, by simp [h]⟩
/-- digits.Valid where it answers true. -/
theorem digits_valid (s : ByteArray) (w : World) (h0 : 0 < s.size) (hs : s.size ≤ 600) (h : ∀ b ∈ s.data.toList, 48 ≤ b.toNat ∧ b.toNat ≤ 57) (h1 : bt s 0 ≠ 48) : Calls Tryz.prog 162 #[.string s] w fun e w' => e = .returned (.bool true) ∧ Below w.heap.size w w' := by
  have HC := fun w => digits_all_true s w (by omega) h
  have H := hid HC
  clear HC h
  have hx : ((s[0].toNat : Int) != 48) = true := by
    have e : ((s[0].toNat : Int)) = bt s 0 := bt_at s 0 (by simpa using h0)
    rw [e]
    simpa using h1
  obtain ⟨hne, hn2⟩ := not_empty s h0
  have H1 := hid hx
  clear h1 hx
  go_enter Tryz.func162, Tryz.ntmps162
  go_wp2_with fail
  refine (H.out _).mono ?_
  rintro e w1 ⟨rfl, hb⟩
  have HB := hid hb
  clear hb
  go_wp2
  go_ret
  exact ⟨congrArg (fun b => Ending.returned (Value.bool b)) (show ((s[0].toNat : Int) != 48) = true from H1.out), HB.out⟩

theorem trim_byte (s : ByteArray) (w : World) (h0 : 0 < s.size) (hs : s.size ≤ 600) (h1 : bt s ((s.size : Int) - 1) ≠ 48) : Calls Tryz.prog 235 #[.string s, .int .u8 48] w fun e w' => e = .returned (.string s) ∧ Below w.heap.size w w' :=
  (PtrimRightByte.strings_trimRightByte.calls 2 s 48 s w (by
    unfold PtrimRightByte.strings_trimRightByte.f PtrimRightByte.strings_trimRightByte.l0
    rw [w64 _ (by omega) (by omega), if_pos (by omega), if_pos (by omega), if_pos (by omega), if_neg h1])).mono fun _ _ ⟨h1, h2⟩ => ⟨h1, h2.below⟩
set_option maxRecDepth 100000 in
/-- strings.TrimRight of noughts, where there is none. -/
theorem trim_none (s : ByteArray) (w : World) (h0 : 0 < s.size) (hs : s.size ≤ 600) (h1 : bt s ((s.size : Int) - 1) ≠ 48) : Calls Tryz.prog 167 #[.string s, .string ⟨#[48]⟩] w fun e w' => e = .returned (.string s) ∧ Below w.heap.size w w' := by
  obtain ⟨hne, hn2⟩ := not_empty s h0
  have HC := fun w => trim_byte s w h0 hs h1
  have H := hid HC
  clear HC h1
  go_enter Tryz.func167, Tryz.ntmps167
  go_wp2_with fail
  refine (H.out _).mono ?_
  rintro e w1 ⟨rfl, hb⟩
  have HB := hid hb
  clear hb
  go_wp2
  go_ret
  exact ⟨rfl, HB.out⟩
/-- digits.Zeros, where there is none. -/
theorem zeros_none (s : ByteArray) (w : World) (h0 : 0 < s.size) (hs : s.size ≤ 600) (h1 : bt s ((s.size : Int) - 1) ≠ 48) : Calls Tryz.prog 163 #[.string s] w fun e w' => e = .returned (.int .i64 0) ∧ Below w.heap.size w w' := by
  have HC := fun w => trim_none s w h0 hs h1
  have H := hid HC
  clear HC h1
  go_enter Tryz.func163, Tryz.ntmps163
  go_wp2_with fail
  refine (H.out _).mono ?_
  rintro e w1 ⟨rfl, hb⟩
  have HB := hid hb
  clear hb
  go_wp2
  go_ret
  exact ⟨rfl, HB.out⟩

set_option maxRecDepth 100000 in
/-- decimal.Valid where it answers true. -/
theorem decimal_valid (d : Dec) (w : World) (h : DecOk d) : Calls Tryz.prog 102 #[.agg #[.bool d.neg, .string d.digits, .int .i64 d.exp]] w fun e w' => e = .returned (.bool true) ∧ Below w.heap.size w w' := by
  obtain ⟨neg, dg, ex⟩ := d
  rcases h.out with ⟨h0, h1, h2⟩ | ⟨h0, h1, h2, h3, h4, h5, h6⟩
  · simp only at h0 h1 h2 ⊢
    subst h1 h2
    obtain rfl : dg = ByteArray.empty := by
      have : dg.data = #[] := by apply Array.eq_empty_of_size_eq_zero; exact h0
      cases dg; simp_all [ByteArray.empty, ByteArray.emptyWithCapacity]
    clear h h0
    go_enter Tryz.func102, Tryz.ntmps102
    go_wp2
    go_ret
    exact ⟨by first | rfl | simp, (Below.refl _ _).alloc (Nat.le_refl _) _⟩
  · simp only at h0 h1 h2 h3 h4 h5 h6 ⊢
    have HC1 := fun w => digits_valid dg w h0 (by omega) h2 h3
    have HC2 := fun w => zeros_none dg w h0 (by omega) h4
    have H1 := hid HC1
    have H2 := hid HC2
    obtain ⟨hne, hn2⟩ := not_empty dg h0
    clear HC1 HC2 h2 h3 h4 h
    go_enter Tryz.func102, Tryz.ntmps102
    go_wp2_with fail
    refine (H1.out _).mono ?_
    rintro e w1 ⟨rfl, hb⟩
    obtain ⟨hc, hf⟩ := bcell hb
    have HB := hid hb
    have hz : w.heap.size < w1.heap.size := by have := hb.size; simp at this; omega
    clear hb
    go_wp2_with fail
    refine (H2.out _).mono ?_
    rintro e w2 ⟨rfl, hb⟩
    obtain ⟨hc2, hf2⟩ := bcell hb
    have HB2 := hid hb
    clear hb
    go_wp2
    go_ret
    exact ⟨rfl, (((Below.refl _ _).alloc (Nat.le_refl _) _).trans (HB.out.mono (by simp))).trans (HB2.out.mono (by omega))⟩

/-- A valid time. -/
structure TmOk (t : Tm) : Prop where mk ::
  out : 1 ≤ t.kind ∧ t.kind ≤ 4 ∧ 0 ≤ t.day ∧ t.day ≤ 3652058 ∧ 0 ≤ t.nano ∧ t.nano ≤ 86399999999999 ∧ -1439 ≤ t.offset ∧ t.offset ≤ 1439 ∧ (t.kind = 1 → t.nano = 0) ∧ (t.kind = 2 → t.day = 0) ∧ (t.kind ≠ 4 → t.offset = 0)
theorem moment_valid (t : Tm) (w : World) (h : TmOk t) : Calls Tryz.prog 189 #[.agg #[.int .i64 t.kind, .int .i64 t.day, .int .i64 t.nano, .int .i64 t.offset]] w fun e w' => e = .returned (.bool true) ∧ Below w.heap.size w w' := by
  refine PBuiltinJoins.moment_Valid.calls 1 _ _ _ _ _ w ?_
  obtain ⟨h1, h2, h3, h4, h5, h6, h7, h8, h9, h10, h11⟩ := h.out
  unfold PBuiltinJoins.moment_Valid.f
  rw [if_neg (by omega), if_neg (by omega), if_neg (by omega), if_neg (by omega), if_neg (by omega), if_neg (by omega), if_neg (by omega), decide_eq_false (by omega)]
  simp only [PBuiltinJoins.moment_Valid.j0, Bool.false_eq_true, if_false]
  by_cases k2 : t.kind = 2
  · rw [if_pos k2, if_pos (h10 k2), h11 (by omega)]; rfl
  rw [if_neg k2]
  by_cases k1 : t.kind = 1
  · rw [if_pos k1, if_pos (h9 k1), h11 (by omega)]; rfl
  rw [if_neg k1]
  by_cases k3 : t.kind = 3
  · rw [if_pos k3, h11 (by omega)]; rfl
  rw [if_neg k3]
theorem ref_moment (t : Tm) (w : World) : ∃ r : Bool, (r = true → TmOk t) ∧ Calls Tryz.prog 156 #[.agg #[.int .i64 t.kind, .int .i64 t.day, .int .i64 t.nano, .int .i64 t.offset]] w fun e w' => e = .returned (.bool r) ∧ Below w.heap.size w w' := by
  have key : ∃ r : Bool, (r = true → TmOk t) ∧ PBuiltinJoins.datakitref05_Valid.f 1 t.kind t.day t.nano t.offset = some r := by
    unfold PBuiltinJoins.datakitref05_Valid.f
    by_cases c1 : t.kind < 1
    · rw [if_pos c1]; exact ⟨false, (fun h => nomatch h), by simp only [PBuiltinJoins.datakitref05_Valid.j0, if_true]⟩
    rw [if_neg c1]
    by_cases c2 : t.kind > 4
    · rw [if_pos c2]; exact ⟨false, (fun h => nomatch h), by simp only [PBuiltinJoins.datakitref05_Valid.j0, if_true]⟩
    rw [if_neg c2]
    by_cases c3 : t.day < 0
    · rw [if_pos c3]; exact ⟨false, (fun h => nomatch h), by simp only [PBuiltinJoins.datakitref05_Valid.j0, if_true]⟩
    rw [if_neg c3]
    by_cases c4 : t.day > 3652058
    · rw [if_pos c4]; exact ⟨false, (fun h => nomatch h), by simp only [PBuiltinJoins.datakitref05_Valid.j0, if_true]⟩
    rw [if_neg c4]
    by_cases c5 : t.nano < 0
    · rw [if_pos c5]; exact ⟨false, (fun h => nomatch h), by simp only [PBuiltinJoins.datakitref05_Valid.j0, if_true]⟩
    rw [if_neg c5]
    by_cases c6 : t.nano > 86399999999999
    · rw [if_pos c6]; exact ⟨false, (fun h => nomatch h), by simp only [PBuiltinJoins.datakitref05_Valid.j0, if_true]⟩
    rw [if_neg c6]
    by_cases c7 : t.offset < -1439
    · rw [if_pos c7]; exact ⟨false, (fun h => nomatch h), by simp only [PBuiltinJoins.datakitref05_Valid.j0, if_true]⟩
    rw [if_neg c7]
    by_cases c8 : t.offset > 1439
    · rw [decide_eq_true c8]; exact ⟨false, (fun h => nomatch h), by simp only [PBuiltinJoins.datakitref05_Valid.j0, if_true]⟩
    rw [decide_eq_false c8]
    simp only [PBuiltinJoins.datakitref05_Valid.j0, Bool.false_eq_true, if_false, PBuiltinJoins.datakitref05_dated.f, PBuiltinJoins.datakitref05_clocked.f]
    obtain h | h | h | h : t.kind = 1 ∨ t.kind = 2 ∨ t.kind = 3 ∨ t.kind = 4 := by omega
    · simp only [h]
      by_cases e1 : t.nano = 0
      · simp only [e1]
        exact ⟨t.offset == 0, fun hr => ⟨by simp at hr; omega⟩, by simp⟩
      · exact ⟨false, (fun h => nomatch h), by simp [e1]⟩
    · simp only [h]
      by_cases e1 : t.day = 0
      · simp only [e1]
        exact ⟨t.offset == 0, fun hr => ⟨by simp at hr; omega⟩, by simp⟩
      · exact ⟨false, (fun h => nomatch h), by simp [e1]⟩
    · simp only [h]
      exact ⟨t.offset == 0, fun hr => ⟨by simp at hr; omega⟩, by simp⟩
    · simp only [h]
      exact ⟨true, fun hr => ⟨by omega⟩, by simp⟩
  obtain ⟨r, h1, h2⟩ := key
  exact ⟨r, h1, PBuiltinJoins.datakitref05_Valid.calls 1 _ _ _ _ r w h2⟩
end Go.Proofs.YtaeclmligojlaaaGreatDoor.D

/- The reference's Valid of decimals: what it answers, for any decimal; a decimal of which it answers true is valid. Conditions: digits of at most 2^40 bytes. -/
namespace Go.Proofs.YtaeclmligojlaaaGreatDoor.D
open Go.Proofs.YtaeclmligojlaaaGreatDoorW.PrintWords Go.RowKit

theorem rdigits_step (k : Nat) (s : ByteArray) (i : Int) : PBuiltinJoins.datakitref01_Digits.l0 (k + 1) s i = if i < (s.size : Int) then (if 0 ≤ i then (if (bt s i) < 48 then (some false) else (if (bt s i) > 57 then (some false) else (PBuiltinJoins.datakitref01_Digits.l0 k s (wrap64 (i + 1))))) else (none)) else (some true) := by
  simp only [PBuiltinJoins.datakitref01_Digits.l0]
theorem rdigits_loop (s : ByteArray) (hs : s.size ≤ 1099511627776) : ∀ (m i : Nat), s.size - i ≤ m → i ≤ s.size → ∃ r, PBuiltinJoins.datakitref01_Digits.l0 (m + 1) s i = some r ∧ (r = true → ∀ b ∈ s.data.toList.drop i, 48 ≤ b.toNat ∧ b.toNat ≤ 57) := by
  intro m
  induction m with
  | zero =>
    intro i hm hi
    refine ⟨true, ?_, fun _ => ?_⟩
    · rw [rdigits_step, if_neg (by omega)]
    · rw [List.drop_eq_nil_of_le (by have : s.data.toList.length = s.size := rfl; omega)]
      intro b hb
      simp at hb
  | succ m ih =>
    intro i hm hi
    rw [rdigits_step]
    by_cases hlt : i < s.size
    · have hb := bt_nat s i
      have hlen : s.data.toList.length = s.size := rfl
      have hg : s.data.toList.getD i 0 = s.data.toList[i]'(by omega) := by
        rw [List.getD_eq_getElem?_getD, List.getElem?_eq_getElem (by omega)]
        rfl
      rw [if_pos (by omega), if_pos (by omega), hb]
      by_cases c1 : (((s.data.toList.getD i 0).toNat : Nat) : Int) < 48
      · rw [if_pos c1]; exact ⟨false, rfl, fun h => nomatch h⟩
      rw [if_neg c1]
      by_cases c2 : (((s.data.toList.getD i 0).toNat : Nat) : Int) > 57
      · rw [if_pos c2]; exact ⟨false, rfl, fun h => nomatch h⟩
      rw [if_neg c2, w64 _ (by omega) (by omega)]
      have e : ((i : Int) + 1) = ((i + 1 : Nat) : Int) := by omega
      rw [e]
      obtain ⟨r, h1, h2⟩ := ih (i + 1) (by omega) (by omega)
      refine ⟨r, h1, fun hr b hb' => ?_⟩
      rw [List.drop_eq_getElem_cons (by omega : i < s.data.toList.length), ← hg] at hb'
      rcases List.mem_cons.1 hb' with rfl | hb'
      · omega
      · exact h2 hr b hb'
    · rw [if_neg (by omega)]
      refine ⟨true, rfl, fun _ => ?_⟩
      rw [List.drop_eq_nil_of_le (by have : s.data.toList.length = s.size := rfl; omega)]
      intro b hb
      simp at hb
theorem rzeros_step (k : Nat) (s : ByteArray) (i : Nat) (hs : s.size ≤ 1099511627776) (hi : i < s.size) : PBuiltinJoins.datakitref01_Zeros.l0 (k + 1) s i = if (bt s ((s.size : Int) - 1 - i)) = 48 then (PBuiltinJoins.datakitref01_Zeros.l0 k s ((i + 1 : Nat) : Int)) else (some (i : Int)) := by
  simp only [PBuiltinJoins.datakitref01_Zeros.l0]
  have e1 : wrap64 ((s.size : Int) - 1) = (s.size : Int) - 1 := w64 _ (by omega) (by omega)
  have e2 : wrap64 ((s.size : Int) - 1 - (i : Int)) = (s.size : Int) - 1 - (i : Int) := w64 _ (by omega) (by omega)
  have e3 : wrap64 ((i : Int) + 1) = ((i + 1 : Nat) : Int) := by rw [w64 _ (by omega) (by omega)]; omega
  rw [e1, e2, e3, if_pos (by omega), if_pos (by omega), if_pos (by omega)]
theorem rzeros_loop (s : ByteArray) (hs : s.size ≤ 1099511627776) : ∀ (m i : Nat), s.size - i ≤ m → i ≤ s.size → ∃ z : Int, (i : Int) ≤ z ∧ PBuiltinJoins.datakitref01_Zeros.l0 (m + 1) s i = some z := by
  intro m
  induction m with
  | zero => intro i hm hi; exact ⟨i, Int.le_refl _, by simp only [PBuiltinJoins.datakitref01_Zeros.l0]; rw [if_neg (by omega)]⟩
  | succ m ih =>
    intro i hm hi
    by_cases hlt : i < s.size
    · rw [rzeros_step _ s i hs hlt]
      split
      · obtain ⟨z, h1, h2⟩ := ih (i + 1) (by omega) (by omega)
        exact ⟨z, by omega, h2⟩
      · exact ⟨i, Int.le_refl _, rfl⟩
    · exact ⟨i, Int.le_refl _, by simp only [PBuiltinJoins.datakitref01_Zeros.l0]; rw [if_neg (by omega)]⟩
theorem rzeros_eq (s : ByteArray) (h0 : 0 < s.size) (hs : s.size ≤ 1099511627776) : ∃ z : Int, PBuiltinJoins.datakitref01_Zeros.f (s.size + 2) s = some z ∧ (z = 0 → bt s ((s.size : Int) - 1) ≠ 48) := by
  unfold PBuiltinJoins.datakitref01_Zeros.f
  have h := rzeros_step (s.size + 1) s 0 hs h0
  have h' : PBuiltinJoins.datakitref01_Zeros.l0 (s.size + 2) s 0 = _ := h
  rw [h']
  simp only [Int.natCast_zero, Int.sub_zero]
  by_cases c : bt s ((s.size : Int) - 1) = 48
  · rw [if_pos c]
    obtain ⟨z, h1, h2⟩ := rzeros_loop s hs s.size 1 (by omega) (by omega)
    exact ⟨z, h2, fun hz => by omega⟩
  · rw [if_neg c]
    exact ⟨0, rfl, fun _ => c⟩
theorem rvalid1_eq (s : ByteArray) (h0 : 0 < s.size) (hs : s.size ≤ 1099511627776) : ∃ r, PBuiltinJoins.datakitref01_Valid.f (s.size + 1) s = some r ∧ (r = true → (∀ b ∈ s.data.toList, 48 ≤ b.toNat ∧ b.toNat ≤ 57) ∧ bt s 0 ≠ 48) := by
  unfold PBuiltinJoins.datakitref01_Valid.f PBuiltinJoins.datakitref01_Digits.f
  by_cases c1 : (s.size : Int) ≤ 600
  · rw [if_pos c1]
    obtain ⟨r, h1, h2⟩ := rdigits_loop s hs s.size 0 (by omega) (by omega)
    have h1' : PBuiltinJoins.datakitref01_Digits.l0 (s.size + 1) s 0 = some r := h1
    rw [h1']
    cases r with
    | false => exact ⟨false, rfl, fun h => nomatch h⟩
    | true =>
      simp only [Option.bind_some, if_true]
      rw [if_neg (by omega), if_pos (by omega)]
      refine ⟨_, rfl, fun h => ⟨by have := h2 rfl; rwa [List.drop_zero] at this, by simpa using h⟩⟩
  · rw [if_neg c1]; exact ⟨false, rfl, fun h => nomatch h⟩
/-- The reference's Valid of decimals. -/
theorem ref_decimal (d : Dec) (w : World) (hs : d.digits.size ≤ 1099511627776) : ∃ r : Bool, (r = true → DecOk d) ∧ Calls Tryz.prog 155 #[.agg #[.bool d.neg, .string d.digits, .int .i64 d.exp]] w fun e w' => e = .returned (.bool r) ∧ Below w.heap.size w w' := by
  obtain ⟨neg, dg, ex⟩ := d
  simp only at hs ⊢
  have key : ∃ r : Bool, (r = true → DecOk ⟨neg, dg, ex⟩) ∧ ∃ k, PBuiltinJoins.datakitref02_Valid.f k neg dg ex = some r := by
    unfold PBuiltinJoins.datakitref02_Valid.f
    by_cases h0 : dg.toList = []
    · simp only [if_pos h0]
      have hz : dg.size = 0 := by rw [ByteArray.toList_eq] at h0; have := congrArg List.length h0; exact this
      cases neg with
      | true => exact ⟨false, (fun h => nomatch h), 0, rfl⟩
      | false => exact ⟨ex == 0, fun h => ⟨.inl ⟨hz, rfl, by simpa using h⟩⟩, 0, rfl⟩
    · simp only [if_neg h0]
      have hz : 0 < dg.size := by
        rcases Nat.eq_zero_or_pos dg.size with h | h
        · exact absurd (by rw [ByteArray.toList_eq]; exact List.length_eq_zero_iff.1 h) h0
        · exact h
      by_cases c1 : (dg.size : Int) ≤ 120
      · simp only [if_pos c1]
        obtain ⟨r1, h1, h2⟩ := rvalid1_eq dg hz hs
        obtain ⟨z, h3, h4⟩ := rzeros_eq dg hz hs
        have h1' : PBuiltinJoins.datakitref01_Valid.f (dg.size + 2) dg = some r1 := PBuiltinJoins.datakitref01_Valid.mono _ _ _ h1
        cases r1 with
        | false => exact ⟨false, (fun h => nomatch h), dg.size + 2, by rw [h1']; rfl⟩
        | true =>
          by_cases c2 : z = 0
          · by_cases c3 : ex ≥ -400
            · refine ⟨decide (ex ≤ 400), fun h => ⟨.inr ⟨hz, (show dg.size ≤ 120 by omega), (h2 rfl).1, (h2 rfl).2, h4 c2, c3, by simpa using h⟩⟩, dg.size + 2, ?_⟩
              rw [h1', h3]; simp only [Option.bind_some, if_true]; rw [if_pos c2, if_pos c3]
            · refine ⟨false, (fun h => nomatch h), dg.size + 2, ?_⟩
              rw [h1', h3]; simp only [Option.bind_some, if_true]; rw [if_pos c2, if_neg c3]
          · refine ⟨false, (fun h => nomatch h), dg.size + 2, ?_⟩
            rw [h1', h3]; simp only [Option.bind_some, if_true]; rw [if_neg c2]
      · simp only [if_neg c1]; exact ⟨false, (fun h => nomatch h), 0, rfl⟩
  obtain ⟨r, h1, k, h2⟩ := key
  exact ⟨r, h1, PBuiltinJoins.datakitref02_Valid.calls k _ _ _ r w h2⟩
end Go.Proofs.YtaeclmligojlaaaGreatDoor.D

/- Valid values, in plain terms: what a valid value has in its own fields, in its keys and in the values in it; how many values there are in a value. Conditions: none. -/
namespace Go.Proofs.YtaeclmligojlaaaGreatDoor.D
open Go.RowKit

def zD : Dec := ⟨false, ⟨#[]⟩, 0⟩
def zT : Tm := ⟨0, 0, 0, 0⟩
structure Own (v : Val) : Prop where
  k0 : 0 ≤ v.kind
  k7 : v.kind < 8
  b : v.kind ≠ 1 → v.bool = false
  n : v.kind ≠ 2 → v.num = zD
  t : v.kind ≠ 3 → v.time = zT
  x : v.kind ≠ 4 → v.text = ⟨#[]⟩
  y : v.kind ≠ 5 → v.bytes.length = 0
  l : v.kind ≠ 6 → v.list.length = 0
  f : v.kind ≠ 7 → v.fields.length = 0
structure KeysOk (l : List (ByteArray × Val)) : Prop where
  ok : ∀ i (h : i < l.length), vld l[i].1.data.toList = true ∧ l[i].1.size ≤ 1024
  apart : ∀ i j (h : i < j) (hj : j < l.length), (l[i]'(by omega)).1 ≠ l[j].1
structure One (v : Val) : Prop where
  own : Own v
  num : v.kind = 2 → DecOk v.num
  time : v.kind = 3 → TmOk v.time
  text : vld v.text.data.toList = true
  tlen : v.text.size ≤ 65536
  blen : v.bytes.length ≤ 65536
  keys : KeysOk v.fields
inductive OkV : Val → Prop where
  | mk (v : Val) (one : One v) (hl : ∀ i (h : i < v.list.length), OkV v.list[i]) (hf : ∀ i (h : i < v.fields.length), OkV v.fields[i].2) : OkV v
theorem OkV.one {v : Val} (h : OkV v) : One v := by cases h; assumption
theorem OkV.hl {v : Val} (h : OkV v) : ∀ i (h : i < v.list.length), OkV v.list[i] := by cases h; assumption
theorem OkV.hf {v : Val} (h : OkV v) : ∀ i (h : i < v.fields.length), OkV v.fields[i].2 := by cases h; assumption

mutual
def Val.cnt : Val → Nat
  | .mk _ _ _ _ _ _ l f => 1 + Val.cntL l + Val.cntF f
def Val.cntL : List Val → Nat
  | [] => 0
  | v :: l => v.cnt + Val.cntL l
def Val.cntF : List (ByteArray × Val) → Nat
  | [] => 0
  | x :: l => x.2.cnt + Val.cntF l
end
theorem Val.cnt_eq (v : Val) : v.cnt = 1 + Val.cntL v.list + Val.cntF v.fields := by cases v; simp [Val.cnt, Val.list, Val.fields]
theorem Val.cnt_pos (v : Val) : 1 ≤ v.cnt := by rw [Val.cnt_eq]; omega
theorem Val.deep_eq (v : Val) : v.deep = 1 + max (Val.deepL v.list) (Val.deepF v.fields) := by cases v; simp [Val.deep, Val.list, Val.fields]
theorem Val.cntL_take (l : List Val) : ∀ i (h : i < l.length), Val.cntL (l.take (i + 1)) = Val.cntL (l.take i) + l[i].cnt := by
  induction l with
  | nil => intro i h; simp at h
  | cons v l ih =>
    intro i h
    cases i with
    | zero => simp [Val.cntL]
    | succ i => have := ih i (by simpa using h); simp only [List.take_succ_cons, Val.cntL, List.getElem_cons_succ]; omega
theorem Val.cntL_take_le (l : List Val) : ∀ i, Val.cntL (l.take i) ≤ Val.cntL l := by
  induction l with
  | nil => intro i; simp [Val.cntL]
  | cons v l ih =>
    intro i
    cases i with
    | zero => simp [Val.cntL]
    | succ i => have := ih i; simp only [List.take_succ_cons, Val.cntL]; omega
theorem Val.cntF_take (l : List (ByteArray × Val)) : ∀ i (h : i < l.length), Val.cntF (l.take (i + 1)) = Val.cntF (l.take i) + l[i].2.cnt := by
  induction l with
  | nil => intro i h; simp at h
  | cons v l ih =>
    intro i h
    cases i with
    | zero => simp [Val.cntF]
    | succ i => have := ih i (by simpa using h); simp only [List.take_succ_cons, Val.cntF, List.getElem_cons_succ]; omega
theorem Val.cntF_take_le (l : List (ByteArray × Val)) : ∀ i, Val.cntF (l.take i) ≤ Val.cntF l := by
  induction l with
  | nil => intro i; simp [Val.cntF]
  | cons v l ih =>
    intro i
    cases i with
    | zero => simp [Val.cntF]
    | succ i => have := ih i; simp only [List.take_succ_cons, Val.cntF]; omega
theorem Val.cntL_len (l : List Val) : l.length ≤ Val.cntL l := by
  induction l with
  | nil => simp [Val.cntL]
  | cons v l ih => simp only [List.length_cons, Val.cntL]; have := v.cnt_pos; omega
theorem Val.cntF_len (l : List (ByteArray × Val)) : l.length ≤ Val.cntF l := by
  induction l with
  | nil => simp [Val.cntF]
  | cons v l ih => simp only [List.length_cons, Val.cntF]; have := v.2.cnt_pos; omega
theorem Val.cntL_next (l : List Val) (i : Nat) (h : i < l.length) : Val.cntL (l.take i) + l[i].cnt ≤ Val.cntL l := by rw [← Val.cntL_take l i h]; exact Val.cntL_take_le _ _
theorem Val.cntF_next (l : List (ByteArray × Val)) (i : Nat) (h : i < l.length) : Val.cntF (l.take i) + l[i].2.cnt ≤ Val.cntF l := by rw [← Val.cntF_take l i h]; exact Val.cntF_take_le _ _

end Go.Proofs.YtaeclmligojlaaaGreatDoor.D
