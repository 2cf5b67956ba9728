/- The data that the program's values are: their Lean types, how cells in memory read as them, what keeps such readings. No program in it. Conditions: none. | UTF-8 in plain terms: the size of the first character of bytes, validity, and what a valid part of valid bytes leaves on both sides. Conditions: none. | strings.Split's pieces: joined again they are the string; if the string and the separator are valid UTF-8, so is each piece. Conditions: the separator is not empty. -/
import Derived.WalkKit
import Derived.WalkSpells
import Derived.WalkLawsBesides
import Derived.Maps.AppendAt
import Derived.Deep.AppendLies
import Init
import Derived.Lib.SplitLaws
import Derived.Lib.Join
/- The data that the program's values are: their Lean types, how cells in memory read as them, what keeps such readings. No program in it. Conditions: none. -/
namespace Go.Proofs.YtaeclmligojlaaaGreatDoor.D
open Go.RowKit

/-- A fact laid aside: its statement is read off the fact. -/
theorem hid {p : Prop} (h : p) : Hid p := h

/-- Blocks that are not U's read in w' as in w; U' has of the blocks of w no more than U has. -/
structure Goes (U U' : Nat → Prop) (w w' : World) : Prop where
  same : ∀ b, b < w.heap.size → ¬ U b → w'.heap[b]? = w.heap[b]?
  less : ∀ b, b < w.heap.size → U' b → U b

theorem Goes.below {U : Nat → Prop} {w w' : World} (h : Below w.heap.size w w') : Goes U U w w' := ⟨fun b hb _ => h.block b hb, fun _ _ h => h⟩

/-- A row of 'len' elements of 'sz' cells at the slice value (A, n): element i has the cells 'cell i 0' .. -/
def RowAt (U : Nat → Prop) (w : World) (A : Option Addr) (n len sz : Nat) (cell : Nat → Nat → Value) : Prop :=
  n = len ∧ len ≤ 9223372036854775807 ∧ (0 < len → ∃ b o, A = some ⟨b, o, none⟩ ∧ b < w.heap.size ∧ ¬ U b ∧ ∀ i, i < len → ∀ j, j < sz → w.cell? ⟨b, o + i * sz + j, none⟩ = some (cell i j))

theorem RowAt.goes {U U' : Nat → Prop} {w w' : World} {A : Option Addr} {n len sz : Nat} {cell : Nat → Nat → Value} (h : RowAt U w A n len sz cell) (g : Goes U U' w w') : RowAt U' w' A n len sz cell := by
  obtain ⟨h1, h2, h3⟩ := h
  refine ⟨h1, h2, fun h0 => ?_⟩
  obtain ⟨b, o, rfl, hb, hu, hc⟩ := h3 h0
  have hs := g.same b hb hu
  refine ⟨b, o, rfl, ?_, fun hu' => hu (g.less b hb hu'), fun i hi j hj => ?_⟩
  · have : w'.heap[b]? ≠ none := by rw [hs]; simp [hb]
    rcases Nat.lt_or_ge b w'.heap.size with h | h
    · exact h
    · exact absurd (Array.getElem?_eq_none h) this
  · rw [← hc i hi j hj]
    exact World.cell?_of_block (w := w) hs

theorem RowAt.nil (U : Nat → Prop) (w : World) (A : Option Addr) (sz : Nat) (cell : Nat → Nat → Value) : RowAt U w A 0 0 sz cell := ⟨rfl, by omega, fun h => by omega⟩

structure Dec where
  neg : Bool
  digits : ByteArray
  exp : Int
structure Tm where
  kind : Int
  day : Int
  nano : Int
  offset : Int
inductive Val where
  | mk (kind : Int) (bool : Bool) (num : Dec) (time : Tm) (text : ByteArray) (bytes : List Int) (list : List Val) (fields : List (ByteArray × Val))

namespace Val
def kind : Val → Int | mk k _ _ _ _ _ _ _ => k
def bool : Val → Bool | mk _ b _ _ _ _ _ _ => b
def num : Val → Dec | mk _ _ n _ _ _ _ _ => n
def time : Val → Tm | mk _ _ _ t _ _ _ _ => t
def text : Val → ByteArray | mk _ _ _ _ t _ _ _ => t
def bytes : Val → List Int | mk _ _ _ _ _ b _ _ => b
def list : Val → List Val | mk _ _ _ _ _ _ l _ => l
def fields : Val → List (ByteArray × Val) | mk _ _ _ _ _ _ _ f => f
end Val

/-- The cells of a Value. -/
structure VC where
  kind : Int
  bool : Bool
  neg : Bool
  digits : ByteArray
  exp : Int
  tkind : Int
  day : Int
  nano : Int
  offset : Int
  text : ByteArray
  ab : Option Addr
  nb : Nat
  cb : Nat
  al : Option Addr
  nl : Nat
  cl : Nat
  af : Option Addr
  nf : Nat
  cf : Nat

def VC.arr (c : VC) : Array Value := #[.int .i64 c.kind, .bool c.bool, .bool c.neg, .string c.digits, .int .i64 c.exp, .int .i64 c.tkind, .int .i64 c.day, .int .i64 c.nano, .int .i64 c.offset, .string c.text, .slice c.ab c.nb c.cb, .slice c.al c.nl c.cl, .slice c.af c.nf c.cf]
def VC.cell (c : VC) (j : Nat) : Value := c.arr.getD j undef
def fcell (k : ByteArray) (c : VC) (j : Nat) : Value := if j = 0 then .string k else c.cell (j - 1)

/-- The cells c read, in w, as the value v; no block that is read is one of U's. -/
inductive VR (U : Nat → Prop) (w : World) : VC → Val → Prop where
  | mk (c : VC) (v : Val) (lc fc : Nat → VC)
    (hk : c.kind = v.kind) (hbo : c.bool = v.bool) (hn : c.neg = v.num.neg) (hd : c.digits = v.num.digits) (he : c.exp = v.num.exp)
    (ht0 : c.tkind = v.time.kind) (ht1 : c.day = v.time.day) (ht2 : c.nano = v.time.nano) (ht3 : c.offset = v.time.offset) (htx : c.text = v.text)
    (hb : RowAt U w c.ab c.nb v.bytes.length 1 (fun i _ => .int .u8 (v.bytes.getD i 0)))
    (hl : RowAt U w c.al c.nl v.list.length 13 (fun i => (lc i).cell))
    (hl' : ∀ i (h : i < v.list.length), VR U w (lc i) v.list[i])
    (hf : RowAt U w c.af c.nf v.fields.length 14 (fun i => fcell ((v.fields[i]?.map (·.1)).getD default) (fc i)))
    (hf' : ∀ i (h : i < v.fields.length), VR U w (fc i) v.fields[i].2) : VR U w c v

theorem VR.goes {U U' : Nat → Prop} {w w' : World} (g : Goes U U' w w') {c : VC} {v : Val} (h : VR U w c v) : VR U' w' c v := by
  induction h with
  | mk c v lc fc hk hbo hn hd he ht0 ht1 ht2 ht3 htx hb hl _ hf _ ihl ihf =>
    exact .mk c v lc fc hk hbo hn hd he ht0 ht1 ht2 ht3 htx (hb.goes g) (hl.goes g) ihl (hf.goes g) ihf

mutual
def Val.deep : Val → Nat
  | .mk _ _ _ _ _ _ l f => 1 + max (Val.deepL l) (Val.deepF f)
def Val.deepL : List Val → Nat
  | [] => 0
  | v :: l => max v.deep (Val.deepL l)
def Val.deepF : List (ByteArray × Val) → Nat
  | [] => 0
  | x :: l => max x.2.deep (Val.deepF l)
end
mutual
def Val.weight : Val → Nat
  | .mk _ _ _ _ _ b l f => 1 + b.length + Val.weightL l + Val.weightF f
def Val.weightL : List Val → Nat
  | [] => 0
  | v :: l => v.weight + Val.weightL l
def Val.weightF : List (ByteArray × Val) → Nat
  | [] => 0
  | x :: l => x.2.weight + Val.weightF l
end
theorem Val.deepL_get (l : List Val) : ∀ i (h : i < l.length), l[i].deep ≤ Val.deepL l := by
  induction l with
  | nil => intro i h; simp at h
  | cons v l ih =>
    intro i h
    simp only [Val.deepL]
    cases i with
    | zero => simp; omega
    | succ i => have := ih i (by simpa using h); simp; omega
theorem Val.deepF_get (l : List (ByteArray × Val)) : ∀ i (h : i < l.length), l[i].2.deep ≤ Val.deepF l := by
  induction l with
  | nil => intro i h; simp at h
  | cons v l ih =>
    intro i h
    simp only [Val.deepF]
    cases i with
    | zero => simp; omega
    | succ i => have := ih i (by simpa using h); simp; omega
theorem Val.weight_pos (v : Val) : 1 ≤ v.weight := by cases v; simp only [Val.weight]; omega
theorem Val.weightL_get (l : List Val) : l.length ≤ Val.weightL l ∧ ∀ i (h : i < l.length), l[i].weight ≤ Val.weightL l := by
  induction l with
  | nil => exact ⟨by simp, fun i h => by simp at h⟩
  | cons v l ih =>
    have hp := v.weight_pos
    refine ⟨by simp only [Val.weightL, List.length_cons]; omega, fun i h => ?_⟩
    simp only [Val.weightL]
    cases i with
    | zero => simp
    | succ i => have := ih.2 i (by simpa using h); simp; omega
theorem Val.weightF_get (l : List (ByteArray × Val)) : l.length ≤ Val.weightF l ∧ ∀ i (h : i < l.length), l[i].2.weight ≤ Val.weightF l := by
  induction l with
  | nil => exact ⟨by simp, fun i h => by simp at h⟩
  | cons v l ih =>
    have hp := v.2.weight_pos
    refine ⟨by simp only [Val.weightF, List.length_cons]; omega, fun i h => ?_⟩
    simp only [Val.weightF]
    cases i with
    | zero => simp
    | succ i => have := ih.2 i (by simpa using h); simp; omega

/-- What is owned reads as a row, where no block of it is one of U's. -/
theorem own_row {w : World} {base e sz n : Nat} {v : Value} {xs : List Value} (h : w.ownsRow base e sz v n xs) :
    ∃ A c, v = .slice A n c ∧ ∀ U : Nat → Prop, (∀ k, v.ownBlock = some k → ¬ U k) → RowAt U w A n n sz (fun i j => xs.getD (i * sz + j) undef) := by
  obtain ⟨hl, h⟩ := h
  rcases h with ⟨rfl, rfl⟩ | ⟨g, cap, cur, rfl, hb, hg, hnc, hcm, hcs, htake⟩
  · exact ⟨none, 0, rfl, fun U _ => RowAt.nil ..⟩
  · refine ⟨_, cap, rfl, fun U hU => ⟨rfl, by unfold maxLen at hcm; omega, fun _ => ⟨g, 0, rfl, (Array.getElem?_eq_some_iff.1 hg).1, hU g rfl, fun i hi j hj => ?_⟩⟩⟩
    have hlt : i * sz + j < n * sz := by
      have : (i + 1) * sz ≤ n * sz := Nat.mul_le_mul_right _ hi
      rw [Nat.add_mul] at this
      omega
    rw [cell_of_row w g _ cur e (0, 0) hg, Nat.zero_add]
    have h2 : xs[i * sz + j]? = cur[i * sz + j]? := by
      rw [← htake, List.getElem?_take, if_pos hlt]
      simp
    have h3 : i * sz + j < xs.length := by omega
    rw [← h2, List.getElem?_eq_getElem h3]
    simp [List.getD_eq_getElem?_getD, List.getElem?_eq_getElem h3]

theorem Goes.refl (U : Nat → Prop) (w : World) : Goes U U w w := ⟨fun _ _ _ => rfl, fun _ _ h => h⟩
theorem Goes.trans {U V X : Nat → Prop} {a b c : World} (h : Goes U V a b) (k : Goes V X b c) (hs : a.heap.size ≤ b.heap.size) : Goes U X a c :=
  ⟨fun i hi hu => (k.same i (Nat.lt_of_lt_of_le hi hs) (fun hv => hu (h.less i hi hv))).trans (h.same i hi hu), fun i hi hx => h.less i hi (k.less i (Nat.lt_of_lt_of_le hi hs) hx)⟩
theorem grownBy_of_below {w w1 : World} (h : Below w.heap.size w w1) (row : Option Nat) : w.grownBy w1 row := ⟨h.os, h.tape, h.output, h.size, fun i hi _ => h.block i hi⟩
theorem own_below {w w1 : World} {base : Nat} {e : TypeId} {size n : Nat} {v : Value} {xs : List Value} (h : w.ownsRow base e size v n xs) (hb : Below w.heap.size w w1) : w1.ownsRow base e size v n xs :=
  h.kept (grownBy_of_below hb none) (by cases v.ownBlock <;> simp)

theorem RowAt.congr {U : Nat → Prop} {w : World} {A : Option Addr} {n len sz : Nat} {cell cell' : Nat → Nat → Value} (h : RowAt U w A n len sz cell) (hc : ∀ i, i < len → ∀ j, j < sz → cell i j = cell' i j) : RowAt U w A n len sz cell' := by
  refine ⟨h.1, h.2.1, fun h0 => ?_⟩
  obtain ⟨b, o, rfl, hb, hu, h⟩ := h.2.2 h0
  exact ⟨b, o, rfl, hb, hu, fun i hi j hj => by rw [h i hi j hj, hc i hi j hj]⟩

theorem flat_length {α : Type} (f : α → List Value) (sz : Nat) (hf : ∀ a, (f a).length = sz) (l : List α) : (l.flatMap f).length = l.length * sz := by
  induction l with
  | nil => simp
  | cons a l ih => rw [List.flatMap_cons, List.length_append, ih, hf, List.length_cons, Nat.add_mul]; omega

theorem flat_getD {α : Type} [Inhabited α] (f : α → List Value) (sz : Nat) (hf : ∀ a, (f a).length = sz) (l : List α) : ∀ i, i < l.length → ∀ j, j < sz → (l.flatMap f).getD (i * sz + j) undef = (f (l.getD i default)).getD j undef := by
  induction l with
  | nil => intro i h; simp at h
  | cons a l ih =>
    intro i hi j hj
    rw [List.flatMap_cons]
    cases i with
    | zero =>
      simp only [Nat.zero_mul, Nat.zero_add, List.getD_eq_getElem?_getD, List.getElem?_cons_zero, Option.getD_some]
      rw [List.getElem?_append_left (by rw [hf]; exact hj)]
    | succ i =>
      have h := ih i (by simpa using hi) j hj
      have e : (i + 1) * sz + j = (f a).length + (i * sz + j) := by rw [hf, Nat.add_mul]; omega
      simp only [List.getD_eq_getElem?_getD] at h ⊢
      rw [e, List.getElem?_append_right (by omega), Nat.add_sub_cancel_left, h]
      simp

instance : Inhabited VC := ⟨⟨0, false, false, default, 0, 0, 0, 0, 0, default, none, 0, 0, none, 0, 0, none, 0, 0⟩⟩
theorem VC.arr_length (c : VC) : c.arr.toList.length = 13 := rfl
theorem VC.cell_eq (c : VC) (j : Nat) : c.arr.toList.getD j undef = c.cell j := by
  simp [VC.cell, Array.getD_eq_getD_getElem?, List.getD_eq_getElem?_getD]

/-- Values one by one. -/
def VRL (U : Nat → Prop) (w : World) (els : List VC) (vs : List Val) : Prop := els.length = vs.length ∧ ∀ i (h : i < els.length) (h' : i < vs.length), VR U w els[i] vs[i]
theorem VRL.goes {U U' : Nat → Prop} {w w' : World} (g : Goes U U' w w') {els : List VC} {vs : List Val} (h : VRL U w els vs) : VRL U' w' els vs := ⟨h.1, fun i a b => (h.2 i a b).goes g⟩
theorem VRL.nil (U : Nat → Prop) (w : World) : VRL U w [] [] := ⟨rfl, fun i h => by simp at h⟩
theorem VRL.snoc {U : Nat → Prop} {w : World} {els : List VC} {vs : List Val} (h : VRL U w els vs) {c : VC} {v : Val} (hv : VR U w c v) : VRL U w (els ++ [c]) (vs ++ [v]) := by
  refine ⟨by simp [h.1], fun i a b => ?_⟩
  by_cases hi : i < els.length
  · rw [List.getElem_append_left hi, List.getElem_append_left (by rw [← h.1]; exact hi)]
    exact h.2 i hi _
  · obtain rfl : i = els.length := by simp at a; omega
    have e : (vs ++ [v])[els.length] = v := by simp [h.1]
    rw [e]
    simpa using hv

/-- Own block of a value, and what U has. -/
def Uo (U : Nat → Prop) (v : Value) : Nat → Prop := fun b => U b ∨ v.ownBlock = some b

/-- An own row of Values. -/
theorem own_vals {w : World} {base n : Nat} {e : TypeId} {v : Value} {els : List VC} (h : w.ownsRow base e 13 v n (els.flatMap (·.arr.toList))) :
    n = els.length ∧ ∃ A c, v = .slice A n c ∧ ∀ U : Nat → Prop, (∀ k, v.ownBlock = some k → ¬ U k) → RowAt U w A n els.length 13 (fun i => (els.getD i default).cell) := by
  have hn : n = els.length := by
    have := h.1
    rw [flat_length _ 13 VC.arr_length] at this
    omega
  subst hn
  obtain ⟨A, c, rfl, hr⟩ := own_row h
  refine ⟨rfl, A, c, rfl, fun U hU => (hr U hU).congr fun i hi j hj => ?_⟩
  rw [flat_getD _ 13 VC.arr_length _ i hi j hj, VC.cell_eq]

/-- What goes on behind an append onto an own row: nothing else has turned. -/
theorem goes_append {U : Nat → Prop} {v v' : Value} {w w' : World} (hg : w.grownBy w' v.ownBlock) (hat : v'.ownBlock = v.ownBlock ∨ v'.ownBlock = some w.heap.size) : Goes (Uo U v) (Uo U v') w w' := by
  refine ⟨fun b hb hu => hg.block b hb (fun e => hu (.inr e.symm)), fun b hb hu => ?_⟩
  rcases hu with hu | hu
  · exact .inl hu
  · rcases hat with h | h
    · exact .inr (h ▸ hu)
    · rw [h] at hu
      cases hu
      omega

/-- The thirteen cells of element q of a row of Values. -/
theorem val_cells {w : World} {b o q : Nat} {c : VC} (h : ∀ j, j < 13 → w.cell? ⟨b, o + q * 13 + j, none⟩ = some (c.cell j)) :
    w.cell? ⟨b, o + q * 13, none⟩ = some (.int .i64 c.kind) ∧ w.cell? ⟨b, o + q * 13 + 1, none⟩ = some (.bool c.bool) ∧ w.cell? ⟨b, o + q * 13 + 2, none⟩ = some (.bool c.neg) ∧
    w.cell? ⟨b, o + q * 13 + 3, none⟩ = some (.string c.digits) ∧ w.cell? ⟨b, o + q * 13 + 4, none⟩ = some (.int .i64 c.exp) ∧ w.cell? ⟨b, o + q * 13 + 5, none⟩ = some (.int .i64 c.tkind) ∧
    w.cell? ⟨b, o + q * 13 + 6, none⟩ = some (.int .i64 c.day) ∧ w.cell? ⟨b, o + q * 13 + 7, none⟩ = some (.int .i64 c.nano) ∧ w.cell? ⟨b, o + q * 13 + 8, none⟩ = some (.int .i64 c.offset) ∧
    w.cell? ⟨b, o + q * 13 + 9, none⟩ = some (.string c.text) ∧ w.cell? ⟨b, o + q * 13 + 10, none⟩ = some (.slice c.ab c.nb c.cb) ∧ w.cell? ⟨b, o + q * 13 + 11, none⟩ = some (.slice c.al c.nl c.cl) ∧
    w.cell? ⟨b, o + q * 13 + 12, none⟩ = some (.slice c.af c.nf c.cf) :=
  ⟨h 0 (by omega), h 1 (by omega), h 2 (by omega), h 3 (by omega), h 4 (by omega), h 5 (by omega), h 6 (by omega), h 7 (by omega), h 8 (by omega), h 9 (by omega), h 10 (by omega), h 11 (by omega), h 12 (by omega)⟩
theorem field_cells {w : World} {b o q : Nat} {k : ByteArray} {c : VC} (h : ∀ j, j < 14 → w.cell? ⟨b, o + q * 14 + j, none⟩ = some (fcell k c j)) :
    w.cell? ⟨b, o + q * 14, none⟩ = some (.string k) ∧ w.cell? ⟨b, o + q * 14 + 1, none⟩ = some (.int .i64 c.kind) ∧ w.cell? ⟨b, o + q * 14 + 2, none⟩ = some (.bool c.bool) ∧ w.cell? ⟨b, o + q * 14 + 3, none⟩ = some (.bool c.neg) ∧
    w.cell? ⟨b, o + q * 14 + 4, none⟩ = some (.string c.digits) ∧ w.cell? ⟨b, o + q * 14 + 5, none⟩ = some (.int .i64 c.exp) ∧ w.cell? ⟨b, o + q * 14 + 6, none⟩ = some (.int .i64 c.tkind) ∧
    w.cell? ⟨b, o + q * 14 + 7, none⟩ = some (.int .i64 c.day) ∧ w.cell? ⟨b, o + q * 14 + 8, none⟩ = some (.int .i64 c.nano) ∧ w.cell? ⟨b, o + q * 14 + 9, none⟩ = some (.int .i64 c.offset) ∧
    w.cell? ⟨b, o + q * 14 + 10, none⟩ = some (.string c.text) ∧ w.cell? ⟨b, o + q * 14 + 11, none⟩ = some (.slice c.ab c.nb c.cb) ∧ w.cell? ⟨b, o + q * 14 + 12, none⟩ = some (.slice c.al c.nl c.cl) ∧
    w.cell? ⟨b, o + q * 14 + 13, none⟩ = some (.slice c.af c.nf c.cf) :=
  ⟨h 0 (by omega), h 1 (by omega), h 2 (by omega), h 3 (by omega), h 4 (by omega), h 5 (by omega), h 6 (by omega), h 7 (by omega), h 8 (by omega), h 9 (by omega), h 10 (by omega), h 11 (by omega), h 12 (by omega), h 13 (by omega)⟩
theorem round_same {wr w2 w3 : World} {o1 o2 : Obj} {r : Option Nat} (hb : Below (wr.alloc o1).heap.size (wr.alloc o1) w2) (hg : (w2.alloc o2).grownBy w3 r) : ∀ b, b < wr.heap.size → some b ≠ r → w3.heap[b]? = wr.heap[b]? := by
  intro b hlt hne
  have hs := hb.size
  simp only [World.size_alloc] at hs
  rw [hg.block b (by simp; omega) hne, Below.heap_alloc _ _ _ (by omega), hb.block b (by simp; omega), Below.heap_alloc _ _ _ hlt]
theorem round_size {wr w2 w3 : World} {o1 o2 : Obj} {r : Option Nat} (hb : Below (wr.alloc o1).heap.size (wr.alloc o1) w2) (hg : (w2.alloc o2).grownBy w3 r) : wr.heap.size + 2 ≤ w3.heap.size := by
  have hs := hb.size
  have hs' := hg.size
  simp only [World.size_alloc] at hs hs'
  omega
theorem round_below {w wr w2 w3 : World} {B : Nat} {o1 o2 : Obj} {r : Option Nat} (h : Below B w wr) (hB : B ≤ wr.heap.size) (hb : Below (wr.alloc o1).heap.size (wr.alloc o1) w2) (hg : (w2.alloc o2).grownBy w3 r) (hr : ∀ k, r = some k → B ≤ k) : Below B w w3 := by
  have hs := hb.size
  simp only [World.size_alloc] at hs
  exact (((h.alloc hB _).trans (hb.mono (by simp; omega))).alloc (by omega) _).grown hg (by simp; omega) hr
theorem round_goes {U : Nat → Prop} {v v' : Value} {wr w2 w3 : World} {o1 o2 : Obj} (hb : Below (wr.alloc o1).heap.size (wr.alloc o1) w2) (hg : (w2.alloc o2).grownBy w3 v.ownBlock) (hat : v'.ownBlock = v.ownBlock ∨ v'.ownBlock = some (w2.alloc o2).heap.size) :
    Goes (Uo U v) (Uo U v') wr w3 ∧ Goes (Uo U v) (Uo U v') w2 w3 := by
  have hs := hb.size
  simp only [World.size_alloc] at hs hat
  have less : ∀ b, b < w2.heap.size → Uo U v' b → Uo U v b := by
    intro b hlt hu
    rcases hu with hu | hu
    · exact .inl hu
    · rcases hat with h | h
      · exact .inr (h ▸ hu)
      · rw [h] at hu
        cases hu
        omega
  refine ⟨⟨fun b hlt hu => round_same hb hg b hlt (fun e => hu (.inr e.symm)), fun b hlt hu => less b (by omega) hu⟩, ⟨fun b hlt hu => ?_, less⟩⟩
  rw [hg.block b (by simp; omega) (fun e => hu (.inr e.symm)), Below.heap_alloc _ _ _ hlt]
theorem take_snoc' {α : Type} (l : List α) (q : Nat) (h : q < l.length) : l.take (q + 1) = l.take q ++ [l[q]] := by
  rw [List.take_succ_eq_append_getElem h]
/-- Fields one by one. -/
def FRL (U : Nat → Prop) (w : World) (fs : List (ByteArray × VC)) (vs : List (ByteArray × Val)) : Prop := fs.length = vs.length ∧ ∀ i (h : i < fs.length) (h' : i < vs.length), fs[i].1 = vs[i].1 ∧ VR U w fs[i].2 vs[i].2
theorem FRL.goes {U U' : Nat → Prop} {w w' : World} (g : Goes U U' w w') {fs : List (ByteArray × VC)} {vs : List (ByteArray × Val)} (h : FRL U w fs vs) : FRL U' w' fs vs := ⟨h.1, fun i a b => ⟨(h.2 i a b).1, (h.2 i a b).2.goes g⟩⟩
theorem FRL.nil (U : Nat → Prop) (w : World) : FRL U w [] [] := ⟨rfl, fun i h => by simp at h⟩
theorem FRL.snoc {U : Nat → Prop} {w : World} {fs : List (ByteArray × VC)} {vs : List (ByteArray × Val)} (h : FRL U w fs vs) {k : ByteArray} {c : VC} {v : Val} (hv : VR U w c v) : FRL U w (fs ++ [(k, c)]) (vs ++ [(k, v)]) := by
  refine ⟨by simp [h.1], fun i a b => ?_⟩
  by_cases hi : i < fs.length
  · rw [List.getElem_append_left hi, List.getElem_append_left (by rw [← h.1]; exact hi)]
    exact h.2 i hi _
  · obtain rfl : i = fs.length := by simp at a; omega
    have e : (vs ++ [(k, v)])[fs.length] = (k, v) := by simp [h.1]
    rw [e]
    simpa using hv
def fcells (x : ByteArray × VC) : List Value := .string x.1 :: x.2.arr.toList
theorem fcells_length (x : ByteArray × VC) : (fcells x).length = 14 := rfl
theorem fcells_eq (x : ByteArray × VC) (j : Nat) : (fcells x).getD j undef = fcell x.1 x.2 j := by
  cases j with
  | zero => rfl
  | succ j => simp only [fcells, fcell, ← VC.cell_eq]; rfl
theorem own_fields {w : World} {base n : Nat} {e : TypeId} {v : Value} {fs : List (ByteArray × VC)} (h : w.ownsRow base e 14 v n (fs.flatMap fcells)) :
    n = fs.length ∧ ∃ A c, v = .slice A n c ∧ ∀ U : Nat → Prop, (∀ k, v.ownBlock = some k → ¬ U k) → RowAt U w A n fs.length 14 (fun i => fcell (fs.getD i default).1 (fs.getD i default).2) := by
  have hn : n = fs.length := by
    have := h.1
    rw [flat_length _ 14 fcells_length] at this
    omega
  subst hn
  obtain ⟨A, c, rfl, hr⟩ := own_row h
  refine ⟨rfl, A, c, rfl, fun U hU => (hr U hU).congr fun i hi j hj => ?_⟩
  rw [flat_getD _ 14 fcells_length _ i hi j hj, fcells_eq]
theorem VR.build {U : Nat → Prop} {w : World} (c : VC) (v : Val) (els : List VC) (fs : List (ByteArray × VC))
    (hk : c.kind = v.kind ∧ c.bool = v.bool ∧ c.neg = v.num.neg ∧ c.digits = v.num.digits ∧ c.exp = v.num.exp ∧ c.tkind = v.time.kind ∧ c.day = v.time.day ∧ c.nano = v.time.nano ∧ c.offset = v.time.offset ∧ c.text = v.text)
    (hb : RowAt U w c.ab c.nb v.bytes.length 1 (fun i _ => .int .u8 (v.bytes.getD i 0)))
    (hl : RowAt U w c.al c.nl els.length 13 (fun i => (els.getD i default).cell)) (hel : VRL U w els v.list)
    (hf : RowAt U w c.af c.nf fs.length 14 (fun i => fcell (fs.getD i default).1 (fs.getD i default).2)) (hfl : FRL U w fs v.fields) : VR U w c v := by
  obtain ⟨h0, h1, h2, h3, h4, h5, h6, h7, h8, h9⟩ := hk
  have hf' : RowAt U w c.af c.nf v.fields.length 14 (fun i => fcell ((v.fields[i]?.map (·.1)).getD default) (fs.getD i default).2) := by
    rw [← hfl.1]
    refine hf.congr fun i hi j _ => ?_
    have hi' : i < v.fields.length := by rw [← hfl.1]; exact hi
    have := (hfl.2 i hi hi').1
    simp [List.getD_eq_getElem?_getD, hi, hi', this]
  refine .mk c v (fun i => els.getD i default) (fun i => (fs.getD i default).2) h0 h1 h2 h3 h4 h5 h6 h7 h8 h9 hb (by rw [← hel.1]; exact hl) (fun i h => ?_) hf' (fun i h => ?_)
  · have hi : i < els.length := by rw [hel.1]; exact h
    have := hel.2 i hi h
    simpa [List.getD_eq_getElem?_getD, hi] using this
  · have hi : i < fs.length := by rw [hfl.1]; exact h
    have := (hfl.2 i hi h).2
    simpa [List.getD_eq_getElem?_getD, hi] using this
theorem cell_grown {w2 w3 : World} {o : Obj} {r : Option Nat} {b : Nat} (hg : (w2.alloc o).grownBy w3 r) (hb : b < w2.heap.size) (hne : some b ≠ r) : ∀ j, w3.cell? ⟨b, j, none⟩ = w2.cell? ⟨b, j, none⟩ := by
  intro j
  have h1 : w3.heap[b]? = w2.heap[b]? := (hg.block b (by simp; omega) hne).trans (Below.heap_alloc _ _ _ hb)
  exact World.cell?_of_block (w := w2) (w' := w3) (a := ⟨b, j, none⟩) h1
theorem below_undrew {w w2 : World} (h : Below w.drew.heap.size w.drew w2) : Below w.heap.size w w2 := ⟨h.os, h.tape, h.output, h.size, h.block⟩
theorem Goes.setCell {U V : Nat → Prop} {a b : World} (h : Goes U V a b) {p : Addr} (hp : U p.block) (u : Value) : Goes U V a (b.setCell p u) :=
  ⟨fun i hi hu => (heap_setCell_other _ _ _ _ (fun e => hu (by rw [e]; exact hp))).trans (h.same i hi hu), h.less⟩

theorem bcell {W w1 : World} (hb : Below W.heap.size W w1) : (∀ b o, b < W.heap.size → w1.cell? ⟨b, o, none⟩ = W.cell? ⟨b, o, none⟩) ∧ (∀ b o, b < W.heap.size → w1.frozen? ⟨b, o, none⟩ = W.frozen? ⟨b, o, none⟩) :=
  ⟨fun b o h => hb.cell (p := ⟨b, o, none⟩) h, fun b o h => hb.frozen (p := ⟨b, o, none⟩) h⟩
end Go.Proofs.YtaeclmligojlaaaGreatDoor.D

/- UTF-8 in plain terms: the size of the first character of bytes, validity, and what a valid part of valid bytes leaves on both sides. Conditions: none. -/
namespace Go.Proofs.YtaeclmligojlaaaGreatDoor.D

def dsz : List UInt8 → Nat
  | [] => 0
  | a :: t =>
    if a.toNat < 128 then 1
    else if a.toNat < 192 then 0
    else if a.toNat < 224 then
      match t with
      | b :: _ => if b.toNat / 64 = 2 ∧ 128 ≤ (a.toNat - 192) * 64 + (b.toNat - 128) then 2 else 0
      | [] => 0
    else if a.toNat < 240 then
      match t with
      | b :: c :: _ => if b.toNat / 64 = 2 ∧ c.toNat / 64 = 2 ∧ 2048 ≤ (a.toNat - 224) * 4096 + (b.toNat - 128) * 64 + (c.toNat - 128) ∧ ((a.toNat - 224) * 4096 + (b.toNat - 128) * 64 + (c.toNat - 128) < 55296 ∨ 57343 < (a.toNat - 224) * 4096 + (b.toNat - 128) * 64 + (c.toNat - 128)) then 3 else 0
      | _ => 0
    else if a.toNat < 248 then
      match t with
      | b :: c :: d :: _ => if b.toNat / 64 = 2 ∧ c.toNat / 64 = 2 ∧ d.toNat / 64 = 2 ∧ 65536 ≤ (a.toNat - 240) * 262144 + (b.toNat - 128) * 4096 + (c.toNat - 128) * 64 + (d.toNat - 128) ∧ (a.toNat - 240) * 262144 + (b.toNat - 128) * 4096 + (c.toNat - 128) * 64 + (d.toNat - 128) ≤ 1114111 then 4 else 0
      | _ => 0
    else 0

theorem dsz_le (l : List UInt8) : dsz l ≤ l.length ∧ dsz l ≤ 4 := by
  unfold dsz
  split
  · simp
  · repeat' split
    all_goals simp only [List.length_cons]; omega

theorem dsz_append (l m : List UInt8) (h : dsz l ≠ 0) : dsz (l ++ m) = dsz l := by
  cases l with
  | nil => simp [dsz] at h
  | cons a t =>
    simp only [List.cons_append]
    unfold dsz at h ⊢
    simp only at h ⊢
    by_cases h1 : a.toNat < 128
    · simp [h1]
    by_cases h2 : a.toNat < 192
    · simp [h1, h2] at h
    by_cases h3 : a.toNat < 224
    · simp only [h1, h2, h3, if_true, if_false] at h ⊢
      match t, h with
      | b :: _, h => rfl
    by_cases h4 : a.toNat < 240
    · simp only [h1, h2, h3, h4, if_true, if_false] at h ⊢
      match t, h with
      | b :: c :: _, h => rfl
    by_cases h5 : a.toNat < 248
    · simp only [h1, h2, h3, h4, h5, if_true, if_false] at h ⊢
      match t, h with
      | b :: c :: d :: _, h => rfl
    simp [h1, h2, h3, h4, h5] at h

theorem dsz_prefix (p q : List UInt8) (h : dsz (p ++ q) ≠ 0) (hl : dsz (p ++ q) ≤ p.length) : dsz p = dsz (p ++ q) := by
  cases p with
  | nil => simp only [List.length_nil] at hl; omega
  | cons a t =>
    simp only [List.cons_append] at h hl ⊢
    revert h hl
    unfold dsz
    simp only
    by_cases h1 : a.toNat < 128
    · simp [h1]
    by_cases h2 : a.toNat < 192
    · simp [h1, h2]
    by_cases h3 : a.toNat < 224
    · simp only [h1, h2, h3, if_true, if_false]
      match t with
      | [] => intro h hl; simp only [List.nil_append, List.length_cons, List.length_nil] at h hl; split at hl <;> (try split at hl) <;> simp_all
      | b :: _ => intro _ _; rfl
    by_cases h4 : a.toNat < 240
    · simp only [h1, h2, h3, h4, if_true, if_false]
      match t with
      | [] => intro h hl; simp only [List.nil_append, List.length_cons, List.length_nil] at h hl; split at hl <;> (try split at hl) <;> simp_all
      | [b] => intro h hl; simp only [List.nil_append, List.cons_append, List.length_cons, List.length_nil] at h hl; split at hl <;> (try split at hl) <;> simp_all
      | b :: c :: _ => intro _ _; rfl
    by_cases h5 : a.toNat < 248
    · simp only [h1, h2, h3, h4, h5, if_true, if_false]
      match t with
      | [] => intro h hl; simp only [List.nil_append, List.length_cons, List.length_nil] at h hl; split at hl <;> (try split at hl) <;> simp_all
      | [b] => intro h hl; simp only [List.nil_append, List.cons_append, List.length_cons, List.length_nil] at h hl; split at hl <;> (try split at hl) <;> simp_all
      | [b, c] => intro h hl; simp only [List.nil_append, List.cons_append, List.length_cons, List.length_nil] at h hl; split at hl <;> (try split at hl) <;> simp_all
      | b :: c :: d :: _ => intro _ _; rfl
    simp [h1, h2, h3, h4, h5]

/-- Behind the first byte of a character stand continuation bytes; its first byte is none. -/
theorem dsz_cont (l : List UInt8) (j : Nat) (h0 : 1 ≤ j) (h : j < dsz l) : ∃ b, l[j]? = some b ∧ b.toNat / 64 = 2 := by
  cases l with
  | nil => simp [dsz] at h
  | cons a t =>
    unfold dsz at h
    simp only at h
    by_cases h1 : a.toNat < 128
    · simp only [h1, if_true] at h; omega
    by_cases h2 : a.toNat < 192
    · simp [h1, h2] at h
    by_cases h3 : a.toNat < 224
    · simp only [h1, h2, h3, if_true, if_false] at h
      match t, h with
      | [], h => simp at h
      | b :: _, h =>
        simp only at h
        split at h
        · rename_i hc
          obtain rfl : j = 1 := by omega
          exact ⟨b, rfl, hc.1⟩
        · omega
    by_cases h4 : a.toNat < 240
    · simp only [h1, h2, h3, h4, if_true, if_false] at h
      match t, h with
      | [], h => simp at h
      | [_], h => simp at h
      | b :: c :: _, h =>
        simp only at h
        split at h
        · rename_i hc
          obtain rfl | rfl : j = 1 ∨ j = 2 := by omega
          · exact ⟨b, rfl, hc.1⟩
          · exact ⟨c, rfl, hc.2.1⟩
        · omega
    by_cases h5 : a.toNat < 248
    · simp only [h1, h2, h3, h4, h5, if_true, if_false] at h
      match t, h with
      | [], h => simp at h
      | [_], h => simp at h
      | [_, _], h => simp at h
      | b :: c :: d :: _, h =>
        simp only at h
        split at h
        · rename_i hc
          obtain rfl | rfl | rfl : j = 1 ∨ j = 2 ∨ j = 3 := by omega
          · exact ⟨b, rfl, hc.1⟩
          · exact ⟨c, rfl, hc.2.1⟩
          · exact ⟨d, rfl, hc.2.2.1⟩
        · omega
    simp [h1, h2, h3, h4, h5] at h

theorem dsz_first (l : List UInt8) (h : dsz l ≠ 0) : ∃ a t, l = a :: t ∧ a.toNat / 64 ≠ 2 := by
  cases l with
  | nil => simp [dsz] at h
  | cons a t =>
    refine ⟨a, t, rfl, fun hc => ?_⟩
    unfold dsz at h
    simp only at h
    have h1 : ¬ a.toNat < 128 := by omega
    have h2 : a.toNat < 192 := by omega
    simp [h1, h2] at h

def vldF : Nat → List UInt8 → Bool
  | _, [] => true
  | 0, _ :: _ => false
  | k + 1, a :: t => dsz (a :: t) != 0 && vldF k ((a :: t).drop (dsz (a :: t)))
/-- Valid UTF-8. -/
def vld (l : List UInt8) : Bool := vldF l.length l

theorem vldF_eq : ∀ (k : Nat) (l : List UInt8), l.length ≤ k → vldF k l = vld l := by
  intro k
  induction k using Nat.strongRecOn with
  | _ k ih =>
    intro l hl
    cases l with
    | nil => cases k <;> rfl
    | cons a t =>
      cases k with
      | zero => simp at hl
      | succ k =>
        unfold vld
        simp only [List.length_cons, vldF]
        by_cases h0 : dsz (a :: t) = 0
        · simp [h0]
        · simp only [List.length_cons] at hl
          have hd : ((a :: t).drop (dsz (a :: t))).length ≤ t.length := by simp only [List.length_drop, List.length_cons]; omega
          rw [ih k (by omega) _ (by omega)]
          by_cases hk : t.length < k + 1
          · rw [ih t.length hk _ hd]
          · omega

theorem vld_nil : vld [] = true := rfl
theorem vld_step (l : List UInt8) (h : l ≠ []) : vld l = (dsz l != 0 && vld (l.drop (dsz l))) := by
  cases l with
  | nil => exact absurd rfl h
  | cons a t =>
    rw [← vldF_eq ((a :: t).length) _ (Nat.le_refl _)]
    simp only [List.length_cons, vldF]
    by_cases h0 : dsz (a :: t) = 0
    · simp [h0]
    · rw [vldF_eq t.length _ (by simp only [List.length_drop, List.length_cons]; omega)]

theorem vld_append : ∀ (n : Nat) (a b : List UInt8), a.length ≤ n → vld a = true → vld (a ++ b) = vld b := by
  intro n
  induction n with
  | zero => intro a b hn _; obtain rfl : a = [] := List.length_eq_zero_iff.1 (by omega); rfl
  | succ n ih =>
    intro a b hn h
    by_cases ha : a = []
    · subst ha; rfl
    · rw [vld_step a ha] at h
      simp only [Bool.and_eq_true, bne_iff_ne, ne_eq] at h
      have hle := dsz_le a
      rw [vld_step (a ++ b) (by simp [ha]), dsz_append a b h.1, List.drop_append_of_le_length hle.1]
      have hd : (a.drop (dsz a)).length ≤ n := by simp only [List.length_drop]; omega
      rw [ih _ b hd h.2]
      simp [h.1]

theorem vld_and (a b : List UInt8) (ha : vld a = true) (hb : vld b = true) : vld (a ++ b) = true := by rw [vld_append _ a b (Nat.le_refl _) ha, hb]

/-- A valid part, not empty, of valid bytes leaves valid bytes on both sides. -/
theorem vld_cut : ∀ (n : Nat) (p b q : List UInt8), p.length ≤ n → b ≠ [] → vld b = true → vld (p ++ (b ++ q)) = true → vld p = true ∧ vld q = true := by
  intro n
  induction n with
  | zero =>
    intro p b q hn _ hb h
    obtain rfl : p = [] := List.length_eq_zero_iff.1 (by omega)
    exact ⟨rfl, by rw [List.nil_append, vld_append _ b q (Nat.le_refl _) hb] at h; exact h⟩
  | succ n ih =>
    intro p b q hn hne hb h
    by_cases hp : p = []
    · subst hp; exact ⟨rfl, by rw [List.nil_append, vld_append _ b q (Nat.le_refl _) hb] at h; exact h⟩
    · rw [vld_step _ (by simp [hp])] at h
      simp only [Bool.and_eq_true, bne_iff_ne, ne_eq] at h
      obtain ⟨h0, h1⟩ := h
      by_cases hle : dsz (p ++ (b ++ q)) ≤ p.length
      · have hd := dsz_prefix p (b ++ q) h0 hle
        rw [← hd] at h0 h1 hle
        rw [List.drop_append_of_le_length hle] at h1
        obtain ⟨h2, h3⟩ := ih (p.drop (dsz p)) b q (by simp only [List.length_drop]; omega) hne hb h1
        refine ⟨?_, h3⟩
        rw [vld_step p hp]
        simp [h0, h2]
      · exfalso
        have hpl : 1 ≤ p.length := by cases p with | nil => exact absurd rfl hp | cons => simp
        obtain ⟨c, hc, hc2⟩ := dsz_cont (p ++ (b ++ q)) p.length hpl (by omega)
        rw [vld_step b hne] at hb
        simp only [Bool.and_eq_true, bne_iff_ne, ne_eq] at hb
        obtain ⟨a, t, rfl, ha⟩ := dsz_first b hb.1
        rw [List.getElem?_append_right (Nat.le_refl _)] at hc
        simp at hc
        subst hc
        exact ha hc2
end Go.Proofs.YtaeclmligojlaaaGreatDoor.D

/- strings.Split's pieces: joined again they are the string; if the string and the separator are valid UTF-8, so is each piece. Conditions: the separator is not empty. -/
namespace Go.Proofs.YtaeclmligojlaaaGreatDoor.D

theorem isPrefix_eq : ∀ (p s : List UInt8), p.isPrefixOf s = true → s = p ++ s.drop p.length
  | [], s, _ => by simp
  | a :: p, [], h => by simp at h
  | a :: p, b :: s, h => by
    simp only [List.isPrefixOf, Bool.and_eq_true, beq_iff_eq] at h
    obtain ⟨rfl, h⟩ := h
    have := isPrefix_eq p s h
    simp only [List.length_cons, List.drop_succ_cons, List.cons_append]
    rw [← this]
theorem index_cut : ∀ (s sep : List UInt8) (i : Nat), Lib.index s sep = i → s = s.take i ++ (sep ++ s.drop (i + sep.length))
  | [], sep, i, h => by
    unfold Lib.index at h
    split at h
    · have : i = 0 := by omega
      subst this
      have : sep = [] := by simpa using ‹sep.isEmpty = true›
      subst this
      rfl
    · omega
  | b :: l, sep, i, h => by
    unfold Lib.index at h
    split at h
    · have : i = 0 := by omega
      subst this
      have := isPrefix_eq _ _ ‹sep.isPrefixOf (b :: l) = true›
      simpa using this
    · split at h
      · omega
      · have h' : Lib.index l sep = ((i - 1 : Nat) : Int) := by
          have := Lib.index_ge l sep
          have h3 : ¬ Lib.index l sep = -1 := by simpa using ‹¬ (Lib.index l sep == -1) = true›
          omega
        have h3 : 1 ≤ i := by
          have := Lib.index_ge l sep
          have h3 : ¬ Lib.index l sep = -1 := by simpa using ‹¬ (Lib.index l sep == -1) = true›
          omega
        have := index_cut l sep (i - 1) h'
        obtain ⟨j, rfl⟩ : ∃ j, i = j + 1 := ⟨i - 1, by omega⟩
        simp only [Nat.add_sub_cancel] at this
        rw [List.take_succ_cons, show j + 1 + sep.length = (j + sep.length) + 1 by omega, List.drop_succ_cons, List.cons_append, ← this]
theorem split_join (sep : List UInt8) : ∀ (k : Nat) (s : List UInt8), Lib.join (Lib.splitK sep 0 k s) sep = s
  | 0, s => by simp [Lib.splitK, Lib.join_one]
  | k + 1, s => by
    unfold Lib.splitK
    split
    · rw [Lib.join_one]
    · have h3 : ¬ Lib.index s sep = -1 := by simpa using ‹¬ (Lib.index s sep == -1) = true›
      have h4 := Lib.index_ge s sep
      have hi := index_cut s sep (Lib.index s sep).toNat (by omega)
      have ih := split_join sep k (s.drop ((Lib.index s sep).toNat + sep.length))
      have hne : ∃ y r, Lib.splitK sep 0 k (s.drop ((Lib.index s sep).toNat + sep.length)) = y :: r := by
        cases k with
        | zero => exact ⟨_, _, rfl⟩
        | succ k => unfold Lib.splitK; split <;> exact ⟨_, _, rfl⟩
      obtain ⟨y, r, hyr⟩ := hne
      rw [hyr] at ih ⊢
      rw [Lib.join_cons] at ih ⊢
      rw [Nat.add_zero]
      conv => rhs; rw [hi]
      rw [← ih]
      simp [Lib.joinTail]
theorem split_vld (sep : List UInt8) (h0 : sep ≠ []) (hv : vld sep = true) : ∀ (k : Nat) (s : List UInt8), vld s = true → ∀ x ∈ Lib.splitK sep 0 k s, vld x = true
  | 0, s, h => by intro x hx; simp only [Lib.splitK, List.mem_singleton] at hx; rw [hx]; exact h
  | k + 1, s, h => by
    intro x hx
    unfold Lib.splitK at hx
    split at hx
    · rw [List.mem_singleton.1 hx]; exact h
    · have h3 : ¬ Lib.index s sep = -1 := by simpa using ‹¬ (Lib.index s sep == -1) = true›
      have h4 := Lib.index_ge s sep
      have hi := index_cut s sep (Lib.index s sep).toNat (by omega)
      rw [hi] at h
      obtain ⟨h1, h2⟩ := vld_cut _ _ sep _ (Nat.le_refl _) h0 hv h
      rcases List.mem_cons.1 hx with hx | hx
      · rw [hx, Nat.add_zero]; exact h1
      · exact split_vld sep h0 hv k _ h2 x hx
theorem split_len (sep : List UInt8) : ∀ (k : Nat) (s : List UInt8), ∀ x ∈ Lib.splitK sep 0 k s, x.length ≤ s.length
  | 0, s => by intro x hx; simp only [Lib.splitK, List.mem_singleton] at hx; rw [hx]; exact Nat.le_refl _
  | k + 1, s => by
    intro x hx
    unfold Lib.splitK at hx
    split at hx
    · rw [List.mem_singleton.1 hx]; exact Nat.le_refl _
    · rcases List.mem_cons.1 hx with hx | hx
      · rw [hx]; simp only [List.length_take]; omega
      · have := split_len sep k _ x hx
        simp only [List.length_drop] at this
        omega
end Go.Proofs.YtaeclmligojlaaaGreatDoor.D
