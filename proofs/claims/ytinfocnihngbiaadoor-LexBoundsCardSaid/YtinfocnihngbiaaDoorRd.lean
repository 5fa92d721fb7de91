/- A reader in memory; the bytes that are such, from a place on; a byte's kinds, by both. No condition but that the reader lies. -/
import Derived.Test.YtinfocnihngbiaaDoorRound2
namespace Go.Proofs.YtinfocnihngbiaaDoor
open Go.RowKit

theorem nesome {a b : Nat} (h : a ≠ b) : some a ≠ some b := fun e => h (Option.some.inj e)
/-- Of what was there nothing is written but blocks a and b. -/
structure Kp (w w' : World) (a b : Nat) : Prop where
  os : w'.os = w.os
  tape : w'.tape = w.tape
  output : w'.output = w.output
  size : w.heap.size ≤ w'.heap.size
  block : ∀ k, k < w.heap.size → k ≠ a → k ≠ b → w'.heap[k]? = w.heap[k]?
theorem Kp.refl (w : World) (a b : Nat) : Kp w w a b := ⟨rfl, rfl, rfl, Nat.le_refl _, fun _ _ _ _ => rfl⟩
theorem Kp.trans {w w1 w2 : World} {a b : Nat} (h : Kp w w1 a b) (h' : Kp w1 w2 a b) : Kp w w2 a b :=
  ⟨h'.os.trans h.os, h'.tape.trans h.tape, h'.output.trans h.output, Nat.le_trans h.size h'.size, fun k hk h1 h2 => (h'.block k (Nat.lt_of_lt_of_le hk h.size) h1 h2).trans (h.block k hk h1 h2)⟩
theorem Kp.drew {w w' : World} {a b : Nat} (h : Kp w w' a b) : Kp w w'.drew a b := ⟨h.os, h.tape, h.output, h.size, h.block⟩
theorem Kp.setA {w w' : World} {a b : Nat} (h : Kp w w' a b) (k : Nat) (u : Value) : Kp w (w'.setCell ⟨a, k, none⟩ u) a b :=
  ⟨h.os, h.tape, h.output, by simpa [World.setCell] using h.size, fun j hj h1 h2 => (Below.heap_setCell w' ⟨a, k, none⟩ u j h1).trans (h.block j hj h1 h2)⟩
theorem Kp.below {w w' : World} {a b : Nat} (h : Below w.heap.size w w') : Kp w w' a b := ⟨h.os, h.tape, h.output, h.size, fun k hk _ _ => h.block k hk⟩
theorem Kp.to_below {w0 w w' : World} {B a b : Nat} (h : Kp w w' a b) (h0 : Below B w0 w) (hB : B ≤ w.heap.size) (h1 : B ≤ a) (h2 : B ≤ b) : Below B w0 w' :=
  h0.trans ⟨h.os, h.tape, h.output, h.size, fun k hk => h.block k (by omega) (by omega) (by omega)⟩

/-- Where the bytes that are such end, from byte k on. -/
def endOf (f : UInt8 → Bool) (s : ByteArray) (k : Nat) : Nat := k + ((s.data.toList.drop k).takeWhile f).length
theorem size_list (s : ByteArray) : s.data.toList.length = s.size := Array.length_toList
theorem drop_byte {s : ByteArray} {k : Nat} (h : k < s.size) : s.data.toList.drop k = byte s k :: s.data.toList.drop (k + 1) := by
  have h' : k < s.data.toList.length := by rw [size_list]; exact h
  rw [List.drop_eq_getElem_cons h']
  unfold byte
  rw [List.getD_eq_getElem?_getD, List.getElem?_eq_getElem h']
  rfl
theorem endOf_yes {f : UInt8 → Bool} {s : ByteArray} {k : Nat} (h : k < s.size) (hf : f (byte s k) = true) : endOf f s (k + 1) = endOf f s k := by
  unfold endOf
  rw [drop_byte h, List.takeWhile_cons_of_pos hf, List.length_cons]
  omega
theorem endOf_no {f : UInt8 → Bool} {s : ByteArray} {k : Nat} (h : k < s.size) (hf : f (byte s k) = false) : endOf f s k = k := by
  unfold endOf
  rw [drop_byte h, List.takeWhile_cons_of_neg (by simp [hf])]
  simp
theorem endOf_end {f : UInt8 → Bool} {s : ByteArray} {k : Nat} (h : s.size ≤ k) : endOf f s k = k := by
  unfold endOf
  rw [List.drop_eq_nil_of_le (by rw [size_list]; exact h)]
  rfl
theorem endOf_le {f : UInt8 → Bool} {s : ByteArray} {k : Nat} (h : k ≤ s.size) : k ≤ endOf f s k ∧ endOf f s k ≤ s.size := by
  unfold endOf
  have h1 : ((s.data.toList.drop k).takeWhile f).length ≤ (s.data.toList.drop k).length := (List.takeWhile_prefix f).length_le
  rw [List.length_drop, size_list] at h1
  omega

/-- Block b is a reader of s, k bytes on. -/
def Rd (w : World) (b : Nat) (s : ByteArray) (k : Nat) (kw sg : Value) : Prop :=
  w.heap[b]? = some (.cells #[.int .i64 (posAt s k).1, .int .i64 (posAt s k).2, .string s, .int .i64 (k : Int), kw, sg] 52 (0, 0))
theorem Rd.lt {w : World} {b k : Nat} {s : ByteArray} {kw sg : Value} (h : Rd w b s k kw sg) : b < w.heap.size := (Array.getElem?_eq_some_iff.1 h).1
theorem Rd.of {w w' : World} {b k : Nat} {s : ByteArray} {kw sg : Value} (h : Rd w b s k kw sg) (he : w'.heap[b]? = w.heap[b]?) : Rd w' b s k kw sg := he.trans h
theorem Rd.drew {w : World} {b k : Nat} {s : ByteArray} {kw sg : Value} (h : Rd w b s k kw sg) : Rd w.drew b s k kw sg := h
theorem Rd.belowS {w w' : World} {b k : Nat} {s : ByteArray} {kw sg : Value} (h : Rd w b s k kw sg) (hb : Below w.heap.size w w') : Rd w' b s k kw sg := h.of (hb.block b h.lt)
theorem Rd.alloc {w : World} {b k : Nat} {s : ByteArray} {kw sg : Value} (h : Rd w b s k kw sg) (o : Obj) : Rd (w.alloc o) b s k kw sg := h.of ((World.grownBy_alloc w o none).block b h.lt (by simp))
theorem Rd.c0 {w : World} {b k : Nat} {s : ByteArray} {kw sg : Value} (h : Rd w b s k kw sg) : w.cell? ⟨b, 0, none⟩ = some (.int .i64 (posAt s k).1) := by unfold Rd at h; simp [World.cell?, h]
theorem Rd.c1 {w : World} {b k : Nat} {s : ByteArray} {kw sg : Value} (h : Rd w b s k kw sg) : w.cell? ⟨b, 1, none⟩ = some (.int .i64 (posAt s k).2) := by unfold Rd at h; simp [World.cell?, h]
theorem Rd.c2 {w : World} {b k : Nat} {s : ByteArray} {kw sg : Value} (h : Rd w b s k kw sg) : w.cell? ⟨b, 2, none⟩ = some (.string s) := by unfold Rd at h; simp [World.cell?, h]
theorem Rd.c3 {w : World} {b k : Nat} {s : ByteArray} {kw sg : Value} (h : Rd w b s k kw sg) : w.cell? ⟨b, 3, none⟩ = some (.int .i64 (k : Int)) := by unfold Rd at h; simp [World.cell?, h]
theorem Rd.c4 {w : World} {b k : Nat} {s : ByteArray} {kw sg : Value} (h : Rd w b s k kw sg) : w.cell? ⟨b, 4, none⟩ = some kw := by unfold Rd at h; simp [World.cell?, h]
theorem Rd.c5 {w : World} {b k : Nat} {s : ByteArray} {kw sg : Value} (h : Rd w b s k kw sg) : w.cell? ⟨b, 5, none⟩ = some sg := by unfold Rd at h; simp [World.cell?, h]
theorem Rd.frozen {w : World} {b k : Nat} {s : ByteArray} {kw sg : Value} (h : Rd w b s k kw sg) (j : Nat) : w.frozen? ⟨b, j, none⟩ = false := by unfold Rd at h; simp [World.frozen?, h]

theorem heap_set {w : World} {b j : Nat} {cs : Array Value} {t : TypeId} (h : w.heap[b]? = some (.cells cs t (0, 0))) (u : Value) : (w.setCell ⟨b, j, none⟩ u).heap[b]? = some (.cells (cs.setIfInBounds j u) t (0, 0)) := by
  have hlt := (Array.getElem?_eq_some_iff.1 h).1
  have h' : w.heap[b] = .cells cs t (0, 0) := by simpa [Array.getElem?_eq_getElem hlt] using h
  show (w.heap.modify b _)[b]? = _
  rw [Array.getElem?_eq_getElem (by simpa using hlt), Array.getElem_modify_self, h']
  simp
/-- One byte on, which is no new line. -/
theorem Rd.col {w : World} {b k : Nat} {s : ByteArray} {kw sg : Value} (h : Rd w b s k kw sg) (hc : byte s k ≠ 10) :
    Rd ((w.setCell ⟨b, 1, none⟩ (.int .i64 ((posAt s k).2 + 1))).setCell ⟨b, 3, none⟩ (.int .i64 ((k : Int) + 1))) b s (k + 1) kw sg := by
  have h2 := heap_set (j := 3) (heap_set (j := 1) h (.int .i64 ((posAt s k).2 + 1))) (.int .i64 ((k : Int) + 1))
  unfold Rd
  rw [h2]
  simp [posAt, adv, hc]
/-- One byte on, which is a new line. -/
theorem Rd.line {w : World} {b k : Nat} {s : ByteArray} {kw sg : Value} (h : Rd w b s k kw sg) (hc : byte s k = 10) :
    Rd (((w.setCell ⟨b, 0, none⟩ (.int .i64 ((posAt s k).1 + 1))).setCell ⟨b, 1, none⟩ (.int .i64 1)).setCell ⟨b, 3, none⟩ (.int .i64 ((k : Int) + 1))) b s (k + 1) kw sg := by
  have h2 := heap_set (j := 3) (heap_set (j := 1) (heap_set (j := 0) h (.int .i64 ((posAt s k).1 + 1))) (.int .i64 1)) (.int .i64 ((k : Int) + 1))
  unfold Rd
  rw [h2]
  simp [posAt, adv, hc]

def isLet (c : UInt8) : Bool := decide (97 ≤ c.toNat) && decide (c.toNat ≤ 122)
def isDig (c : UInt8) : Bool := decide (48 ≤ c.toNat) && decide (c.toNat ≤ 57)
def isBl (c : UInt8) : Bool := c.toNat == 32 || c.toNat == 9 || c.toNat == 13 || c.toNat == 10
end Go.Proofs.YtinfocnihngbiaaDoor
