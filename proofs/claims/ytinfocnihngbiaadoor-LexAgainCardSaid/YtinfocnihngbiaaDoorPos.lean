/- Places in a text: what a place is, and that the document's place and End tell it. No condition but that the text is no longer than an int tells. -/
import Derived.RangeFuncNested
import Derived.RangeFuncBound
import Derived.RangeFuncCalls
import Derived.RangeFuncLeaves
import Derived.RangeFuncFrom
import Derived.RangeFuncBox
import Derived.Shelf.Abstract
import Derived.Shelf.RegionOpen
import Derived.WalkKit
import Derived.OwnWalkIn
import Derived.TacticsInMore
import Derived.LoopNIn
import Derived.LoopIn
import Derived.Lib.Hide
import Derived.Deep.QuietTactic
import Derived.BigQuiet
import Derived.Deep.RegionHeld3
import Derived.Outline
import Derived.WalkSmall
import Derived.Test.YtinfocnihngbiaaDoorProg
import Derived.Handy
import Derived.Below
namespace Go.Proofs.YtinfocnihngbiaaDoor
open Go.RowKit

/-- A place, one byte on. -/
def adv (p : Int × Int) (c : UInt8) : Int × Int := if c = 10 then (p.1 + 1, 1) else (p.1, p.2 + 1)
/-- The byte at a place of a text. -/
def byte (s : ByteArray) (k : Nat) : UInt8 := s.data.toList.getD k 0
/-- The place of byte k of a text. -/
def posAt (s : ByteArray) : Nat → Int × Int
  | 0 => (1, 1)
  | k + 1 => adv (posAt s k) (byte s k)
theorem posAt_le (s : ByteArray) (k : Nat) : 1 ≤ (posAt s k).1 ∧ (posAt s k).1 ≤ k + 1 ∧ 1 ≤ (posAt s k).2 ∧ (posAt s k).2 ≤ k + 1 := by
  induction k with
  | zero => simp [posAt]
  | succ k ih =>
    simp only [posAt, adv]
    split
    · simp only []; omega
    · simp only []; omega
theorem byte_at {s : ByteArray} {k : Nat} (h : k < s.size) : s[k] = byte s k := by
  unfold byte
  rw [List.getD_eq_getElem?_getD, Array.getElem?_toList]
  have h' : k < s.data.size := h
  rw [Array.getElem?_eq_getElem h']
  rfl

/-- Block b holds a place. -/
def Ps (w : World) (b : Nat) (p : Int × Int) : Prop := w.heap[b]? = some (.cells #[.int .i64 p.1, .int .i64 p.2] 25 (0, 0))
theorem Ps.lt {w : World} {b : Nat} {p : Int × Int} (h : Ps w b p) : b < w.heap.size := (Array.getElem?_eq_some_iff.1 h).1
theorem Ps.c0 {w : World} {b : Nat} {p : Int × Int} (h : Ps w b p) : w.cell? ⟨b, 0, none⟩ = some (.int .i64 p.1) := by
  unfold Ps at h
  simp [World.cell?, h]
theorem Ps.c1 {w : World} {b : Nat} {p : Int × Int} (h : Ps w b p) : w.cell? ⟨b, 1, none⟩ = some (.int .i64 p.2) := by
  unfold Ps at h
  simp [World.cell?, h]
theorem Ps.frozen {w : World} {b : Nat} {p : Int × Int} (h : Ps w b p) (k : Nat) : w.frozen? ⟨b, k, none⟩ = false := by
  unfold Ps at h
  simp [World.frozen?, h]
theorem Ps.set0 {w : World} {b : Nat} {p : Int × Int} (h : Ps w b p) (x : Int) : Ps (w.setCell ⟨b, 0, none⟩ (.int .i64 x)) b (x, p.2) := by
  have hlt := h.lt
  have h' : w.heap[b] = .cells #[.int .i64 p.1, .int .i64 p.2] 25 (0, 0) := by
    unfold Ps at h
    simpa [Array.getElem?_eq_getElem hlt] using h
  show (w.heap.modify b _)[b]? = _
  rw [Array.getElem?_eq_getElem (by simpa using hlt), Array.getElem_modify_self, h']
  simp
theorem Ps.set1 {w : World} {b : Nat} {p : Int × Int} (h : Ps w b p) (x : Int) : Ps (w.setCell ⟨b, 1, none⟩ (.int .i64 x)) b (p.1, x) := by
  have hlt := h.lt
  have h' : w.heap[b] = .cells #[.int .i64 p.1, .int .i64 p.2] 25 (0, 0) := by
    unfold Ps at h
    simpa [Array.getElem?_eq_getElem hlt] using h
  show (w.heap.modify b _)[b]? = _
  rw [Array.getElem?_eq_getElem (by simpa using hlt), Array.getElem_modify_self, h']
  simp
theorem Ps.other {w : World} {b b' : Nat} {p : Int × Int} (h : Ps w b p) (hne : b ≠ b') (k : Nat) (u : Value) : Ps (w.setCell ⟨b', k, none⟩ u) b p := (Below.heap_setCell w ⟨b', k, none⟩ u b hne).trans h
theorem Ps.alloc {w : World} {b : Nat} {p : Int × Int} (h : Ps w b p) (o : Obj) : Ps (w.alloc o) b p := ((World.grownBy_alloc w o none).block b h.lt (by simp)).trans h
theorem Ps.below {w w' : World} {B b : Nat} {p : Int × Int} (h : Ps w b p) (hb : Below B w w') (hlt : b < B) : Ps w' b p := (hb.block b hlt).trans h

theorem end_p25 {fn : Func} {R : Ending → World → Prop} {act : Act} {W : World} {b : Nat} {s : Tmp} {p : Int × Int} (h : Ps W b p) (hres : fn.results = #[.cell s 25])
    (hs : act.tmps.getD s undef = .pointer (some ⟨b, 0, none⟩)) (hd : act.defers = []) (hR : R (.returned (.agg #[.int .i64 p.1, .int .i64 p.2])) W) : bodyPost Tryd.prog fn R .ret act W := by
  have e0 := h.c0
  have e1 := h.c1
  have hs' : act.tmps[s]?.getD undef = .pointer (some ⟨b, 0, none⟩) := by rw [← hs]; simp
  refine bodyPost_ret (v := .agg #[.int .i64 p.1, .int .i64 p.2]) ?_ hd hR
  simp [results, hres, go_sem, hs', e0, e1]

set_option maxHeartbeats 2000000 in
theorem place_any (s : ByteArray) (k : Nat) (w : World) (hk : k ≤ s.size) (hs : s.size ≤ 4294967296) :
    Calls Tryd.prog 28 #[.string s, .int .i64 (k : Int)] w fun e w' => e = .returned (.agg #[.int .i64 (posAt s k).1, .int .i64 (posAt s k).2]) ∧ Below w.heap.size w w' := by
  have hB : Below w.heap.size w ((w.alloc (.cells #[.int .i64 0, .int .i64 0] 25)).alloc (.cells #[.int .i64 1, .int .i64 1] 25)) := ((Below.refl _ w).alloc (Nat.le_refl _) _).alloc (by simp) _
  have hA : Ps ((w.alloc (.cells #[.int .i64 0, .int .i64 0] 25)).alloc (.cells #[.int .i64 1, .int .i64 1] 25)) w.heap.size (0, 0) := by
    have h : Ps (w.alloc (.cells #[.int .i64 0, .int .i64 0] 25)) w.heap.size (0, 0) := World.alloc_heap_new _ _
    exact h.alloc _
  have hP : Ps ((w.alloc (.cells #[.int .i64 0, .int .i64 0] 25)).alloc (.cells #[.int .i64 1, .int .i64 1] 25)) (w.heap.size + 1) (posAt s 0) := by
    have h : Ps ((w.alloc (.cells #[.int .i64 0, .int .i64 0] 25)).alloc (.cells #[.int .i64 1, .int .i64 1] 25)) (w.alloc (.cells #[.int .i64 0, .int .i64 0] 25)).heap.size (1, 1) := World.alloc_heap_new _ _
    rw [World.size_alloc] at h
    exact h
  go_enter Tryd.func28, Tryd.ntmps28
  go_wp2_with fail
  change Code.wp _ _ _ _ ((w.alloc (.cells #[.int .i64 0, .int .i64 0] 25)).alloc (.cells #[.int .i64 1, .int .i64 1] 25))
  generalize (w.alloc (.cells #[.int .i64 0, .int .i64 0] 25)).alloc (.cells #[.int .i64 1, .int .i64 1] 25) = W0 at *
  go_loopw [6] (fun i wr => ∃ j : Nat, j ≤ k ∧ i = .int .i64 j ∧ Below w.heap.size w wr ∧ Ps wr w.heap.size (0, 0) ∧ Ps wr (w.heap.size + 1) (posAt s j)) (fun i _ => k - (intOf i).toNat)
  case atStart => exact ⟨0, by omega, rfl, hB, hA, hP⟩
  case round =>
    clear hB hA hP
    obtain ⟨j, hj, rfl, hB, hA, hP⟩ := hrel
    have c0 := hP.c0
    have c1 := hP.c1
    have f0 := hP.frozen 0
    have f1 := hP.frozen 1
    by_cases hjk : j < k
    · have hz : (j : Int) < (k : Int) := by omega
      have hsz : j < s.size := by omega
      have hzz : (j : Int) < (s.size : Int) := by omega
      have hbt := byte_at hsz
      have hle := posAt_le s j
      obtain ⟨c, hc⟩ : ∃ c, byte s j = c := ⟨_, rfl⟩
      rw [hc] at hbt
      have h1 : ¬ (posAt s j).2 + 1 > 9223372036854775807 := by omega
      obtain ⟨l, hl⟩ : ∃ l, (posAt s j).1 = l := ⟨_, rfl⟩
      obtain ⟨q, hq⟩ : ∃ q, (posAt s j).2 = q := ⟨_, rfl⟩
      have hnext : posAt s (j + 1) = adv (l, q) c := by simp only [posAt, hc]; rw [← hl, ← hq]
      have HX := Lib.hid hnext
      rw [hl, hq] at hle
      rw [hl] at c0
      rw [hq] at c1
      clear hnext h1 hc
      have HP : Hid (Ps wr (w.heap.size + 1) (l, q)) := by
        have h : Ps wr (w.heap.size + 1) ((posAt s j).1, (posAt s j).2) := hP
        rw [hl, hq] at h
        exact h
      clear hl hq
      by_cases h10 : c = 10
      · subst h10
        go_wp2
        go_roundw
        case rel =>
          refine ⟨j + 1, by omega, by go_num, ?_, ?_, ?_⟩
          · exact ((hB.setCell (p := ⟨w.heap.size + 1, 1, none⟩) (Nat.le_succ _) _).setCell (p := ⟨w.heap.size + 1, 0, none⟩) (Nat.le_succ _) _).setCell (p := ⟨w.heap.size + 1, 1, none⟩) (Nat.le_succ _) _
          · exact ((hA.other (by omega) _ _).other (by omega) _ _).other (by omega) _ _
          · rw [HX.out]
            exact ((HP.out.set1 (q + 1)).set0 (l + 1)).set1 1
        case measure => simp [intOf]; omega
      · have hne : ((c.toNat : Int) == 10) = false := by
          rw [beq_eq_false_iff_ne]
          intro h
          have h' : c.toNat = 10 := by omega
          exact h10 (UInt8.toNat_inj.1 (by simpa using h'))
        go_wp2
        go_roundw
        case rel =>
          refine ⟨j + 1, by omega, by go_num, ?_, ?_, ?_⟩
          · exact hB.setCell (p := ⟨w.heap.size + 1, 1, none⟩) (Nat.le_succ _) _
          · exact hA.other (by omega) _ _
          · rw [HX.out, show adv (l, q) c = (l, q + 1) by simp only [adv, if_neg h10]]
            exact HP.out.set1 (q + 1)
        case measure => simp [intOf]; omega
    · obtain rfl : j = k := by omega
      have a0 := hA.c0
      have a1 := hA.c1
      have g0 := hA.frozen 0
      have g1 := hA.frozen 1
      go_wp2
      refine end_p25 ((hA.set0 (posAt s j).1).set1 (posAt s j).2) rfl rfl rfl ?_
      exact ⟨rfl, (hB.setCell (p := ⟨w.heap.size, 0, none⟩) (Nat.le_refl _) _).setCell (p := ⟨w.heap.size, 1, none⟩) (Nat.le_refl _) _⟩

set_option maxHeartbeats 1000000 in
/-- The document's End. -/
theorem rend_any (s : ByteArray) (w : World) (hs : s.size ≤ 4294967296) :
    Calls Tryd.prog 18 #[.string s] w fun e w' => e = .returned (.agg #[.int .i64 (posAt s s.size).1, .int .i64 (posAt s s.size).2]) ∧ Below w.heap.size w w' := by
  have hA : Ps (w.alloc (.cells #[.int .i64 0, .int .i64 0] 25)) w.heap.size (0, 0) := World.alloc_heap_new _ _
  have hB : Below w.heap.size w (w.alloc (.cells #[.int .i64 0, .int .i64 0] 25)) := (Below.refl _ w).alloc (Nat.le_refl _) _
  go_enter Tryd.func18, Tryd.ntmps18
  go_wp2_with fail
  change Calls _ _ _ (w.alloc (.cells #[.int .i64 0, .int .i64 0] 25)) _
  generalize w.alloc (.cells #[.int .i64 0, .int .i64 0] 25) = W0 at *
  refine (place_any s s.size W0 (Nat.le_refl _) hs).mono ?_
  rintro e w1 ⟨rfl, hb⟩
  have hA1 := hA.below hb hA.lt
  have hB1 := hB.trans (hb.mono hB.size)
  clear hA hb
  have a0 := hA1.c0
  have a1 := hA1.c1
  have g0 := hA1.frozen 0
  have g1 := hA1.frozen 1
  go_wp2
  refine end_p25 ((hA1.set0 (posAt s s.size).1).set1 (posAt s s.size).2) rfl rfl rfl ?_
  exact ⟨rfl, (hB1.setCell (p := ⟨w.heap.size, 0, none⟩) (Nat.le_refl _) _).setCell (p := ⟨w.heap.size, 1, none⟩) (Nat.le_refl _) _⟩
end Go.Proofs.YtinfocnihngbiaaDoor
