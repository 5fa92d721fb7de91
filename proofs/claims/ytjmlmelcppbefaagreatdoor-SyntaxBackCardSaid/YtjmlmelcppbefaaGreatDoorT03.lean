/- What the syntax texts share, part 3. No condition. -/
import Derived.Maps.Own
import Derived.Maps.OwnOps
import Derived.Maps.Views
import Derived.WalkArith
import Derived.StringKeys
import Derived.Test.YtjmlmelcppbefaaGreatDoorT01
namespace Go.Proofs.YtjmlmelcppbefaaGreatDoor
open Go.RowKit Go.Maps
theorem law : Keyed Tryz.prog 9 := string_keyed Tryz.underlying9
theorem zero3 (w : World) : (zeroValue 3).run Tryz.prog w = .ok (.int .i64 0) w := by kernel_rfl
def keyAt (ss : List ByteArray) (k : Nat) : Lit := .string (ss.getD k ByteArray.empty).data.toList
def Lst (ss : List ByteArray) : Nat → DataW Unit
 | 0 => .map []
 | k + 1 => (Lst ss k).put (keyAt ss k) (.lit (.int .i64 ((k : Int) + 1)))
def lastOf (ss : List ByteArray) (t : List UInt8) : Nat → Int
 | 0 => 0
 | k + 1 => if (ss.getD k ByteArray.empty).data.toList = t then (k : Int) + 1 else lastOf ss t k
theorem run_made (w : World) (n : Int) : (Instr.makeMap 124 (some (.int .i64 n))).run Tryz.prog w = .ok (.map (some w.heap.size)) (w.alloc (.map #[] 0)) := by
 simp [Instr.makeMap, run_underlying Tryz.underlying124, asInt, asIntOf, Result.andThen]
theorem lst_map (ss : List ByteArray) (k : Nat) : IsMap (Lst ss k) := by
 induction k with
 | zero => exact ⟨[], rfl⟩
 | succ k ih => exact ih.put _ _
theorem lst_at (ss : List ByteArray) (t : List UInt8) (k : Nat) : (Lst ss k).atKey (.string t) (.lit (.int .i64 0)) = .lit (.int .i64 (lastOf ss t k)) := by
 induction k with
 | zero => rfl
 | succ k ih =>
  unfold Lst lastOf
  by_cases h : (ss.getD k ByteArray.empty).data.toList = t
  ·rw [if_pos h]
   have e : keyAt ss k = .string t := by unfold keyAt; rw [h]
   rw [e]
   exact atKey_put_same (lst_map ss k) (show WideAt.IsKeyLit (.string t) from trivial) _ _
  ·rw [if_neg h, atKey_put_other (fun e => h (by unfold keyAt at e; simpa using e.symm)) _ _]
   exact ih
def Txts (w : World) (b : Nat) (ss : List ByteArray) : Prop := w.heap[b]? = some (.cells (ss.map Value.string).toArray 9 (0, 0))
theorem Txts.lt {w : World} {b : Nat} {ss : List ByteArray} (h : Txts w b ss) : b < w.heap.size := (Array.getElem?_eq_some_iff.1 h).1
theorem Txts.of {w w' : World} {b : Nat} {ss : List ByteArray} (h : Txts w b ss) (he : w'.heap[b]? = w.heap[b]?) : Txts w' b ss := he.trans h
theorem Txts.cell {w : World} {b : Nat} {ss : List ByteArray} (h : Txts w b ss) {k : Nat} (hk : k < ss.length) : w.cell? ⟨b, k, none⟩ = some (.string (ss.getD k ByteArray.empty)) := by
 unfold Txts at h
 simp only [World.cell?, h]
 simp [List.getD, List.getElem?_eq_getElem hk]
set_option maxRecDepth 100000 in
set_option maxHeartbeats 1000000 in
theorem places_any {w : World} {b : Nat} {ss : List ByteArray} (hT : Txts w b ss) (hn : ss.length ≤ 65536) (hsz : ∀ s ∈ ss, s.size ≤ maxLen) :
  Calls Tryz.prog 141 #[.slice (some ⟨b, 0, none⟩) ss.length ss.length] w fun e w' => e = .returned (.map (some w.heap.size)) ∧ w'.ownsMap Tryz.prog 9 (plainElem Tryz.prog 3) w.heap.size ss.length (Lst ss ss.length) ∧ Below w.heap.size w w' := by
 have hmm := run_made
 have hlt := hT.lt
 obtain ⟨len, hl⟩ : ∃ len, ss.length = len := ⟨_, rfl⟩
 rw [hl]
 have HL := Lib.hid hl
 rw [hl] at hn
 clear hl
 go_enter Tryz.func141, Tryz.ntmps141
 go_wp2
 go_loopw [11] (fun i wr => ∃ k : Nat, k ≤ len ∧ i = .int .i64 k ∧ wr.ownsMap Tryz.prog 9 (plainElem Tryz.prog 3) w.heap.size k (Lst ss k) ∧ Below w.heap.size w wr) (fun i _ => len - (intOf i).toNat)
 case atStart => exact ⟨0, Nat.zero_le _, rfl, World.ownsMap_made _ _ _ _, (Below.refl _ _).alloc (Nat.le_refl _) _⟩
 case round =>
  obtain ⟨k, hk, rfl, hown, hnx⟩ := hrel
  by_cases hlk : k < len
  ·have hp0 : (0 : Int) ≤ (k : Int) := by omega
   have hp1 : (k : Int) < (len : Int) := by omega
   obtain ⟨s, hs⟩ : ∃ s, ss.getD k ByteArray.empty = s := ⟨_, rfl⟩
   have hcx : wr.cell? ⟨b, k, none⟩ = some (.string s) := by
    rw [← hs]
    exact (hnx.cell (p := ⟨b, k, none⟩) hlt).trans (hT.cell (by rw [HL.out]; exact hlk))
   have hss : s.size ≤ maxLen := by
    rw [← hs]
    have h' : k < ss.length := by rw [HL.out]; exact hlk
    rw [List.getD, List.getElem?_eq_getElem h']
    exact hsz _ (List.getElem_mem h')
   have hkey : keyOf Tryz.prog 9 (.string s) = some (keyAt ss k) := by
    unfold keyAt
    rw [hs]
    exact Go.WideMaps.keyOf_string_mk Tryz.underlying9 hss
   clear hs hss
   go_wp2_with (first
    | (at_mapUpdate; refine wpList_mapUpdate_own _ rfl _ _ _ 124 rfl 9 3 law Tryz.underlying124 _ w.heap.size k _ rfl hown (by unfold maxLen; omega) _ _ _ rfl rfl hkey _ [] (plainElem_int (a := (k : Int) + 1) Tryz.underlying3 (WalkArith.wf_i64 (by omega))) ?_)
    | go_in)
   intro w1 hown1 hgrow1
   have R2 := hnx.grown hgrow1 hnx.size (fun j hj => by cases hj; exact Nat.le_refl _)
   clear hgrow1 hown hcx hkey
   go_wp2
   go_roundw
   case rel => exact ⟨k + 1, by omega, by go_num, hown1, R2⟩
   case measure => simp [intOf]; omega
  ·obtain rfl : k = len := by omega
   go_wp2
   go_ret
   exact ⟨rfl, hown, hnx⟩
def kwL : List ByteArray := [⟨#[118, 97, 114]⟩, ⟨#[97, 114, 114, 97, 121]⟩, ⟨#[109, 117, 116, 101, 120]⟩, ⟨#[99, 111, 110, 100]⟩, ⟨#[99, 104, 97, 110]⟩, ⟨#[116, 104, 114, 101, 97, 100]⟩, ⟨#[108, 101, 116]⟩, ⟨#[105, 102]⟩, ⟨#[101, 108, 115, 101]⟩, ⟨#[119, 104, 105, 108, 101]⟩, ⟨#[108, 111, 99, 107]⟩, ⟨#[117, 110, 108, 111, 99, 107]⟩, ⟨#[119, 97, 105, 116]⟩, ⟨#[115, 105, 103, 110, 97, 108]⟩, ⟨#[97, 108, 108]⟩, ⟨#[115, 101, 110, 100]⟩, ⟨#[114, 101, 99, 118]⟩, ⟨#[115, 112, 97, 119, 110]⟩, ⟨#[106, 111, 105, 110]⟩, ⟨#[112, 114, 105, 110, 116]⟩]
def sgL : List ByteArray := [⟨#[59]⟩, ⟨#[40]⟩, ⟨#[41]⟩, ⟨#[123]⟩, ⟨#[125]⟩, ⟨#[91]⟩, ⟨#[93]⟩, ⟨#[61]⟩, ⟨#[61, 61]⟩, ⟨#[33, 61]⟩, ⟨#[60]⟩, ⟨#[60, 61]⟩, ⟨#[43]⟩, ⟨#[45]⟩, ⟨#[42]⟩, ⟨#[47]⟩, ⟨#[37]⟩, ⟨#[38, 38]⟩, ⟨#[124, 124]⟩, ⟨#[33]⟩]
theorem txts_new (w : World) (ss : List ByteArray) : Txts (w.alloc (.cells (ss.map Value.string).toArray 9)) w.heap.size ss := World.alloc_heap_new _ _
def Mad (ss : List ByteArray) (w : World) (e : Ending) (w' : World) : Prop :=
 ∃ g, e = .returned (.map (some g)) ∧ w'.ownsMap Tryz.prog 9 (plainElem Tryz.prog 3) g 20 (Lst ss 20) ∧ Below w.heap.size w w' ∧ w.heap.size ≤ g
set_option maxRecDepth 100000 in
set_option maxHeartbeats 1000000 in
theorem keywords_any (w : World) : Calls Tryz.prog 108 #[] w (Mad kwL w) := by
 have hT := txts_new w kwL
 have hB : Below w.heap.size w (w.alloc (.cells (kwL.map Value.string).toArray 9)) := (Below.refl _ w).alloc (Nat.le_refl _) _
 have c1 := places_any hT (by decide) (by decide)
 go_enter Tryz.func108, Tryz.ntmps108
 go_wp2_with fail
 change Calls _ _ _ (w.alloc (.cells (kwL.map Value.string).toArray 9)) _
 refine c1.mono ?_
 generalize w.alloc (.cells (kwL.map Value.string).toArray 9) = W0 at *
 rintro e w1 ⟨rfl, hown, hb⟩
 clear c1
 go_wp2
 go_ret
 exact ⟨W0.heap.size, rfl, hown, hB.trans (hb.mono hB.size), hB.size⟩
set_option maxRecDepth 100000 in
set_option maxHeartbeats 1000000 in
theorem signs_any (w : World) : Calls Tryz.prog 109 #[] w (Mad sgL w) := by
 have hT := txts_new w sgL
 have hB : Below w.heap.size w (w.alloc (.cells (sgL.map Value.string).toArray 9)) := (Below.refl _ w).alloc (Nat.le_refl _) _
 have c1 := places_any hT (by decide) (by decide)
 go_enter Tryz.func109, Tryz.ntmps109
 go_wp2_with fail
 change Calls _ _ _ (w.alloc (.cells (sgL.map Value.string).toArray 9)) _
 refine c1.mono ?_
 generalize w.alloc (.cells (sgL.map Value.string).toArray 9) = W0 at *
 rintro e w1 ⟨rfl, hown, hb⟩
 clear c1
 go_wp2
 go_ret
 exact ⟨W0.heap.size, rfl, hown, hB.trans (hb.mono hB.size), hB.size⟩
end Go.Proofs.YtjmlmelcppbefaaGreatDoor
