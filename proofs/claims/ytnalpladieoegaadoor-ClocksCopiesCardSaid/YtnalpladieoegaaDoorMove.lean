/- A watch's Give, Take, Spawn and Meet. Asked: the watch lies. -/
import Derived.Test.YtnalpladieoegaaDoorPair
namespace Go.Proofs.YtnalpladieoegaaDoor
open Go.RowKit Go.Shelf

theorem set_at (l : List Ck) {i : Nat} (h : i < l.length) : l.set i (at_ l i) = l := by
  apply List.ext_getElem (by simp)
  intro k h1 h2
  by_cases e : i = k
  · subst e; simp [at_, h]
  · rw [List.getElem_set_ne e]
theorem jn_self (c : Ck) : Alk c (jn c c) := fun i _ => by simp [jn]
theorem Row.self {w : World} {b : Nat} {t : TypeId} {l : List Ck} (h : Row w b t l) {i : Nat} (hi : i < l.length) : Row w b t (l.set i (jn (at_ l i) (at_ l i))) := by
  unfold Row at h ⊢
  rw [← flat_set_alk l i (jn_self (at_ l i)), set_at l hi]
  exact h

set_option maxHeartbeats 2000000 in
theorem give_in {w : World} {p tb pb : Nat} {th pl : List Ck} (hW : Wt w p tb pb th pl) {i j : Nat} (hi : i < th.length) (hj : j < pl.length) (hn : th.length ≤ 8) (hm : pl.length ≤ 65536) :
    Calls Tryd.prog 36 #[.pointer (some ⟨p, 0, none⟩), .int .i64 (i : Int), .int .i64 (j : Int)] w fun e w' => e = .returned (.int .i64 0) ∧ Wt w' p tb pb th (pl.set j (jn (at_ pl j) (at_ th i))) ∧ w.grownBy w' (some pb) := by
  go_enter Tryd.func36, Tryd.ntmps36
  go_wp2_with fail
  refine (pair_true_in hW hi hj hn hm).mono ?_
  rintro e w' ⟨rfl, rfl⟩
  go_wp2_with fail
  refine (merge_any (fun k hk => hW.pc.cell hj hk) (fun k hk => hW.tc.cell hi hk) hW.pc hW.tc (fun e => hW.ntp e.1.symm)).mono ?_
  rintro e w' ⟨rfl, w1, hb, rfl⟩
  have hW1 := hW.below hb
  have hG := st8_grown w1 pb (j * 8) (jn (at_ pl j) (at_ th i))
  have hW2 := hW1.rowSetP hG (hW1.pc.set8 hj (jn (at_ pl j) (at_ th i))) (by simp)
  have hg2 := (grown_of (grown_none hb)).trans hG
  go_wp2
  go_ret
  exact ⟨rfl, hW2, hg2⟩

set_option maxHeartbeats 2000000 in
theorem give_out {w : World} {p tb pb : Nat} {th pl : List Ck} (hW : Wt w p tb pb th pl) {i : Nat} {j : Int} (hi : i < th.length) (hj : j < 0 ∨ (pl.length : Int) ≤ j) (hn : th.length ≤ 8) :
    Calls Tryd.prog 36 #[.pointer (some ⟨p, 0, none⟩), .int .i64 (i : Int), .int .i64 j] w fun e w' => e = .returned (.int .i64 4) ∧ w = w' := by
  have HJ := Lib.hid hj
  clear hj
  go_enter Tryd.func36, Tryd.ntmps36
  go_wp2_with fail
  refine (pair_true_out hW hi HJ.out hn).mono ?_
  rintro e w' ⟨rfl, rfl⟩
  go_wp2
  go_ret
  exact ⟨rfl, rfl⟩

set_option maxHeartbeats 2000000 in
theorem give_no {w : World} {p tb pb : Nat} {th pl : List Ck} (hW : Wt w p tb pb th pl) {i : Int} (j : Int) (hi : i < 0 ∨ (th.length : Int) ≤ i) (hn : 0 < th.length) :
    Calls Tryd.prog 36 #[.pointer (some ⟨p, 0, none⟩), .int .i64 i, .int .i64 j] w fun e w' => e = .returned (.int .i64 4) ∧ w = w' := by
  have HJ := Lib.hid hi
  clear hi
  go_enter Tryd.func36, Tryd.ntmps36
  go_wp2_with fail
  refine (pair_true_no hW j HJ.out hn).mono ?_
  rintro e w' ⟨rfl, rfl⟩
  go_wp2
  go_ret
  exact ⟨rfl, rfl⟩

set_option maxHeartbeats 2000000 in
theorem take_in {w : World} {p tb pb : Nat} {th pl : List Ck} (hW : Wt w p tb pb th pl) {i j : Nat} (hi : i < th.length) (hj : j < pl.length) (hn : th.length ≤ 8) (hm : pl.length ≤ 65536) :
    Calls Tryd.prog 37 #[.pointer (some ⟨p, 0, none⟩), .int .i64 (i : Int), .int .i64 (j : Int)] w fun e w' => e = .returned (.int .i64 0) ∧ Wt w' p tb pb (th.set i (jn (at_ th i) (at_ pl j))) pl ∧ w.grownBy w' (some tb) := by
  go_enter Tryd.func37, Tryd.ntmps37
  go_wp2_with fail
  refine (pair_true_in hW hi hj hn hm).mono ?_
  rintro e w' ⟨rfl, rfl⟩
  go_wp2_with fail
  refine (merge_any (fun k hk => hW.tc.cell hi hk) (fun k hk => hW.pc.cell hj hk) hW.tc hW.pc (fun e => hW.ntp e.1)).mono ?_
  rintro e w' ⟨rfl, w1, hb, rfl⟩
  have hW1 := hW.below hb
  have hG := st8_grown w1 tb (i * 8) (jn (at_ th i) (at_ pl j))
  have hW2 := hW1.rowSet hG (hW1.tc.set8 hi (jn (at_ th i) (at_ pl j))) (by simp)
  have hg2 := (grown_of (grown_none hb)).trans hG
  go_wp2
  go_ret
  exact ⟨rfl, hW2, hg2⟩

set_option maxHeartbeats 2000000 in
theorem take_out {w : World} {p tb pb : Nat} {th pl : List Ck} (hW : Wt w p tb pb th pl) {i : Nat} {j : Int} (hi : i < th.length) (hj : j < 0 ∨ (pl.length : Int) ≤ j) (hn : th.length ≤ 8) :
    Calls Tryd.prog 37 #[.pointer (some ⟨p, 0, none⟩), .int .i64 (i : Int), .int .i64 j] w fun e w' => e = .returned (.int .i64 4) ∧ w = w' := by
  have HJ := Lib.hid hj
  clear hj
  go_enter Tryd.func37, Tryd.ntmps37
  go_wp2_with fail
  refine (pair_true_out hW hi HJ.out hn).mono ?_
  rintro e w' ⟨rfl, rfl⟩
  go_wp2
  go_ret
  exact ⟨rfl, rfl⟩

set_option maxHeartbeats 2000000 in
theorem take_no {w : World} {p tb pb : Nat} {th pl : List Ck} (hW : Wt w p tb pb th pl) {i : Int} (j : Int) (hi : i < 0 ∨ (th.length : Int) ≤ i) (hn : 0 < th.length) :
    Calls Tryd.prog 37 #[.pointer (some ⟨p, 0, none⟩), .int .i64 i, .int .i64 j] w fun e w' => e = .returned (.int .i64 4) ∧ w = w' := by
  have HJ := Lib.hid hi
  clear hi
  go_enter Tryd.func37, Tryd.ntmps37
  go_wp2_with fail
  refine (pair_true_no hW j HJ.out hn).mono ?_
  rintro e w' ⟨rfl, rfl⟩
  go_wp2
  go_ret
  exact ⟨rfl, rfl⟩

set_option maxHeartbeats 2000000 in
theorem spawn_in {w : World} {p tb pb : Nat} {th pl : List Ck} (hW : Wt w p tb pb th pl) {i j : Nat} (hi : i < th.length) (hj : j < th.length) (hn : th.length ≤ 8) (hm : pl.length ≤ 65536) :
    Calls Tryd.prog 38 #[.pointer (some ⟨p, 0, none⟩), .int .i64 (i : Int), .int .i64 (j : Int)] w fun e w' => e = .returned (.int .i64 0) ∧ Wt w' p tb pb (th.set j (jn (at_ th j) (at_ th i))) pl ∧ w.grownBy w' (some tb) := by
  by_cases hij : i = j
  · subst hij
    go_enter Tryd.func38, Tryd.ntmps38
    go_wp2_with fail
    refine (pair_false_in hW hi hj hn hm).mono ?_
    rintro e w' ⟨rfl, rfl⟩
    go_wp2_with fail
    refine (merge_same w tb (i * 8)).mono ?_
    rintro e w' ⟨rfl, rfl⟩
    have hg : w.grownBy w none := grown_none (Below.refl _ _)
    go_wp2
    go_ret
    exact ⟨rfl, hW.rowSet (grown_of hg) (hW.tc.self hi) (by simp), grown_of hg⟩
  · go_enter Tryd.func38, Tryd.ntmps38
    go_wp2_with fail
    refine (pair_false_in hW hi hj hn hm).mono ?_
    rintro e w' ⟨rfl, rfl⟩
    go_wp2_with fail
    refine (merge_any (fun k hk => hW.tc.cell hj hk) (fun k hk => hW.tc.cell hi hk) hW.tc hW.tc (by omega)).mono ?_
    rintro e w' ⟨rfl, w1, hb, rfl⟩
    have hW1 := hW.below hb
    have hG := st8_grown w1 tb (j * 8) (jn (at_ th j) (at_ th i))
    have hW2 := hW1.rowSet hG (hW1.tc.set8 hj (jn (at_ th j) (at_ th i))) (by simp)
    have hg2 := (grown_of (grown_none hb)).trans hG
    go_wp2
    go_ret
    exact ⟨rfl, hW2, hg2⟩

set_option maxHeartbeats 2000000 in
theorem spawn_out {w : World} {p tb pb : Nat} {th pl : List Ck} (hW : Wt w p tb pb th pl) {i : Nat} {j : Int} (hi : i < th.length) (hj : j < 0 ∨ (th.length : Int) ≤ j) (hn : th.length ≤ 8) :
    Calls Tryd.prog 38 #[.pointer (some ⟨p, 0, none⟩), .int .i64 (i : Int), .int .i64 j] w fun e w' => e = .returned (.int .i64 4) ∧ w = w' := by
  have HJ := Lib.hid hj
  clear hj
  go_enter Tryd.func38, Tryd.ntmps38
  go_wp2_with fail
  refine (pair_false_out hW hi HJ.out hn).mono ?_
  rintro e w' ⟨rfl, rfl⟩
  go_wp2
  go_ret
  exact ⟨rfl, rfl⟩

set_option maxHeartbeats 2000000 in
theorem spawn_no {w : World} {p tb pb : Nat} {th pl : List Ck} (hW : Wt w p tb pb th pl) {i : Int} (j : Int) (hi : i < 0 ∨ (th.length : Int) ≤ i) (hn : 0 < th.length) :
    Calls Tryd.prog 38 #[.pointer (some ⟨p, 0, none⟩), .int .i64 i, .int .i64 j] w fun e w' => e = .returned (.int .i64 4) ∧ w = w' := by
  have HJ := Lib.hid hi
  clear hi
  go_enter Tryd.func38, Tryd.ntmps38
  go_wp2_with fail
  refine (pair_false_no hW j HJ.out hn).mono ?_
  rintro e w' ⟨rfl, rfl⟩
  go_wp2
  go_ret
  exact ⟨rfl, rfl⟩

set_option maxHeartbeats 2000000 in
theorem meet_in {w : World} {p tb pb : Nat} {th pl : List Ck} (hW : Wt w p tb pb th pl) {i j : Nat} (hi : i < th.length) (hj : j < th.length) (hn : th.length ≤ 8) (hm : pl.length ≤ 65536) :
    Calls Tryd.prog 39 #[.pointer (some ⟨p, 0, none⟩), .int .i64 (i : Int), .int .i64 (j : Int)] w fun e w' => e = .returned (.int .i64 0) ∧ Wt w' p tb pb (th.set i (jn (at_ th i) (at_ th j))) pl ∧ w.grownBy w' (some tb) := by
  by_cases hij : i = j
  · subst hij
    go_enter Tryd.func39, Tryd.ntmps39
    go_wp2_with fail
    refine (pair_false_in hW hi hj hn hm).mono ?_
    rintro e w' ⟨rfl, rfl⟩
    go_wp2_with fail
    refine (merge_same w tb (i * 8)).mono ?_
    rintro e w' ⟨rfl, rfl⟩
    have hg : w.grownBy w none := grown_none (Below.refl _ _)
    go_wp2
    go_ret
    exact ⟨rfl, hW.rowSet (grown_of hg) (hW.tc.self hi) (by simp), grown_of hg⟩
  · go_enter Tryd.func39, Tryd.ntmps39
    go_wp2_with fail
    refine (pair_false_in hW hi hj hn hm).mono ?_
    rintro e w' ⟨rfl, rfl⟩
    go_wp2_with fail
    refine (merge_any (fun k hk => hW.tc.cell hi hk) (fun k hk => hW.tc.cell hj hk) hW.tc hW.tc (by omega)).mono ?_
    rintro e w' ⟨rfl, w1, hb, rfl⟩
    have hW1 := hW.below hb
    have hG := st8_grown w1 tb (i * 8) (jn (at_ th i) (at_ th j))
    have hW2 := hW1.rowSet hG (hW1.tc.set8 hi (jn (at_ th i) (at_ th j))) (by simp)
    have hg2 := (grown_of (grown_none hb)).trans hG
    go_wp2
    go_ret
    exact ⟨rfl, hW2, hg2⟩

set_option maxHeartbeats 2000000 in
theorem meet_out {w : World} {p tb pb : Nat} {th pl : List Ck} (hW : Wt w p tb pb th pl) {i : Nat} {j : Int} (hi : i < th.length) (hj : j < 0 ∨ (th.length : Int) ≤ j) (hn : th.length ≤ 8) :
    Calls Tryd.prog 39 #[.pointer (some ⟨p, 0, none⟩), .int .i64 (i : Int), .int .i64 j] w fun e w' => e = .returned (.int .i64 4) ∧ w = w' := by
  have HJ := Lib.hid hj
  clear hj
  go_enter Tryd.func39, Tryd.ntmps39
  go_wp2_with fail
  refine (pair_false_out hW hi HJ.out hn).mono ?_
  rintro e w' ⟨rfl, rfl⟩
  go_wp2
  go_ret
  exact ⟨rfl, rfl⟩

set_option maxHeartbeats 2000000 in
theorem meet_no {w : World} {p tb pb : Nat} {th pl : List Ck} (hW : Wt w p tb pb th pl) {i : Int} (j : Int) (hi : i < 0 ∨ (th.length : Int) ≤ i) (hn : 0 < th.length) :
    Calls Tryd.prog 39 #[.pointer (some ⟨p, 0, none⟩), .int .i64 i, .int .i64 j] w fun e w' => e = .returned (.int .i64 4) ∧ w = w' := by
  have HJ := Lib.hid hi
  clear hi
  go_enter Tryd.func39, Tryd.ntmps39
  go_wp2_with fail
  refine (pair_false_no hW j HJ.out hn).mono ?_
  rintro e w' ⟨rfl, rfl⟩
  go_wp2
  go_ret
  exact ⟨rfl, rfl⟩

end Go.Proofs.YtnalpladieoegaaDoor
