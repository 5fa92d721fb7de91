/- Are there at most so many, and may each of them be: numbers and instructions, as the program tells it. Asked: the list lies; the table of codes. -/
import Derived.Test.YtjbinejaagpleaaDoorSmall
namespace Go.Proofs.YtjbinejaagpleaaDoor
open Go.RowKit

instance : Inhabited InsP := ⟨⟨0, 0, 0, 0⟩⟩
/-- The slice at a holds the numbers l; the instructions l. -/
def Ints (w : World) (a : Option Addr) (l : List Int) : Prop := ∀ i, i < l.length → ∃ b off, a = some ⟨b, off, none⟩ ∧ w.cell? ⟨b, off + i, none⟩ = some (.int .i64 (l.getD i 0))
def Inss (w : World) (a : Option Addr) (l : List InsP) : Prop := ∀ i, i < l.length → ∃ b off, a = some ⟨b, off, none⟩ ∧
  w.cell? ⟨b, off + i * 4, none⟩ = some (.int .i64 (l.getD i default).c) ∧ w.cell? ⟨b, off + i * 4 + 1, none⟩ = some (.int .i64 (l.getD i default).a) ∧
  w.cell? ⟨b, off + i * 4 + 2, none⟩ = some (.int .i64 (l.getD i default).b) ∧ w.cell? ⟨b, off + i * 4 + 3, none⟩ = some (.int .i64 (l.getD i default).n)
theorem Ints.below {w w' : World} {a : Option Addr} {l : List Int} {B : Nat} (h : Ints w a l) (hb : Below B w w') (hB : w.heap.size ≤ B) : Ints w' a l := fun i hi => by
  obtain ⟨b, off, rfl, h0⟩ := h i hi
  exact ⟨b, off, rfl, (hb.cell (p := ⟨b, _, none⟩) (Nat.lt_of_lt_of_le (World.block_lt_of_cell? w _ h0) hB)).trans h0⟩
theorem Inss.below {w w' : World} {a : Option Addr} {l : List InsP} {B : Nat} (h : Inss w a l) (hb : Below B w w') (hB : w.heap.size ≤ B) : Inss w' a l := fun i hi => by
  obtain ⟨b, off, rfl, h0, h1, h2, h3⟩ := h i hi
  have hlt := World.block_lt_of_cell? w _ h0
  have hc := fun o => hb.cell (p := ⟨b, o, none⟩) (Nat.lt_of_lt_of_le hlt hB)
  exact ⟨b, off, rfl, (hc _).trans h0, (hc _).trans h1, (hc _).trans h2, (hc _).trans h3⟩
theorem all_of {α : Type} {l : List α} {p : α → Bool} {d : α} (h : ∀ j, j < l.length → p (l.getD j d) = true) : l.all p = true := by
  rw [List.all_eq_true]
  intro x hx
  obtain ⟨j, hj, rfl⟩ := List.getElem_of_mem hx
  have := h j hj
  rwa [List.getD, List.getElem?_eq_getElem hj] at this
theorem not_all {α : Type} {l : List α} {p : α → Bool} {d : α} {j : Nat} (hj : j < l.length) (h : p (l.getD j d) = false) : l.all p = false := by
  rw [List.all_eq_false]
  refine ⟨l.getD j d, ?_, by rw [h]; decide⟩
  rw [List.getD, List.getElem?_eq_getElem hj]
  exact List.getElem_mem hj

set_option maxRecDepth 100000 in
set_option maxHeartbeats 4000000 in
theorem idx_v {w : World} {a : Option Addr} {l : List Int} {n cap : Nat} (hn : l.length = n) (hm : n ≤ 281474976710656) (hI : Ints w a l) (p : Int → Bool) (bx : Nat)
    (hclo : ∀ i, i < n → ∀ W, Below w.heap.size w W → Calls Tryd.prog 66 #[.int .i64 (l.getD i 0), .pointer (some ⟨bx, 0, none⟩)] W fun e w' => e = .returned (.bool (!p (l.getD i 0))) ∧ Below W.heap.size W w') :
    Calls Tryd.prog 81 #[.slice a n cap, .func (.func 66) #[] #[.pointer (some ⟨bx, 0, none⟩)]] w fun e w' => ∃ r : Int, e = .returned (.int .i64 r) ∧ decide (0 ≤ r) = !(l.all p) ∧ Below w.heap.size w w' := by
  have HN := Lib.hid hn
  have HCLO := Lib.hid hclo
  clear hn hclo
  go_enter Tryd.func81, Tryd.ntmps81
  go_wp2_with fail
  go_loopw [8] (fun i wr => ∃ k : Nat, k ≤ n ∧ i = .int .i64 k ∧ Hid (∀ j, j < k → p (l.getD j 0) = true) ∧ Hid (Below w.heap.size w wr)) (fun i _ => n - (intOf i).toNat)
  case atStart => exact ⟨0, Nat.zero_le _, rfl, Lib.hid (fun j hj => by omega), Lib.hid (Below.refl _ _)⟩
  case round =>
    obtain ⟨k, hk, rfl, HP, HB⟩ := hrel
    by_cases hkn : k < n
    · have hp0 : (0 : Int) ≤ (k : Int) := by omega
      have hp1 : (k : Int) < (n : Int) := by omega
      have hI2 := hI.below HB.out (Nat.le_refl _)
      obtain ⟨b, off, rfl, y0⟩ := hI2 k (by rw [HN.out]; exact hkn)
      have hc := HCLO.out k hkn wr HB.out
      obtain ⟨x, hx⟩ : ∃ x, l.getD k 0 = x := ⟨_, rfl⟩
      rw [hx] at y0 hc
      obtain ⟨q, hq⟩ : ∃ q, p x = q := ⟨_, rfl⟩
      rw [hq] at hc
      have HQ := Lib.hid (show p (l.getD k 0) = q by rw [hx]; exact hq)
      clear hx hq hI2
      go_wp2_with fail
      refine hc.mono ?_
      rintro e w1 ⟨rfl, hb1⟩
      have HB1 := Lib.hid (HB.out.trans (hb1.mono HB.out.size))
      clear hc hb1 y0 HB
      cases q
      · go_wp2
        go_ret
        refine ⟨(k : Int), rfl, ?_, HB1.out⟩
        rw [not_all (by rw [HN.out]; exact hkn) HQ.out, decide_eq_true hp0]
        rfl
      · go_wp2
        go_roundw
        case rel => exact ⟨k + 1, by omega, by go_num, Lib.hid (fun j hj => by
          rcases Nat.lt_or_ge j k with h | h
          · exact HP.out j h
          · obtain rfl : j = k := by omega
            exact HQ.out), HB1⟩
        case measure => simp [intOf]; omega
    · obtain rfl : k = n := by omega
      go_wp2
      go_ret
      refine ⟨-1, rfl, ?_, HB.out⟩
      rw [all_of (d := 0) (fun j hj => HP.out j (by rw [← HN.out]; exact hj))]
      rfl

set_option maxRecDepth 100000 in
theorem cont_v {w : World} {a : Option Addr} {l : List Int} {n cap : Nat} (hn : l.length = n) (hm : n ≤ 281474976710656) (hI : Ints w a l) (p : Int → Bool) (bx : Nat)
    (hclo : ∀ i, i < n → ∀ W, Below w.heap.size w W → Calls Tryd.prog 66 #[.int .i64 (l.getD i 0), .pointer (some ⟨bx, 0, none⟩)] W fun e w' => e = .returned (.bool (!p (l.getD i 0))) ∧ Below W.heap.size W w') :
    Calls Tryd.prog 65 #[.slice a n cap, .func (.func 66) #[] #[.pointer (some ⟨bx, 0, none⟩)]] w fun e w' => e = .returned (.bool (!(l.all p))) ∧ Below w.heap.size w w' := by
  have ci := idx_v (cap := cap) hn hm hI p bx hclo
  obtain ⟨q, hq⟩ : ∃ q, (!(l.all p)) = q := ⟨_, rfl⟩
  rw [hq] at ci ⊢
  have HCI := Lib.hid ci
  clear ci hn hclo hI hq
  go_enter Tryd.func65, Tryd.ntmps65
  go_wp2_with fail
  refine HCI.out.mono ?_
  rintro e w1 ⟨r, rfl, hr, hb1⟩
  clear HCI
  go_wp2
  go_ret
  exact ⟨rfl, hb1⟩

set_option maxRecDepth 100000 in
set_option maxHeartbeats 1000000 in
theorem may_v {w : World} {a : Option Addr} {l : List Int} {n cap m : Nat} (hn : l.length = n) (hm : n ≤ 281474976710656) (hI : Ints w a l) :
    Calls Tryd.prog 37 #[.slice a n cap, .int .i64 (m : Int), .func (.func 38) #[] #[]] w fun e w' => e = .returned (.bool (decide (n ≤ m) && l.all vMay)) ∧ Below w.heap.size w w' := by
  have hB : Below w.heap.size w (w.alloc (.cells #[.func (.func 38) #[] #[]] 78)) := (Below.refl _ w).alloc (Nat.le_refl _) _
  have hbx : (w.alloc (.cells #[.func (.func 38) #[] #[]] 78)).heap[w.heap.size]? = some (.cells #[.func (.func 38) #[] #[]] 78 (0, 0)) := World.alloc_heap_new _ _
  have hI2 := hI.below hB (Nat.le_refl _)
  have hlt : w.heap.size < (w.alloc (.cells #[.func (.func 38) #[] #[]] 78)).heap.size := by simp
  have hclo : ∀ i, i < n → ∀ W, Below (w.alloc (.cells #[.func (.func 38) #[] #[]] 78)).heap.size (w.alloc (.cells #[.func (.func 38) #[] #[]] 78)) W → Calls Tryd.prog 66 #[.int .i64 (l.getD i 0), .pointer (some ⟨w.heap.size, 0, none⟩)] W fun e w' => e = .returned (.bool (!vMay (l.getD i 0))) ∧ Below W.heap.size W w' := by
    intro i hin W hW
    obtain ⟨x, hx⟩ : ∃ x, l.getD i 0 = x := ⟨_, rfl⟩
    rw [hx]
    clear hx
    have hc0 : W.cell? ⟨w.heap.size, 0, none⟩ = some (.func (.func 38) #[] #[]) := by
      have h2 := (hW.block _ hlt).trans hbx
      simp [World.cell?, h2]

    go_enter Tryd.func66, Tryd.ntmps66
    go_wp2_with fail
    refine (valueMay_any x W).mono ?_
    rintro e w' ⟨rfl, rfl⟩
    go_wp2
    go_ret
    exact ⟨rfl, Below.refl _ _⟩
  by_cases hle : n ≤ m
  · have hi : (n : Int) ≤ (m : Int) := by omega
    have hd : decide ((n : Int) ≤ (m : Int)) = true := decide_eq_true hi
    rw [decide_eq_true hle, Bool.true_and]
    have cc := cont_v (cap := cap) hn hm hI2 vMay w.heap.size hclo
    obtain ⟨q, hq⟩ : ∃ q, l.all vMay = q := ⟨_, rfl⟩
    rw [hq] at cc ⊢
    have HCC := Lib.hid cc
    clear cc hclo hI hI2 hbx hn hq hle
    go_enter Tryd.func37, Tryd.ntmps37
    go_wp2_with fail
    refine HCC.out.mono ?_
    rintro e w1 ⟨rfl, hb1⟩
    have hB1 := hB.trans (hb1.mono hB.size)
    clear HCC
    cases q
    all_goals
      go_wp2
      go_ret
      exact ⟨rfl, hB1⟩
  · have hi : ¬ (n : Int) ≤ (m : Int) := by omega
    have hd : decide ((n : Int) ≤ (m : Int)) = false := decide_eq_false hi
    rw [decide_eq_false hle, Bool.false_and]
    clear hclo hI hI2 hbx hn hle
    go_enter Tryd.func37, Tryd.ntmps37
    go_wp2
    go_ret
    exact ⟨rfl, hB⟩

set_option maxRecDepth 100000 in
set_option maxHeartbeats 4000000 in
theorem idx_b {w : World} {a : Option Addr} {l : List Int} {n cap : Nat} (hn : l.length = n) (hm : n ≤ 281474976710656) (hI : Ints w a l) (p : Int → Bool) (bx : Nat)
    (hclo : ∀ i, i < n → ∀ W, Below w.heap.size w W → Calls Tryd.prog 68 #[.int .i64 (l.getD i 0), .pointer (some ⟨bx, 0, none⟩)] W fun e w' => e = .returned (.bool (!p (l.getD i 0))) ∧ Below W.heap.size W w') :
    Calls Tryd.prog 82 #[.slice a n cap, .func (.func 68) #[] #[.pointer (some ⟨bx, 0, none⟩)]] w fun e w' => ∃ r : Int, e = .returned (.int .i64 r) ∧ decide (0 ≤ r) = !(l.all p) ∧ Below w.heap.size w w' := by
  have HN := Lib.hid hn
  have HCLO := Lib.hid hclo
  clear hn hclo
  go_enter Tryd.func82, Tryd.ntmps82
  go_wp2_with fail
  go_loopw [8] (fun i wr => ∃ k : Nat, k ≤ n ∧ i = .int .i64 k ∧ Hid (∀ j, j < k → p (l.getD j 0) = true) ∧ Hid (Below w.heap.size w wr)) (fun i _ => n - (intOf i).toNat)
  case atStart => exact ⟨0, Nat.zero_le _, rfl, Lib.hid (fun j hj => by omega), Lib.hid (Below.refl _ _)⟩
  case round =>
    obtain ⟨k, hk, rfl, HP, HB⟩ := hrel
    by_cases hkn : k < n
    · have hp0 : (0 : Int) ≤ (k : Int) := by omega
      have hp1 : (k : Int) < (n : Int) := by omega
      have hI2 := hI.below HB.out (Nat.le_refl _)
      obtain ⟨b, off, rfl, y0⟩ := hI2 k (by rw [HN.out]; exact hkn)
      have hc := HCLO.out k hkn wr HB.out
      obtain ⟨x, hx⟩ : ∃ x, l.getD k 0 = x := ⟨_, rfl⟩
      rw [hx] at y0 hc
      obtain ⟨q, hq⟩ : ∃ q, p x = q := ⟨_, rfl⟩
      rw [hq] at hc
      have HQ := Lib.hid (show p (l.getD k 0) = q by rw [hx]; exact hq)
      clear hx hq hI2
      go_wp2_with fail
      refine hc.mono ?_
      rintro e w1 ⟨rfl, hb1⟩
      have HB1 := Lib.hid (HB.out.trans (hb1.mono HB.out.size))
      clear hc hb1 y0 HB
      cases q
      · go_wp2
        go_ret
        refine ⟨(k : Int), rfl, ?_, HB1.out⟩
        rw [not_all (by rw [HN.out]; exact hkn) HQ.out, decide_eq_true hp0]
        rfl
      · go_wp2
        go_roundw
        case rel => exact ⟨k + 1, by omega, by go_num, Lib.hid (fun j hj => by
          rcases Nat.lt_or_ge j k with h | h
          · exact HP.out j h
          · obtain rfl : j = k := by omega
            exact HQ.out), HB1⟩
        case measure => simp [intOf]; omega
    · obtain rfl : k = n := by omega
      go_wp2
      go_ret
      refine ⟨-1, rfl, ?_, HB.out⟩
      rw [all_of (d := 0) (fun j hj => HP.out j (by rw [← HN.out]; exact hj))]
      rfl

set_option maxRecDepth 100000 in
theorem cont_b {w : World} {a : Option Addr} {l : List Int} {n cap : Nat} (hn : l.length = n) (hm : n ≤ 281474976710656) (hI : Ints w a l) (p : Int → Bool) (bx : Nat)
    (hclo : ∀ i, i < n → ∀ W, Below w.heap.size w W → Calls Tryd.prog 68 #[.int .i64 (l.getD i 0), .pointer (some ⟨bx, 0, none⟩)] W fun e w' => e = .returned (.bool (!p (l.getD i 0))) ∧ Below W.heap.size W w') :
    Calls Tryd.prog 67 #[.slice a n cap, .func (.func 68) #[] #[.pointer (some ⟨bx, 0, none⟩)]] w fun e w' => e = .returned (.bool (!(l.all p))) ∧ Below w.heap.size w w' := by
  have ci := idx_b (cap := cap) hn hm hI p bx hclo
  obtain ⟨q, hq⟩ : ∃ q, (!(l.all p)) = q := ⟨_, rfl⟩
  rw [hq] at ci ⊢
  have HCI := Lib.hid ci
  clear ci hn hclo hI hq
  go_enter Tryd.func67, Tryd.ntmps67
  go_wp2_with fail
  refine HCI.out.mono ?_
  rintro e w1 ⟨r, rfl, hr, hb1⟩
  clear HCI
  go_wp2
  go_ret
  exact ⟨rfl, hb1⟩

set_option maxRecDepth 100000 in
set_option maxHeartbeats 1000000 in
theorem may_b {w : World} {a : Option Addr} {l : List Int} {n cap m : Nat} (hn : l.length = n) (hm : n ≤ 281474976710656) (hI : Ints w a l) {lo up : Int} {p q : Addr} (hp : w.cell? p = some (.int .i64 lo)) (hq : w.cell? q = some (.int .i64 up)) :
    Calls Tryd.prog 39 #[.slice a n cap, .int .i64 (m : Int), .func (.func 64) #[] #[.pointer (some p), .pointer (some q)]] w fun e w' => e = .returned (.bool (decide (n ≤ m) && l.all (bMay lo up))) ∧ Below w.heap.size w w' := by
  have hB : Below w.heap.size w (w.alloc (.cells #[.func (.func 64) #[] #[.pointer (some p), .pointer (some q)]] 75)) := (Below.refl _ w).alloc (Nat.le_refl _) _
  have hbx : (w.alloc (.cells #[.func (.func 64) #[] #[.pointer (some p), .pointer (some q)]] 75)).heap[w.heap.size]? = some (.cells #[.func (.func 64) #[] #[.pointer (some p), .pointer (some q)]] 75 (0, 0)) := World.alloc_heap_new _ _
  have hI2 := hI.below hB (Nat.le_refl _)
  have hlt : w.heap.size < (w.alloc (.cells #[.func (.func 64) #[] #[.pointer (some p), .pointer (some q)]] 75)).heap.size := by simp
  have hclo : ∀ i, i < n → ∀ W, Below (w.alloc (.cells #[.func (.func 64) #[] #[.pointer (some p), .pointer (some q)]] 75)).heap.size (w.alloc (.cells #[.func (.func 64) #[] #[.pointer (some p), .pointer (some q)]] 75)) W → Calls Tryd.prog 68 #[.int .i64 (l.getD i 0), .pointer (some ⟨w.heap.size, 0, none⟩)] W fun e w' => e = .returned (.bool (!(bMay lo up) (l.getD i 0))) ∧ Below W.heap.size W w' := by
    intro i hin W hW
    obtain ⟨x, hx⟩ : ∃ x, l.getD i 0 = x := ⟨_, rfl⟩
    rw [hx]
    clear hx
    have hc0 : W.cell? ⟨w.heap.size, 0, none⟩ = some (.func (.func 64) #[] #[.pointer (some p), .pointer (some q)]) := by
      have h2 := (hW.block _ hlt).trans hbx
      simp [World.cell?, h2]
    have hBW := hB.trans (hW.mono hB.size)
    have hcp : W.cell? p = some (.int .i64 lo) := (hBW.cell (World.block_lt_of_cell? w _ hp)).trans hp
    have hcq : W.cell? q = some (.int .i64 up) := (hBW.cell (World.block_lt_of_cell? w _ hq)).trans hq
    clear hBW
    go_enter Tryd.func68, Tryd.ntmps68
    go_wp2_with fail
    refine (within1_any lo up x p q W hcp hcq).mono ?_
    rintro e w' ⟨rfl, rfl⟩
    go_wp2
    go_ret
    exact ⟨rfl, Below.refl _ _⟩
  by_cases hle : n ≤ m
  · have hi : (n : Int) ≤ (m : Int) := by omega
    have hd : decide ((n : Int) ≤ (m : Int)) = true := decide_eq_true hi
    rw [decide_eq_true hle, Bool.true_and]
    have cc := cont_b (cap := cap) hn hm hI2 (bMay lo up) w.heap.size hclo
    obtain ⟨q, hq⟩ : ∃ q, l.all (bMay lo up) = q := ⟨_, rfl⟩
    rw [hq] at cc ⊢
    have HCC := Lib.hid cc
    clear cc hclo hI hI2 hbx hn hq hle
    go_enter Tryd.func39, Tryd.ntmps39
    go_wp2_with fail
    refine HCC.out.mono ?_
    rintro e w1 ⟨rfl, hb1⟩
    have hB1 := hB.trans (hb1.mono hB.size)
    clear HCC
    cases q
    all_goals
      go_wp2
      go_ret
      exact ⟨rfl, hB1⟩
  · have hi : ¬ (n : Int) ≤ (m : Int) := by omega
    have hd : decide ((n : Int) ≤ (m : Int)) = false := decide_eq_false hi
    rw [decide_eq_false hle, Bool.false_and]
    clear hclo hI hI2 hbx hn hle
    go_enter Tryd.func39, Tryd.ntmps39
    go_wp2
    go_ret
    exact ⟨rfl, hB⟩

set_option maxRecDepth 100000 in
set_option maxHeartbeats 4000000 in
theorem idx_n {w : World} {a : Option Addr} {l : List InsP} {n cap : Nat} (hn : l.length = n) (hm : n ≤ 281474976710656) (hI : Inss w a l) (p : InsP → Bool) (bx : Nat)
    (hclo : ∀ i, i < n → ∀ W, Below w.heap.size w W → Calls Tryd.prog 85 #[.agg #[.int .i64 (l.getD i default).c, .int .i64 (l.getD i default).a, .int .i64 (l.getD i default).b, .int .i64 (l.getD i default).n], .pointer (some ⟨bx, 0, none⟩)] W fun e w' => e = .returned (.bool (!p (l.getD i default))) ∧ Below W.heap.size W w') :
    Calls Tryd.prog 90 #[.slice a n cap, .func (.func 85) #[] #[.pointer (some ⟨bx, 0, none⟩)]] w fun e w' => ∃ r : Int, e = .returned (.int .i64 r) ∧ decide (0 ≤ r) = !(l.all p) ∧ Below w.heap.size w w' := by
  have HN := Lib.hid hn
  have HCLO := Lib.hid hclo
  clear hn hclo
  go_enter Tryd.func90, Tryd.ntmps90
  go_wp2_with fail
  go_loopw [8] (fun i wr => ∃ k : Nat, k ≤ n ∧ i = .int .i64 k ∧ Hid (∀ j, j < k → p (l.getD j default) = true) ∧ Hid (Below w.heap.size w wr)) (fun i _ => n - (intOf i).toNat)
  case atStart => exact ⟨0, Nat.zero_le _, rfl, Lib.hid (fun j hj => by omega), Lib.hid (Below.refl _ _)⟩
  case round =>
    obtain ⟨k, hk, rfl, HP, HB⟩ := hrel
    by_cases hkn : k < n
    · have hp0 : (0 : Int) ≤ (k : Int) := by omega
      have hp1 : (k : Int) < (n : Int) := by omega
      have hI2 := hI.below HB.out (Nat.le_refl _)
      obtain ⟨b, off, rfl, y0, y1, y2, y3⟩ := hI2 k (by rw [HN.out]; exact hkn)
      have hc := HCLO.out k hkn wr HB.out
      obtain ⟨x, hx⟩ : ∃ x, l.getD k default = x := ⟨_, rfl⟩
      rw [hx] at y0 y1 y2 y3 hc
      obtain ⟨q, hq⟩ : ∃ q, p x = q := ⟨_, rfl⟩
      rw [hq] at hc
      have HQ := Lib.hid (show p (l.getD k default) = q by rw [hx]; exact hq)
      clear hx hq hI2
      go_wp2_with fail
      refine hc.mono ?_
      rintro e w1 ⟨rfl, hb1⟩
      have HB1 := Lib.hid (HB.out.trans (hb1.mono HB.out.size))
      clear hc hb1 y0 y1 y2 y3 HB
      cases q
      · go_wp2
        go_ret
        refine ⟨(k : Int), rfl, ?_, HB1.out⟩
        rw [not_all (by rw [HN.out]; exact hkn) HQ.out, decide_eq_true hp0]
        rfl
      · go_wp2
        go_roundw
        case rel => exact ⟨k + 1, by omega, by go_num, Lib.hid (fun j hj => by
          rcases Nat.lt_or_ge j k with h | h
          · exact HP.out j h
          · obtain rfl : j = k := by omega
            exact HQ.out), HB1⟩
        case measure => simp [intOf]; omega
    · obtain rfl : k = n := by omega
      go_wp2
      go_ret
      refine ⟨-1, rfl, ?_, HB.out⟩
      rw [all_of (d := default) (fun j hj => HP.out j (by rw [← HN.out]; exact hj))]
      rfl

set_option maxRecDepth 100000 in
theorem cont_n {w : World} {a : Option Addr} {l : List InsP} {n cap : Nat} (hn : l.length = n) (hm : n ≤ 281474976710656) (hI : Inss w a l) (p : InsP → Bool) (bx : Nat)
    (hclo : ∀ i, i < n → ∀ W, Below w.heap.size w W → Calls Tryd.prog 85 #[.agg #[.int .i64 (l.getD i default).c, .int .i64 (l.getD i default).a, .int .i64 (l.getD i default).b, .int .i64 (l.getD i default).n], .pointer (some ⟨bx, 0, none⟩)] W fun e w' => e = .returned (.bool (!p (l.getD i default))) ∧ Below W.heap.size W w') :
    Calls Tryd.prog 84 #[.slice a n cap, .func (.func 85) #[] #[.pointer (some ⟨bx, 0, none⟩)]] w fun e w' => e = .returned (.bool (!(l.all p))) ∧ Below w.heap.size w w' := by
  have ci := idx_n (cap := cap) hn hm hI p bx hclo
  obtain ⟨q, hq⟩ : ∃ q, (!(l.all p)) = q := ⟨_, rfl⟩
  rw [hq] at ci ⊢
  have HCI := Lib.hid ci
  clear ci hn hclo hI hq
  go_enter Tryd.func84, Tryd.ntmps84
  go_wp2_with fail
  refine HCI.out.mono ?_
  rintro e w1 ⟨r, rfl, hr, hb1⟩
  clear HCI
  go_wp2
  go_ret
  exact ⟨rfl, hb1⟩

set_option maxRecDepth 100000 in
set_option maxHeartbeats 1000000 in
theorem may_n {w : World} {a : Option Addr} {l : List InsP} {n cap m : Nat} (hn : l.length = n) (hm : n ≤ 281474976710656) (hI : Inss w a l) (hT : TabC w) :
    Calls Tryd.prog 71 #[.slice a n cap, .int .i64 (m : Int), .func (.func 47) #[] #[]] w fun e w' => e = .returned (.bool (decide (n ≤ m) && l.all iMay)) ∧ Below w.heap.size w w' := by
  have hB : Below w.heap.size w (w.alloc (.cells #[.func (.func 47) #[] #[]] 84)) := (Below.refl _ w).alloc (Nat.le_refl _) _
  have hbx : (w.alloc (.cells #[.func (.func 47) #[] #[]] 84)).heap[w.heap.size]? = some (.cells #[.func (.func 47) #[] #[]] 84 (0, 0)) := World.alloc_heap_new _ _
  have hI2 := hI.below hB (Nat.le_refl _)
  have hlt : w.heap.size < (w.alloc (.cells #[.func (.func 47) #[] #[]] 84)).heap.size := by simp
  have hclo : ∀ i, i < n → ∀ W, Below (w.alloc (.cells #[.func (.func 47) #[] #[]] 84)).heap.size (w.alloc (.cells #[.func (.func 47) #[] #[]] 84)) W → Calls Tryd.prog 85 #[.agg #[.int .i64 (l.getD i default).c, .int .i64 (l.getD i default).a, .int .i64 (l.getD i default).b, .int .i64 (l.getD i default).n], .pointer (some ⟨w.heap.size, 0, none⟩)] W fun e w' => e = .returned (.bool (!iMay (l.getD i default))) ∧ Below W.heap.size W w' := by
    intro i hin W hW
    obtain ⟨x, hx⟩ : ∃ x, l.getD i default = x := ⟨_, rfl⟩
    rw [hx]
    clear hx
    have hc0 : W.cell? ⟨w.heap.size, 0, none⟩ = some (.func (.func 47) #[] #[]) := by
      have h2 := (hW.block _ hlt).trans hbx
      simp [World.cell?, h2]
    have hT2 := (hT.below hB hT.1).below hW (by simp)
    have hBX : Below W.heap.size W (W.alloc (.cells #[.int .i64 x.c, .int .i64 x.a, .int .i64 x.b, .int .i64 x.n] 48)) := (Below.refl _ W).alloc (Nat.le_refl _) _
    have hT3 := hT2.below hBX hT2.1
    have hc1 : w.heap.size < W.heap.size := Nat.lt_of_lt_of_le hlt hW.size
    clear hT2
    go_enter Tryd.func85, Tryd.ntmps85
    go_wp2_with fail
    refine (insMay_any x _ hT3).mono ?_
    rintro e w1 ⟨rfl, hb1⟩
    have hBf := hBX.trans (hb1.mono hBX.size)
    go_wp2
    go_ret
    exact ⟨rfl, hBf⟩
  by_cases hle : n ≤ m
  · have hi : (n : Int) ≤ (m : Int) := by omega
    have hd : decide ((n : Int) ≤ (m : Int)) = true := decide_eq_true hi
    rw [decide_eq_true hle, Bool.true_and]
    have cc := cont_n (cap := cap) hn hm hI2 iMay w.heap.size hclo
    obtain ⟨q, hq⟩ : ∃ q, l.all iMay = q := ⟨_, rfl⟩
    rw [hq] at cc ⊢
    have HCC := Lib.hid cc
    clear cc hclo hI hI2 hbx hn hq hle
    go_enter Tryd.func71, Tryd.ntmps71
    go_wp2_with fail
    refine HCC.out.mono ?_
    rintro e w1 ⟨rfl, hb1⟩
    have hB1 := hB.trans (hb1.mono hB.size)
    clear HCC
    cases q
    all_goals
      go_wp2
      go_ret
      exact ⟨rfl, hB1⟩
  · have hi : ¬ (n : Int) ≤ (m : Int) := by omega
    have hd : decide ((n : Int) ≤ (m : Int)) = false := decide_eq_false hi
    rw [decide_eq_false hle, Bool.false_and]
    clear hclo hI hI2 hbx hn hle
    go_enter Tryd.func71, Tryd.ntmps71
    go_wp2
    go_ret
    exact ⟨rfl, hB⟩
end Go.Proofs.YtjbinejaagpleaaDoor
