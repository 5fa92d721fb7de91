/- Are there at most so many threads, and may each of them be, as the program tells it. Asked: the list lies; the table of codes. -/
import Derived.Test.YtjbinejaagpleaaDoorThr
namespace Go.Proofs.YtjbinejaagpleaaDoor
open Go.RowKit

instance : Inhabited CodeM := ⟨⟨⟨#[]⟩, 0, none, 0, [], none, 0, []⟩⟩
/-- The slice at a holds the threads' codes l. -/
def Cds (w : World) (a : Option Addr) (l : List CodeM) : Prop := ∀ i, i < l.length → ∃ b off, a = some ⟨b, off, none⟩ ∧
  w.cell? ⟨b, off + i * 4, none⟩ = some (.string (l.getD i default).name) ∧ w.cell? ⟨b, off + i * 4 + 1, none⟩ = some (.int .i64 (l.getD i default).locals) ∧
  w.cell? ⟨b, off + i * 4 + 2, none⟩ = some (.slice (l.getD i default).ia (l.getD i default).ins.length (l.getD i default).icap) ∧ w.cell? ⟨b, off + i * 4 + 3, none⟩ = some (.slice (l.getD i default).la (l.getD i default).lines.length (l.getD i default).lcap) ∧ CodeOk w (l.getD i default)
theorem Cds.below {w w' : World} {a : Option Addr} {l : List CodeM} {B : Nat} (h : Cds w a l) (hb : Below B w w') (hB : w.heap.size ≤ B) : Cds w' a l := fun i hi => by
  obtain ⟨b, off, rfl, h0, h1, h2, h3, h4⟩ := h i hi
  have hlt := World.block_lt_of_cell? w _ h0
  have hc := fun o => hb.cell (p := ⟨b, o, none⟩) (Nat.lt_of_lt_of_le hlt hB)
  exact ⟨b, off, rfl, (hc _).trans h0, (hc _).trans h1, (hc _).trans h2, (hc _).trans h3, h4.below hb hB⟩
theorem Cds.ok {w : World} {a : Option Addr} {l : List CodeM} (h : Cds w a l) (i : Nat) (hi : i < l.length) : CodeOk w (l.getD i default) := by
  obtain ⟨_, _, _, _, _, _, _, h4⟩ := h i hi
  exact h4

set_option maxRecDepth 100000 in
set_option maxHeartbeats 4000000 in
theorem idx_c {w : World} {a : Option Addr} {l : List CodeM} {n cap : Nat} (hn : l.length = n) (hm : n ≤ 281474976710656) (hI : Cds w a l) (p : CodeM → Bool) (bx : Nat)
    (hclo : ∀ i, i < n → ∀ W, Below w.heap.size w W → Calls Tryd.prog 70 #[.agg #[.string (l.getD i default).name, .int .i64 (l.getD i default).locals, .slice (l.getD i default).ia (l.getD i default).ins.length (l.getD i default).icap, .slice (l.getD i default).la (l.getD i default).lines.length (l.getD i default).lcap], .pointer (some ⟨bx, 0, none⟩)] W fun e w' => e = .returned (.bool (!p (l.getD i default))) ∧ Below W.heap.size W w') :
    Calls Tryd.prog 83 #[.slice a n cap, .func (.func 70) #[] #[.pointer (some ⟨bx, 0, none⟩)]] w fun e w' => ∃ r : Int, e = .returned (.int .i64 r) ∧ decide (0 ≤ r) = !(l.all p) ∧ Below w.heap.size w w' := by
  have HN := Lib.hid hn
  have HCLO := Lib.hid hclo
  clear hn hclo
  go_enter Tryd.func83, Tryd.ntmps83
  go_wp2_with fail
  go_loopw [8] (fun i wr => ∃ k : Nat, k ≤ n ∧ i = .int .i64 k ∧ Hid (∀ j, j < k → p (l.getD j default) = true) ∧ Hid (Below w.heap.size w wr)) (fun i _ => n - (intOf i).toNat)
  case atStart => exact ⟨0, Nat.zero_le _, rfl, Lib.hid (fun j hj => by omega), Lib.hid (Below.refl _ _)⟩
  case round =>
    obtain ⟨k, hk, rfl, HP, HB⟩ := hrel
    by_cases hkn : k < n
    · have hp0 : (0 : Int) ≤ (k : Int) := by omega
      have hp1 : (k : Int) < (n : Int) := by omega
      have hI2 := hI.below HB.out (Nat.le_refl _)
      obtain ⟨b, off, rfl, y0, y1, y2, y3, y4⟩ := hI2 k (by rw [HN.out]; exact hkn)
      have hc := HCLO.out k hkn wr HB.out
      obtain ⟨x, hx⟩ : ∃ x, l.getD k default = x := ⟨_, rfl⟩
      rw [hx] at y0 y1 y2 y3 y4 hc
      obtain ⟨q, hq⟩ : ∃ q, p x = q := ⟨_, rfl⟩
      rw [hq] at hc
      have HQ := Lib.hid (show p (l.getD k default) = q by rw [hx]; exact hq)
      clear hx hq hI2
      go_wp2_with fail
      refine hc.mono ?_
      rintro e w1 ⟨rfl, hb1⟩
      have HB1 := Lib.hid (HB.out.trans (hb1.mono HB.out.size))
      clear hc hb1 y0 y1 y2 y3 y4 HB
      cases q
      · go_wp2
        go_ret
        refine ⟨(k : Int), rfl, ?_, HB1.out⟩
        rw [not_all (by rw [HN.out]; exact hkn) HQ.out, decide_eq_true hp0]
        rfl
      · go_wp2
        go_roundw
        case rel => exact ⟨k + 1, by omega, by go_num, Lib.hid (fun j hj => by
          rcases Nat.lt_or_ge j k with h | h
          · exact HP.out j h
          · obtain rfl : j = k := by omega
            exact HQ.out), HB1⟩
        case measure => simp [intOf]; omega
    · obtain rfl : k = n := by omega
      go_wp2
      go_ret
      refine ⟨-1, rfl, ?_, HB.out⟩
      rw [all_of (d := default) (fun j hj => HP.out j (by rw [← HN.out]; exact hj))]
      rfl

set_option maxRecDepth 100000 in
theorem cont_c {w : World} {a : Option Addr} {l : List CodeM} {n cap : Nat} (hn : l.length = n) (hm : n ≤ 281474976710656) (hI : Cds w a l) (p : CodeM → Bool) (bx : Nat)
    (hclo : ∀ i, i < n → ∀ W, Below w.heap.size w W → Calls Tryd.prog 70 #[.agg #[.string (l.getD i default).name, .int .i64 (l.getD i default).locals, .slice (l.getD i default).ia (l.getD i default).ins.length (l.getD i default).icap, .slice (l.getD i default).la (l.getD i default).lines.length (l.getD i default).lcap], .pointer (some ⟨bx, 0, none⟩)] W fun e w' => e = .returned (.bool (!p (l.getD i default))) ∧ Below W.heap.size W w') :
    Calls Tryd.prog 69 #[.slice a n cap, .func (.func 70) #[] #[.pointer (some ⟨bx, 0, none⟩)]] w fun e w' => e = .returned (.bool (!(l.all p))) ∧ Below w.heap.size w w' := by
  have ci := idx_c (cap := cap) hn hm hI p bx hclo
  obtain ⟨q, hq⟩ : ∃ q, (!(l.all p)) = q := ⟨_, rfl⟩
  rw [hq] at ci ⊢
  have HCI := Lib.hid ci
  clear ci hn hclo hI hq
  go_enter Tryd.func69, Tryd.ntmps69
  go_wp2_with fail
  refine HCI.out.mono ?_
  rintro e w1 ⟨r, rfl, hr, hb1⟩
  clear HCI
  go_wp2
  go_ret
  exact ⟨rfl, hb1⟩

set_option maxRecDepth 100000 in
set_option maxHeartbeats 1000000 in
theorem may_c {w : World} {a : Option Addr} {l : List CodeM} {n cap m : Nat} (hn : l.length = n) (hm : n ≤ 281474976710656) (hI : Cds w a l) (hT : TabC w) :
    Calls Tryd.prog 40 #[.slice a n cap, .int .i64 (m : Int), .func (.func 41) #[] #[]] w fun e w' => e = .returned (.bool (decide (n ≤ m) && l.all tMay)) ∧ Below w.heap.size w w' := by
  have hB : Below w.heap.size w (w.alloc (.cells #[.func (.func 41) #[] #[]] 64)) := (Below.refl _ w).alloc (Nat.le_refl _) _
  have hbx : (w.alloc (.cells #[.func (.func 41) #[] #[]] 64)).heap[w.heap.size]? = some (.cells #[.func (.func 41) #[] #[]] 64 (0, 0)) := World.alloc_heap_new _ _
  have hI2 := hI.below hB (Nat.le_refl _)
  have hlt : w.heap.size < (w.alloc (.cells #[.func (.func 41) #[] #[]] 64)).heap.size := by simp
  have hclo : ∀ i, i < n → ∀ W, Below (w.alloc (.cells #[.func (.func 41) #[] #[]] 64)).heap.size (w.alloc (.cells #[.func (.func 41) #[] #[]] 64)) W → Calls Tryd.prog 70 #[.agg #[.string (l.getD i default).name, .int .i64 (l.getD i default).locals, .slice (l.getD i default).ia (l.getD i default).ins.length (l.getD i default).icap, .slice (l.getD i default).la (l.getD i default).lines.length (l.getD i default).lcap], .pointer (some ⟨w.heap.size, 0, none⟩)] W fun e w' => e = .returned (.bool (!tMay (l.getD i default))) ∧ Below W.heap.size W w' := by
    intro i hin W hW
    have hk := hI2.ok i (by rw [hn]; exact hin)
    obtain ⟨x, hx⟩ : ∃ x, l.getD i default = x := ⟨_, rfl⟩
    rw [hx] at hk ⊢
    clear hx
    have hc0 : W.cell? ⟨w.heap.size, 0, none⟩ = some (.func (.func 41) #[] #[]) := by
      have h2 := (hW.block _ hlt).trans hbx
      simp [World.cell?, h2]
    have hT2 := (hT.below hB hT.1).below hW (by simp)
    have hBX : Below W.heap.size W (W.alloc (.cells #[.string x.name, .int .i64 x.locals, .slice x.ia x.ins.length x.icap, .slice x.la x.lines.length x.lcap] 51)) := (Below.refl _ W).alloc (Nat.le_refl _) _
    have hT3 := hT2.below hBX hT2.1
    have hk3 := (hk.below hW (Nat.le_refl _)).below hBX (Nat.le_refl _)
    have hc1 : w.heap.size < W.heap.size := Nat.lt_of_lt_of_le hlt hW.size
    clear hT2 hk
    go_enter Tryd.func70, Tryd.ntmps70
    go_wp2_with fail
    refine (threadMay_any x _ hT3 hk3).mono ?_
    rintro e w1 ⟨rfl, hb1⟩
    have hBf := hBX.trans (hb1.mono hBX.size)
    go_wp2
    go_ret
    exact ⟨rfl, hBf⟩
  by_cases hle : n ≤ m
  · have hi : (n : Int) ≤ (m : Int) := by omega
    have hd : decide ((n : Int) ≤ (m : Int)) = true := decide_eq_true hi
    rw [decide_eq_true hle, Bool.true_and]
    have cc := cont_c (cap := cap) hn hm hI2 tMay w.heap.size hclo
    obtain ⟨q, hq⟩ : ∃ q, l.all tMay = q := ⟨_, rfl⟩
    rw [hq] at cc ⊢
    have HCC := Lib.hid cc
    clear cc hclo hI hI2 hbx hn hq hle
    go_enter Tryd.func40, Tryd.ntmps40
    go_wp2_with fail
    refine HCC.out.mono ?_
    rintro e w1 ⟨rfl, hb1⟩
    have hB1 := hB.trans (hb1.mono hB.size)
    clear HCC
    cases q
    all_goals
      go_wp2
      go_ret
      exact ⟨rfl, hB1⟩
  · have hi : ¬ (n : Int) ≤ (m : Int) := by omega
    have hd : decide ((n : Int) ≤ (m : Int)) = false := decide_eq_false hi
    rw [decide_eq_false hle, Bool.false_and]
    clear hclo hI hI2 hbx hn hle
    go_enter Tryd.func40, Tryd.ntmps40
    go_wp2
    go_ret
    exact ⟨rfl, hB⟩
end Go.Proofs.YtjbinejaagpleaaDoor
