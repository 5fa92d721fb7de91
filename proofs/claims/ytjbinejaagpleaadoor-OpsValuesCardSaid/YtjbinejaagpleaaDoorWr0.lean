/- The first number is written behind a literal's bytes. Asked: the writer holds the literal's row. -/
import Derived.Test.YtjbinejaagpleaaDoorWr2
import Derived.ArgAppend
namespace Go.Proofs.YtjbinejaagpleaaDoor
open Go.RowKit

def magB : List Nat := [87, 65, 82, 80]
/-- A writer that holds the literal's row, in block g. -/
structure Wr0 (w : World) (b g base : Nat) : Prop where
  bx : Boxed w b 56 (.slice (some ⟨g, 0, none⟩) 4 4)
  hc : ∀ j u, (u8s [87, 65, 82, 80])[j]? = some u → w.cell? ((⟨g, 0, none⟩ : Addr).add j) = some u
  bg : base ≤ g
  gw : g < w.heap.size
  ne : b ≠ g
set_option maxRecDepth 100000 in
set_option maxHeartbeats 8000000 in
theorem number0_any {w : World} {b g base : Nat} (hW : Wr0 w b g base) (n : Nat) (hn : n < 128) :
    Calls Tryd.prog 51 #[.pointer (some ⟨b, 0, none⟩), .int .u64 (n : Int)] w fun e w' => e = .returned (.tuple #[]) ∧ ∃ v', Wr w' b base v' (magB ++ numB n) ∧ WK w w' b (.slice (some ⟨g, 0, none⟩) 4 4) v' := by
  obtain ⟨i0, hi0, hz0, hz1, hz2⟩ := info_parts info5
  have hmi : ¬ (128 : Int) ≤ (n : Int) := by omega
  have HN := Lib.hid hn
  have HW := Lib.hid hW
  have c0 := hW.bx.cell
  have f0 := hW.bx.frozen
  clear hn hW
  go_enter Tryd.func51, Tryd.ntmps51
  go_wp2_with fail
  go_loopw [1] (fun x wr => x = .int .u64 n ∧ Hid (w = wr)) (fun _ _ => 0)
  case atStart => exact ⟨rfl, Lib.hid rfl⟩
  case round =>
    obtain ⟨rfl, HWW⟩ := hrel
    obtain rfl := HWW.out
    have k1 : (some (⟨g, 0, none⟩ : Addr)) = none → 4 = 0 ∧ 4 = 0 := fun h => by cases h
    have k2 : ∀ bb, (some (⟨g, 0, none⟩ : Addr)) = some bb → ∀ j u, (u8s [87, 65, 82, 80])[j]? = some u → (w.alloc (.cells #[.int .u8 (n : Int)] 5)).cell? (bb.add j) = some u := by
      intro bb hbb j u hu
      obtain rfl := Option.some.inj hbb
      have h1 := HW.out.hc j u hu
      have hlt : ((⟨g, 0, none⟩ : Addr).add j).block < w.heap.size := by
        rw [Addr.add_lit]
        exact HW.out.gw
      exact (((Below.refl _ w).alloc (Nat.le_refl _) (.cells #[.int .u8 (n : Int)] 5)).cell hlt).trans h1
    have k3 : ∀ j u, ([Value.int .u8 (n : Int)])[j]? = some u → (w.alloc (.cells #[.int .u8 (n : Int)] 5)).cell? ((⟨w.heap.size, 0, none⟩ : Addr).add j) = some u := fun j u => one_cell w (.int .u8 (n : Int)) 5 j u
    have k4 : ∀ u ∈ [Value.int .u8 (n : Int)], u.oneCell' = true := by simp [Value.oneCell']
    have K1 := Lib.hid k1
    have K2 := Lib.hid k2
    have K3 := Lib.hid k3
    have K4 := Lib.hid k4
    clear k1 k2 k3 k4
    go_wp2_with (at_builtin; refine wpList_append_grows _ rfl (.tmp 27) (.tmp 30) 28 rfl 5 i0 (.int .u8 0) 1 1 Tryd.underlying28 hi0 hz0 hz1 hz2 rfl (by decide) (some ⟨g, 0, none⟩) 4 4 (u8s [87, 65, 82, 80]) rfl K1.out rfl K2.out ⟨w.heap.size, 0, none⟩ 1 1 [.int .u8 (n : Int)] rfl rfl K3.out K4.out (by decide) (by decide) (by decide) ?_)
    intro v' w1 hown hgrow
    have hgb : Below (w.alloc (.cells #[.int .u8 (n : Int)] 5)).heap.size (w.alloc (.cells #[.int .u8 (n : Int)] 5)) w1 := ⟨hgrow.os, hgrow.tape, hgrow.output, hgrow.size, fun k hk => hgrow.block k hk (by simp)⟩
    obtain ⟨g1, cap1, rfl, hg1, _⟩ := hown.form (by decide)
    have hsz : (w.alloc (.cells #[.int .u8 (n : Int)] 5)).heap.size = w.heap.size + 1 := by simp
    have hbl : Below w.heap.size w w1 := ((Below.refl _ w).alloc (Nat.le_refl _) _).trans (hgb.mono (by omega))
    have hb1 : Boxed w1 b 56 (.slice (some ⟨g, 0, none⟩) 4 4) := (hbl.block b HW.out.bx.lt).trans HW.out.bx
    have e0 := hb1.cell
    have e1 := hb1.frozen
    have hbw := HW.out.bx.lt
    have hgw := HW.out.gw
    have hbg := HW.out.bg
    have hwr : Wr (w1.setCell ⟨b, 0, none⟩ (.slice (some ⟨g1, 0, none⟩) 5 cap1)) b base (.slice (some ⟨g1, 0, none⟩) 5 cap1) (magB ++ numB n) := by
      rw [numB_lt HN.out]
      unfold magB
      refine ⟨hb1.set _, ?_, ?_⟩
      · have h2 : w1.ownsRow base 5 1 (.slice (some ⟨g1, 0, none⟩) 5 cap1) 5 (u8s ([87, 65, 82, 80] ++ [n])) := ownsRow_base (b' := base) (by simpa [u8s] using hown) (by omega)
        refine h2.kept (row := some b) (grownBy_setCell' w1 b _) (.inr (fun e => ?_))
        have : g1 = b := by simpa [Value.ownBlock] using e
        omega
      · have := hbl.size
        simp [World.setCell]
        omega
    have hwk : WK w (w1.setCell ⟨b, 0, none⟩ (.slice (some ⟨g1, 0, none⟩) 5 cap1)) b (.slice (some ⟨g, 0, none⟩) 4 4) (.slice (some ⟨g1, 0, none⟩) 5 cap1) := by
      refine ⟨hbl.os, hbl.tape, hbl.output, by simpa [World.setCell] using hbl.size, fun k hk h1 _ => (Below.heap_setCell w1 ⟨b, 0, none⟩ _ k h1).trans (hbl.block k hk), .inr ⟨g1, rfl, by omega⟩⟩
    have HWR := Lib.hid hwr
    have HWK := Lib.hid hwk
    clear hown hgrow hgb hg1 hsz hbl hb1 hwr hwk hbw hgw hbg
    go_wp2
    go_end0
    exact ⟨rfl, _, HWR.out, HWK.out⟩
theorem count0_any {w : World} {b g base : Nat} (hW : Wr0 w b g base) (n : Nat) (hn : n < 128) :
    Calls Tryd.prog 22 #[.pointer (some ⟨b, 0, none⟩), .int .i64 (n : Int)] w fun e w' => e = .returned (.tuple #[]) ∧ ∃ v', Wr w' b base v' (magB ++ numB n) ∧ WK w w' b (.slice (some ⟨g, 0, none⟩) 4 4) v' := by
  have hc := number0_any hW n hn
  have hmod : (n : Int) % 18446744073709551616 = (n : Int) := by omega
  go_enter Tryd.func22, Tryd.ntmps22
  go_wp2_with fail
  refine hc.mono ?_
  rintro e w1 ⟨rfl, hpost⟩
  have HP := Lib.hid hpost
  clear hpost
  go_wp2
  go_end0
  exact ⟨rfl, HP.out⟩
theorem Wr0.below {w w' : World} {b g base : Nat} {v' : Value} (h : Wr0 w b g base) (hk : WK w w' b (.slice (some ⟨g, 0, none⟩) 4 4) v') (hb : base ≤ b) : Below base w w' := by
  have h1 := h.bg
  have h2 := h.gw
  refine ⟨hk.os, hk.tape, hk.output, hk.size, fun k hk0 => hk.block k (by omega) (by omega) (fun e => ?_)⟩
  have : k = g := by simpa [Value.ownBlock] using e
  omega
set_option maxRecDepth 100000 in
set_option maxHeartbeats 8000000 in
theorem writeVars0_any {w : World} {b g base : Nat} (hW : Wr0 w b g base) (hb : base ≤ b) {a : Option Addr} {l : List Int} {n cap : Nat} (hn : l.length = n)
    (hI : ∀ W, Below base w W → Ints W a l) (hv : ∀ z ∈ l, -4611686018427387904 ≤ z ∧ z < 4611686018427387904) (hn64 : n < 128) (hx : magB.length + (listB sgnB l).length ≤ 1000000000000) :
    Calls Tryd.prog 19 #[.pointer (some ⟨b, 0, none⟩), .slice a n cap, .func (.func 20) #[.pointer (some ⟨b, 0, none⟩)] #[]] w fun e w' => e = .returned (.tuple #[]) ∧ ∃ v', Wr w' b base v' (magB ++ listB sgnB l) ∧ WK w w' b (.slice (some ⟨g, 0, none⟩) 4 4) v' := by
  have HN := Lib.hid hn
  have HI := Lib.hid hI
  have HV := Lib.hid hv
  have hnl : n ≤ 1000000000000 := by
    have h1 : ∀ l : List Int, l.length ≤ (l.flatMap sgnB).length := by
      intro l
      induction l with
      | nil => simp
      | cons x l ih =>
        simp only [List.length_cons, List.flatMap_cons, List.length_append]
        have : 0 < (sgnB x).length := by unfold sgnB; rw [numB.eq_def]; split <;> simp
        omega
    have := h1 l
    unfold listB at hx
    rw [List.length_append] at hx
    omega
  have hc := count0_any hW n hn64
  have HX := Lib.hid hx
  have HW := Lib.hid hW
  clear hn hI hv hx hW
  go_enter Tryd.func19, Tryd.ntmps19
  go_wp2_with fail
  refine hc.mono ?_
  rintro e w1 ⟨rfl, v1, hW1, hK1⟩
  have HW1 := Lib.hid hW1
  have HK1 := Lib.hid hK1
  clear hc hW1 hK1
  go_wp2_with fail
  go_loopw [14] (fun x wr => ∃ (k : Nat) (ys : List Nat) (u : Value), k ≤ n ∧ x = .int .i64 k ∧ Hid (magB ++ (numB n ++ (l.take k).flatMap sgnB) = ys) ∧ Hid (Wr wr b base u ys) ∧ Hid (WK w wr b (.slice (some ⟨g, 0, none⟩) 4 4) u)) (fun x _ => n - (intOf x).toNat)
  case atStart => exact ⟨0, _, _, by omega, rfl, Lib.hid (by simp), HW1, HK1⟩
  case round =>
    obtain ⟨k, ys, u, hk, rfl, HY, HWr, HK⟩ := hrel
    by_cases hkn : k < n
    · have hki : (k : Int) < (n : Int) := by omega
      have hlk : k < l.length := by rw [HN.out]; exact hkn
      obtain ⟨b1, off, rfl, y0⟩ := HI.out wr (HW.out.below HK.out hb) k hlk
      have hz := HV.out (l.getD k 0) (by rw [List.getD_eq_getElem?_getD, List.getElem?_eq_getElem hlk]; exact List.getElem_mem hlk)
      have hT := flat_take sgnB 0 l k hlk
      have hyl : ys.length + (sgnB (l.getD k 0)).length ≤ 1000000000000 := by
        have h1 := flat_take_len sgnB l (k + 1)
        rw [← hT] at h1
        have h2 := HX.out
        unfold listB at h2
        rw [← HY.out]
        simp only [List.length_append] at h1 h2 ⊢
        rw [HN.out] at h2
        omega
      obtain ⟨z, hz'⟩ : ∃ z, l.getD k 0 = z := ⟨_, rfl⟩
      rw [hz'] at y0 hz hT hyl
      have hs := signed_any HWr.out z hz.1 hz.2 (by omega)
      have HT := Lib.hid hT
      clear hz' hz hT hyl
      go_wp2_with fail
      refine hs.mono ?_
      rintro e w2 ⟨rfl, v2, hW2, hK2⟩
      have HW2 := Lib.hid hW2
      have HK2 := Lib.hid hK2
      clear hs hW2 hK2 y0
      go_wp2
      go_roundw
      case rel =>
        refine ⟨k + 1, _, _, by omega, by go_num, Lib.hid ?_, HW2, Lib.hid (HK.out.trans HK2.out)⟩
        rw [← HY.out, ← HT.out]
        simp only [List.append_assoc]
      case measure => simp [intOf]; omega
    · obtain rfl : k = n := by omega
      go_wp2
      go_end0
      refine ⟨rfl, _, ?_, HK.out⟩
      have := HY.out
      rw [show l.take k = l by rw [← HN.out]; exact List.take_length] at this
      unfold listB
      rw [HN.out, this]
      exact HWr.out
end Go.Proofs.YtjbinejaagpleaaDoor
