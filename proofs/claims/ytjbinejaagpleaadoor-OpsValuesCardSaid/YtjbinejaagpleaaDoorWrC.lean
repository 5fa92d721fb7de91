/- Threads' codes are written. Asked: the writer lies, with its own row of bytes; the codes lie and may be; the table of codes. -/
import Derived.Test.YtjbinejaagpleaaDoorWrT
import Derived.Test.YtjbinejaagpleaaDoorMayC
namespace Go.Proofs.YtjbinejaagpleaaDoor
open Go.RowKit

/-- A code's slices are within memory. -/
def CodeW (B : Nat) (c : CodeM) : Prop := (∀ a, nz c.ins.length c.ia = some a → a.block < B) ∧ c.lines.length ≤ c.lcap
theorem thread_any {w : World} {b base : Nat} {v : Value} {xs : List Nat} (hW : Wr w b base v xs) (hb : base ≤ b) (h0 : 0 < base) (hT : TabC w) (hx0 : 0 < xs.length) (c : CodeM) (hC : ∀ W, Below base w W → CodeOk W c) (hwf : CodeW base c) (hmay : tMay c = true)
    (hxl0 : xs.length ≤ 999999999000) (hx : xs.length + (thrB c).length ≤ 1000000000000) :
    Calls Tryd.prog 24 #[.pointer (some ⟨b, 0, none⟩), .agg #[.string c.name, .int .i64 c.locals, .slice c.ia c.ins.length c.icap, .slice c.la c.lines.length c.lcap]] w fun e w' => e = .returned (.tuple #[]) ∧ ∃ v', Wr w' b base v' (xs ++ thrB c) ∧ WK w w' b v v' := by
  obtain ⟨nm, lo, ia, icap, ins, la, lcap, lines⟩ := c
  have hlen : lines.length = ins.length := by
    simp only [tMay, Bool.and_eq_true, beq_iff_eq] at hmay
    exact hmay.2.2.1.symm
  have h := thread_in 6 (Nat.le_refl _) hW hb hx0 (m := ins.length) rfl hlen (by have := hwf.2; simp only at this; omega) (fun W hB => (hC W hB).ii) (fun W hB => (hC W hB).ll) hT h0 hwf.1 hmay hxl0 hx
  rw [← hlen] at h
  have h2 := callsIn_wide.1 h
  simp only
  rw [← hlen]
  exact h2
set_option maxRecDepth 100000 in
set_option maxHeartbeats 8000000 in
theorem writeCodes_any {w : World} {b base : Nat} {v : Value} {xs : List Nat} (hW : Wr w b base v xs) (hb : base ≤ b) (h0 : 0 < base) (hT : TabC w) {a : Option Addr} {l : List CodeM} {n cap : Nat} (hn : l.length = n) (hn64 : n ≤ 64)
    (hI : ∀ W, Below base w W → Cds W a l) (hv : ∀ c ∈ l, CodeW base c ∧ tMay c = true) (hx : xs.length + (listB thrB l).length ≤ 999999999000) :
    Calls Tryd.prog 23 #[.pointer (some ⟨b, 0, none⟩), .slice a n cap, .func (.func 24) #[.pointer (some ⟨b, 0, none⟩)] #[]] w fun e w' => e = .returned (.tuple #[]) ∧ ∃ v', Wr w' b base v' (xs ++ listB thrB l) ∧ WK w w' b v v' := by
  have HN := Lib.hid hn
  have HI := Lib.hid hI
  have HV := Lib.hid hv
  have HT0 := Lib.hid hT
  have hc := count_any hW n (by omega) (by omega)
  have HX := Lib.hid hx
  have HW := Lib.hid hW
  clear hn hI hv hx hW hT
  go_enter Tryd.func23, Tryd.ntmps23
  go_wp2_with fail
  refine hc.mono ?_
  rintro e w1 ⟨rfl, v1, hW1, hK1⟩
  have HW1 := Lib.hid hW1
  have HK1 := Lib.hid hK1
  clear hc hW1 hK1
  go_wp2_with fail
  go_loopw [14] (fun x wr => ∃ (k : Nat) (ys : List Nat) (u : Value), k ≤ n ∧ x = .int .i64 k ∧ Hid (xs ++ (numB n ++ (l.take k).flatMap thrB) = ys) ∧ Hid (Wr wr b base u ys) ∧ Hid (WK w wr b v u)) (fun x _ => n - (intOf x).toNat)
  case atStart => exact ⟨0, _, _, by omega, rfl, Lib.hid (by simp), HW1, HK1⟩
  case round =>
    obtain ⟨k, ys, u, hk, rfl, HY, HWr, HK⟩ := hrel
    by_cases hkn : k < n
    · have hki : (k : Int) < (n : Int) := by omega
      have hlk : k < l.length := by rw [HN.out]; exact hkn
      have hbel := HK.out.below HW.out hb
      obtain ⟨b1, off, rfl, y0, y1, y2, y3, _⟩ := HI.out wr hbel k hlk
      have hz := HV.out (l.getD k default) (by rw [List.getD_eq_getElem?_getD, List.getElem?_eq_getElem hlk]; exact List.getElem_mem hlk)
      have hT := flat_take thrB default l k hlk
      have hyl : ys.length + (thrB (l.getD k default)).length ≤ 999999999000 := by
        have h1 := flat_take_len thrB l (k + 1)
        rw [← hT] at h1
        have h2 := HX.out
        unfold listB at h2
        rw [← HY.out]
        simp only [List.length_append] at h1 h2 ⊢
        rw [HN.out] at h2
        omega
      have hy0 : 0 < ys.length := by
        rw [← HY.out]
        have : 0 < (numB n).length := by rw [numB.eq_def]; split <;> simp
        simp only [List.length_append]
        omega
      have hcd : ∀ W, Below base wr W → CodeOk W (l.getD k default) := fun W hB => (HI.out W (hbel.trans hB)).ok k hlk
      obtain ⟨c, hc'⟩ : ∃ c, l.getD k default = c := ⟨_, rfl⟩
      rw [hc'] at y0 y1 y2 y3 hz hT hyl hcd
      have hBa : Below wr.heap.size wr (wr.alloc (.cells #[.string c.name, .int .i64 c.locals, .slice c.ia c.ins.length c.icap, .slice c.la c.lines.length c.lcap] 51)) := (Below.refl _ _).alloc (Nat.le_refl _) _
      have hbb : base ≤ wr.heap.size := HWr.out.bs
      have hs := thread_any (HWr.out.below hBa) hb h0 ((HT0.out.below hbel h0).below (hBa.mono hbb) h0) hy0 c (fun W hB => hcd W ((hBa.mono hbb).trans hB)) hz.1 hz.2 (by omega) (by omega)
      have HKA := Lib.hid ((WK.refl wr b u).new hBa (Nat.le_refl _))
      have HT := Lib.hid hT
      obtain ⟨nm, lo, ia, icap, ins, la, lcap, lines⟩ := c
      simp only at y0 y1 y2 y3 hs HKA
      clear hc' hz hT hyl hcd hy0 hbel hBa hbb
      go_wp2_with fail
      refine hs.mono ?_
      rintro e w2 ⟨rfl, v2, hW2, hK2⟩
      have HW2 := Lib.hid hW2
      have HK2 := Lib.hid hK2
      clear hs hW2 hK2 y0 y1 y2 y3
      go_wp2
      go_roundw
      case rel =>
        refine ⟨k + 1, _, _, by omega, by go_num, Lib.hid ?_, HW2, Lib.hid (HK.out.trans (HKA.out.trans HK2.out))⟩
        rw [← HY.out, ← HT.out]
        simp only [List.append_assoc]
      case measure => simp [intOf]; omega
    · obtain rfl : k = n := by omega
      go_wp2
      go_end0
      refine ⟨rfl, _, ?_, HK.out⟩
      have := HY.out
      rw [show l.take k = l by rw [← HN.out]; exact List.take_length] at this
      unfold listB
      rw [HN.out, this]
      exact HWr.out
end Go.Proofs.YtjbinejaagpleaaDoor
