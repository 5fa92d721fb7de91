/- The document's code: may a thread's code be. Asked: the code lies. -/
import Derived.Test.YtjbinejaagpleaaDoorRefK
namespace Go.Proofs.YtjbinejaagpleaaDoor
open Go.RowKit

set_option maxRecDepth 100000 in
set_option maxHeartbeats 16000000 in
theorem mcode_core {w : World} {nm : ByteArray} {lo : Int} {ia la : Option Addr} {icap lcap ni nl : Nat} {ins : List InsP} {lines : List Int} (hni : ins.length = ni) (hnl : lines.length = nl) (hib : ni ≤ 281474976710656) (hlb : nl ≤ 281474976710656) (hsz : nm.size ≤ maxLen)
    (hii : Inss w ia ins) (hll : Ints w la lines) :
    Calls Tryd.prog 27 #[.agg #[.string nm, .int .i64 lo, .slice ia ni icap, .slice la nl lcap]] w fun e w' => e = .returned (.bool (tMay ⟨nm, lo, ia, icap, ins, la, lcap, lines⟩)) ∧ Below w.heap.size w w' := by
  obtain ⟨R, hR⟩ : ∃ R, tMay ⟨nm, lo, ia, icap, ins, la, lcap, lines⟩ = R := ⟨_, rfl⟩
  rw [hR]
  have HR := Lib.hid hR
  clear hR
  have hBx : Below w.heap.size w (w.alloc (.cells #[.string nm, .int .i64 lo, .slice ia ni icap, .slice la nl lcap] 51)) := (Below.refl _ _).alloc (Nat.le_refl _) _
  have hX : (w.alloc (.cells #[.string nm, .int .i64 lo, .slice ia ni icap, .slice la nl lcap] 51)).heap[w.heap.size]? = some (.cells #[.string nm, .int .i64 lo, .slice ia ni icap, .slice la nl lcap] 51 (0, 0)) := World.alloc_heap_new _ _
  have HS := Lib.hid (And.intro hBx hX)
  have HI := Lib.hid hii
  have HL := Lib.hid hll
  have HN := Lib.hid (And.intro hni hnl)
  have pw := rwithin_any lo 0 32
  obtain ⟨r0, hr0⟩ : ∃ x, bMay 0 32 lo = x := ⟨_, rfl⟩
  rw [hr0] at pw
  have HW := Lib.hid hr0
  clear hni hnl hii hll hr0 hBx hX
  by_cases h1 : (nm.size : Int) < 1
  · go_enter Tryd.func27, Tryd.ntmps27
    go_wp2
    go_ret
    refine ⟨?_, HS.out.1⟩
    rw [← HR.out]
    simp only [tMay, bMay]
    rw [decide_eq_false (show ¬ ((1 : Int) ≤ (nm.size : Int) ∧ (nm.size : Int) ≤ 16) by omega)]
    rfl
  by_cases h2 : 16 < (nm.size : Int)
  · go_enter Tryd.func27, Tryd.ntmps27
    go_wp2
    go_ret
    refine ⟨?_, HS.out.1⟩
    rw [← HR.out]
    simp only [tMay, bMay]
    rw [decide_eq_false (show ¬ ((1 : Int) ≤ (nm.size : Int) ∧ (nm.size : Int) ≤ 16) by omega)]
    rfl
  have hp : bMay 1 16 (nm.size : Int) = true := by unfold bMay; rw [decide_eq_true (by omega)]
  cases r0 with
  | false =>
    go_enter Tryd.func27, Tryd.ntmps27
    go_wp2_with fail
    refine (pw _).mono ?_
    rintro e w1 ⟨rfl, rfl⟩
    go_wp2
    go_ret
    refine ⟨?_, HS.out.1⟩
    rw [← HR.out]
    simp [tMay, HW.out]
  | true =>
  by_cases h3 : 65536 < (ni : Int)
  · go_enter Tryd.func27, Tryd.ntmps27
    go_wp2_with fail
    refine (pw _).mono ?_
    rintro e w1 ⟨rfl, rfl⟩
    go_wp2
    go_ret
    refine ⟨?_, HS.out.1⟩
    rw [← HR.out]
    simp only [tMay, HN.out.1]
    rw [decide_eq_false (show ¬ ni ≤ 65536 by omega)]
    simp
  by_cases h4 : nl = ni
  · subst h4
    have h4' : ((nl : Int) != (nl : Int)) = false := by simp
    go_enter Tryd.func27, Tryd.ntmps27
    go_wp2_with fail
    refine (pw _).mono ?_
    rintro e w1 ⟨rfl, rfl⟩
    generalize w.alloc (.cells #[.string nm, .int .i64 lo, .slice ia nl icap, .slice la nl lcap] 51) = W0 at *
    have c0 : W0.cell? ⟨w.heap.size, 2, none⟩ = some (.slice ia nl icap) := cell_blk HS.out.2 rfl
    have c1 : W0.cell? ⟨w.heap.size, 3, none⟩ = some (.slice la nl lcap) := cell_blk HS.out.2 rfl
    go_wp2_with fail
    go_loopw [3] (fun x wr => ∃ k : Nat, k ≤ nl ∧ x = .int .i64 k ∧ Hid (∀ j, j < k → iMay (ins.getD j default) = true ∧ bMay 0 65536 (lines.getD j 0) = true) ∧ Hid (Below w.heap.size w wr ∧ wr.heap[w.heap.size]? = some (.cells #[.string nm, .int .i64 lo, .slice ia nl icap, .slice la nl lcap] 51 (0, 0)))) (fun x _ => nl - (intOf x).toNat)
    case atStart => exact ⟨0, Nat.zero_le _, rfl, Lib.hid (fun j hj => by omega), HS⟩
    case round =>
      clear HS c0 c1
      obtain ⟨k, hk, rfl, HJ, HS⟩ := hrel
      have r1 := cell_blk (k := 2) HS.out.2 rfl
      have r2 := cell_blk (k := 3) HS.out.2 rfl
      by_cases hkn : k < nl
      · have hki : (k : Int) < (nl : Int) := by omega
        obtain ⟨b1, o1, rfl, y0, y1, y2, y3⟩ := (HI.out.below HS.out.1 (Nat.le_refl _)) k (by rw [HN.out.1]; exact hkn)
        obtain ⟨b2, o2, rfl, z0⟩ := (HL.out.below HS.out.1 (Nat.le_refl _)) k (by rw [HN.out.2]; exact hkn)
        have cr := right_any (ins.getD k default) wr
        have pl := rwithin_any (lines.getD k 0) 0 65536
        obtain ⟨x, hx⟩ : ∃ x, ins.getD k default = x := ⟨_, rfl⟩
        obtain ⟨y, hy⟩ : ∃ y, lines.getD k 0 = y := ⟨_, rfl⟩
        rw [hx] at y0 y1 y2 y3 cr
        rw [hy] at z0 pl
        obtain ⟨s0, hs0⟩ : ∃ s, iMay x = s := ⟨_, rfl⟩
        obtain ⟨s1, hs1⟩ : ∃ s, bMay 0 65536 y = s := ⟨_, rfl⟩
        rw [hs0] at cr
        rw [hs1] at pl
        have HX := Lib.hid (And.intro hx hs0)
        have HY := Lib.hid (And.intro hy hs1)
        obtain ⟨xc, xa, xb, xn⟩ := x
        dsimp only at y0 y1 y2 y3 cr
        clear hx hy hs0 hs1
        go_wp2_with fail
        refine cr.mono ?_
        rintro e w2 ⟨rfl, hb2⟩
        have r3 : w2.cell? ⟨w.heap.size, 3, none⟩ = some (.slice (some ⟨b2, o2, none⟩) nl lcap) := (hb2.cell (p := ⟨w.heap.size, 3, none⟩) (World.block_lt_of_cell? wr _ r2)).trans r2
        have z1 : w2.cell? ⟨b2, o2 + k, none⟩ = some (.int .i64 y) := (hb2.cell (p := ⟨b2, o2 + k, none⟩) (World.block_lt_of_cell? wr _ z0)).trans z0
        have HS2 : Hid (Below w.heap.size w w2 ∧ w2.heap[w.heap.size]? = _) := Lib.hid ⟨HS.out.1.trans (hb2.mono HS.out.1.size), (hb2.block _ (Array.getElem?_eq_some_iff.1 HS.out.2).1).trans HS.out.2⟩
        clear cr hb2 r1 r2 y0 y1 y2 y3 z0 HS
        cases s0 with
        | false =>
          go_wp2
          go_ret
          refine ⟨?_, HS2.out.1⟩
          rw [← HR.out]
          have hn := not_all (l := ins) (p := iMay) (d := default) (j := k) (by rw [HN.out.1]; exact hkn) (by rw [HX.out.1]; exact HX.out.2)
          simp only [tMay, hn, Bool.and_false, Bool.false_and]
          rfl
        | true =>
          go_wp2_with fail
          refine (pl _).mono ?_
          rintro e w3 ⟨rfl, rfl⟩
          cases s1 with
          | false =>
            go_wp2
            go_ret
            refine ⟨?_, HS2.out.1⟩
            rw [← HR.out]
            have hn := not_all (l := lines) (p := bMay 0 65536) (d := 0) (j := k) (by rw [HN.out.2]; exact hkn) (by rw [HY.out.1]; exact HY.out.2)
            simp only [tMay, hn, Bool.and_false]
            rfl
          | true =>
            go_wp2
            case roundEnd =>
              refine ⟨⟨k + 1, by omega, by go_num, Lib.hid (fun j hj => ?_), HS2⟩, by simp [intOf]; omega⟩
              rcases Nat.lt_or_ge j k with h | h
              · exact HJ.out j h
              · obtain rfl : j = k := by omega
                rw [HX.out.1, HY.out.1]
                exact ⟨HX.out.2, HY.out.2⟩
      · obtain rfl : k = nl := by omega
        go_wp2
        go_ret
        refine ⟨?_, HS.out.1⟩
        rw [← HR.out]
        have a1 : ins.all iMay = true := all_of (d := default) (fun j hj => (HJ.out j (by rw [← HN.out.1]; exact hj)).1)
        have a2 : lines.all (bMay 0 65536) = true := all_of (d := 0) (fun j hj => (HJ.out j (by rw [← HN.out.2]; exact hj)).2)
        have e1 := HN.out.1
        have e2 := HN.out.2
        have e3 : decide (ins.length ≤ 65536) = true := decide_eq_true (by omega)
        have e4 : decide (lines.length ≤ 65536) = true := decide_eq_true (by omega)
        have e5 : (ins.length == lines.length) = true := by rw [e1, e2]; simp
        simp only [tMay, hp, HW.out, a1, a2, e3, e4, e5]
        rfl
  · have h4' : ((nl : Int) != (ni : Int)) = true := by rw [bne_iff_ne]; omega
    have HE := Lib.hid h4
    clear h4
    go_enter Tryd.func27, Tryd.ntmps27
    go_wp2_with fail
    refine (pw _).mono ?_
    rintro e w1 ⟨rfl, rfl⟩
    go_wp2
    go_ret
    refine ⟨?_, HS.out.1⟩
    rw [← HR.out]
    have e5 : (ins.length == lines.length) = false := by rw [HN.out.1, HN.out.2]; exact beq_eq_false_iff_ne.2 (fun e => HE.out e.symm)
    simp only [tMay, e5, Bool.false_and, Bool.and_false]
    rfl
end Go.Proofs.YtjbinejaagpleaaDoor
