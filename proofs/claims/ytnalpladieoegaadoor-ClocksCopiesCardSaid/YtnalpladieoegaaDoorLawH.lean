/- The law on copies: a copy has the same and goes on apart. Asked: the calls lie there; the table of powers of ten is laid. -/
import Derived.Test.YtnalpladieoegaaDoorSame
import Derived.Test.YtnalpladieoegaaDoorPlay
import Derived.Test.YtnalpladieoegaaDoorLawD
namespace Go.Proofs.YtnalpladieoegaaDoor
open Go.RowKit Go.Shelf

/-- What stands behind the call: the watch gone on, its copy, the document's two, in their boxes. -/
structure CopB (w W : World) (p tb pb p2 t2 b2 j1 j2 sb g1 k1 g2 k2 sc a1 l1 a2 l2 : Nat) (th pl th' pl' : List Ck) : Prop where
  wt : Wt W p tb pb th' pl'
  wc : WtC W p2 t2 b2 j1 j2 th pl
  r1 : RL W g1 k1 th
  r2 : RL W g2 k2 pl
  q1 : RL W a1 l1 th'
  q2 : RL W a2 l2 pl'
  bx : Bx W sb (.slice (some ⟨g1, 0, none⟩) th.length k1) (.slice (some ⟨g2, 0, none⟩) pl.length k2)
  cx : Bx W sc (.slice (some ⟨a1, 0, none⟩) th'.length l1) (.slice (some ⟨a2, 0, none⟩) pl'.length l2)
  bel : Below w.heap.size w W
theorem CopB.belowS {w W W' : World} {p tb pb p2 t2 b2 j1 j2 sb g1 k1 g2 k2 sc a1 l1 a2 l2 : Nat} {th pl th' pl' : List Ck} (h : CopB w W p tb pb p2 t2 b2 j1 j2 sb g1 k1 g2 k2 sc a1 l1 a2 l2 th pl th' pl') (hb : Below W.heap.size W W') : CopB w W' p tb pb p2 t2 b2 j1 j2 sb g1 k1 g2 k2 sc a1 l1 a2 l2 th pl th' pl' :=
  ⟨h.wt.below hb, h.wc.below hb, h.r1.belowS hb, h.r2.belowS hb, h.q1.belowS hb, h.q2.belowS hb, h.bx.belowS hb, h.cx.belowS hb, h.bel.trans (hb.mono h.bel.size)⟩

set_option maxRecDepth 100000 in
set_option maxHeartbeats 8000000 in
theorem copies_any {w : World} {n m : Int} {s : Option Addr} {len cap : Nat} {x y z : Int} (hs : Acts w s len) (ht : Tab w) (h0 : 0 < w.heap.size) :
    Calls Tryd.prog 11 #[.int .i64 n, .int .i64 m, .slice s len cap, .agg #[.int .i64 x, .int .i64 y, .int .i64 z]] w fun e w' => e = .returned (.bool true) ∧ Below w.heap.size w w' := by
  have hb0 : Below w.heap.size w (w.alloc (.cells #[.int .i64 x, .int .i64 y, .int .i64 z] 46)) := (Below.refl _ w).alloc (Nat.le_refl _) _
  have hx0 : Tx (w.alloc (.cells #[.int .i64 x, .int .i64 y, .int .i64 z] 46)) w.heap.size x y z := World.alloc_heap_new _ _
  have hs0 := hs.below hb0
  rcases small_or n m len with hs' | ⟨n', m', rfl, rfl, e1, e2, e3, e4⟩
  · have c1 := small_no (w.alloc (.cells #[.int .i64 x, .int .i64 y, .int .i64 z] 46)) n m s len cap hs'
    clear hs' hx0 hs0
    go_enter Tryd.func11, Tryd.ntmps11
    go_wp2_with fail
    change Calls _ _ _ (w.alloc (.cells #[.int .i64 x, .int .i64 y, .int .i64 z] 46)) _
    refine c1.mono ?_
    generalize w.alloc (.cells #[.int .i64 x, .int .i64 y, .int .i64 z] 46) = W0 at *
    rintro e w' ⟨rfl, rfl⟩
    go_wp2_with fail
    refine (works_any _ (ht.below hb0 h0) (by have := hb0.size; omega)).mono ?_
    rintro e w' ⟨rfl, hb⟩
    go_wp2
    go_ret
    exact ⟨rfl, hb0.trans (hb.mono hb0.size)⟩
  · have c1 := small_yes (w.alloc (.cells #[.int .i64 x, .int .i64 y, .int .i64 z] 46)) n' m' s len cap (by omega) (by omega) (by omega) (by omega) (by omega)
    have cN : ∀ W, Calls Tryd.prog 26 #[.int .i64 (n' : Int), .int .i64 ((m' : Int) + 1)] W (NewPost n' (m' + 1) W) := fun W => by
      have h := new_in n' (m' + 1) W e1 e2 (by omega)
      rw [Int.natCast_add] at h
      exact h
    go_enter Tryd.func11, Tryd.ntmps11
    go_wp2_with fail
    change Calls _ _ _ (w.alloc (.cells #[.int .i64 x, .int .i64 y, .int .i64 z] 46)) _
    refine c1.mono ?_
    have sz0 := hb0.size
    have hbx := hx0.lt
    generalize w.alloc (.cells #[.int .i64 x, .int .i64 y, .int .i64 z] 46) = W0 at *
    rintro e w' ⟨rfl, rfl⟩
    clear c1
    go_wp2_with fail
    refine (played_any hs0 e1 e2 e3 e4).mono ?_
    rintro e w1 ⟨p, tb, pb, v, th, pl, rfl, ⟨hW, g1, k1, g2, k2, rfl, hR1, hR2, n1, n2, n3, n4⟩, hthl, hpll, hB1, u1, u2, u3⟩
    have f0 : 0 < th.length := by omega
    have f8 : th.length ≤ 8 := by omega
    have fm : pl.length ≤ 65536 := by omega
    have fm2 : pl.length ≤ 20 := by omega
    have FL := Lib.hid (And.intro hthl hpll)
    have sz1 := hB1.size
    have hB := (hb0.trans (hB1.mono sz0)).alloc (hb0.trans (hB1.mono sz0)).size (.cells #[(.slice (some ⟨g1, 0, none⟩) th.length k1), (.slice (some ⟨g2, 0, none⟩) pl.length k2)] 41)
    have hX := (hx0.belowS hB1).alloc (.cells #[(.slice (some ⟨g1, 0, none⟩) th.length k1), (.slice (some ⟨g2, 0, none⟩) pl.length k2)] 41)
    have hW2 := hW.kept (grown_alloc w1 (.cells #[(.slice (some ⟨g1, 0, none⟩) th.length k1), (.slice (some ⟨g2, 0, none⟩) pl.length k2)] 41))
    have hR12 := hR1.alloc (.cells #[(.slice (some ⟨g1, 0, none⟩) th.length k1), (.slice (some ⟨g2, 0, none⟩) pl.length k2)] 41)
    have hR22 := hR2.alloc (.cells #[(.slice (some ⟨g1, 0, none⟩) th.length k1), (.slice (some ⟨g2, 0, none⟩) pl.length k2)] 41)
    have hE := Bx.new w1 (.slice (some ⟨g1, 0, none⟩) th.length k1) (.slice (some ⟨g2, 0, none⟩) pl.length k2)
    have q0 := hW.ptl
    have q1 := hW.tc.lt
    have q2 := hW.pc.lt
    obtain ⟨sb, hsb⟩ : ∃ s, w1.heap.size = s := ⟨_, rfl⟩
    have d1 : sb ≠ tb ∧ sb ≠ pb := by omega
    have d2 : w.heap.size ≤ tb ∧ w.heap.size ≤ pb := by omega
    have d3 : w.heap.size ≠ tb ∧ w.heap.size ≠ pb := by omega
    have HD := Lib.hid (And.intro d1 (And.intro d2 d3))
    have HN := Lib.hid (And.intro n1 (And.intro n2 (And.intro n3 n4)))
    clear d1 d2 d3 n1 n2 n3 n4 q0 q1 q2 u1 u2 u3 hW hR1 hR2 hB1 hx0 hb0 hthl hpll sz0 sz1 hbx hs0
    go_wp2_with fail
    have hsz : w1.heap.size ≤ (w1.alloc (.cells #[(.slice (some ⟨g1, 0, none⟩) th.length k1), (.slice (some ⟨g2, 0, none⟩) pl.length k2)] 41)).heap.size := by simp
    change Calls _ _ _ (w1.alloc (.cells #[(.slice (some ⟨g1, 0, none⟩) th.length k1), (.slice (some ⟨g2, 0, none⟩) pl.length k2)] 41)) _
    rw [hsb] at hE hsz
    clear hsb
    generalize w1.alloc (.cells #[(.slice (some ⟨g1, 0, none⟩) th.length k1), (.slice (some ⟨g2, 0, none⟩) pl.length k2)] 41) = W2 at *
    refine (copy_any (hW2.cap (Nat.le_trans f8 (by decide)) (Nat.le_trans fm (by decide))) f0 (by omega) fm).mono ?_
    rintro e w3 ⟨p2, t2, b2, j1, j2, rfl, hC, hb3, r1, r2, r3⟩
    have y1 := hW2.tc.lt
    have y2 := hW2.pc.lt
    have d1 : p2 ≠ tb ∧ p2 ≠ pb := by omega
    have d2 : t2 ≠ tb ∧ t2 ≠ pb := by omega
    have d3 : b2 ≠ tb ∧ b2 ≠ pb := by omega
    have HE := Lib.hid (And.intro d1 (And.intro d2 d3))
    have hW3 := hW2.below hb3
    have hR13 := hR12.belowS hb3
    have hR23 := hR22.belowS hb3
    have hE3 := hE.belowS hb3
    have hX3 := hX.belowS hb3
    have hB3 := hB.trans (hb3.mono hB.size)
    clear d1 d2 d3 y1 y2 r1 r2 r3 hW2 hR12 hR22 hE hX hB hb3 hsz
    go_wp2_with fail
    have sm := same_any (hW3.cap (Nat.le_trans f8 (by decide)) (Nat.le_trans fm (by decide))) hC f0 f0 f8 fm
    rw [eqL_refl, eqL_refl, Bool.and_self] at sm
    refine sm.mono ?_
    clear sm
    rintro e w4 ⟨rfl, hb4⟩
    have hC4 := hC.below hb4
    have hW4 := hW3.below hb4
    have hR14 := hR13.belowS hb4
    have hR24 := hR23.belowS hb4
    have hE4 := hE3.belowS hb4
    have hX4 := hX3.belowS hb4
    have hB4 := hB3.trans (hb4.mono hB3.size)
    clear hC hW3 hR13 hR23 hE3 hX3 hB3 hb4
    have b0 := hE4.c0
    have b1 := hE4.c1
    have t0 := hX4.c0
    have t1 := hX4.c1
    have t2' := hX4.c2
    go_wp2_with fail
    have hT4 : Two w4 p tb pb (.agg #[(.slice (some ⟨g1, 0, none⟩) th.length k1), (.slice (some ⟨g2, 0, none⟩) pl.length k2)]) th pl := ⟨hW4, g1, k1, g2, k2, rfl, hR14, hR24, HN.out.1, HN.out.2.1, HN.out.2.2.1, HN.out.2.2.2⟩
    refine (act_any hT4 x y z f0 f8 fm).mono ?_
    rintro e w5 ⟨v', th', pl', rfl, ⟨hW5, a1, l1, a2, l2, rfl, hQ1, hQ2, n1, n2, n3, n4⟩, hN5, hk5⟩
    have f0' : 0 < th'.length := by rw [hN5.len.1]; exact f0
    have f8' : th'.length ≤ 8 := by rw [hN5.len.1]; exact f8
    have fm' : pl'.length ≤ 65536 := by rw [hN5.len.2]; exact fm
    have HM := Lib.hid (And.intro n1 (And.intro n2 (And.intro n3 n4)))
    have hC5 := hC4.keep hk5 HE.out.1 HE.out.2.1 HE.out.2.2
    have hR15 := hR14.keep hk5 HN.out.1 HN.out.2.1
    have hR25 := hR24.keep hk5 HN.out.2.2.1 HN.out.2.2.2
    have hE5 := hE4.keep hk5 HD.out.1.1 HD.out.1.2
    have hB5 := hk5.to_below hB4 hB4.size HD.out.2.1.1 HD.out.2.1.2
    clear hT4 hC4 hW4 hR14 hR24 hE4 hX4 hB4 b0 b1 t0 t1 t2' hk5 hN5 n1 n2 n3 n4
    have hb6 : Below w5.heap.size w5 (w5.alloc (.cells #[(.slice (some ⟨a1, 0, none⟩) th'.length l1), (.slice (some ⟨a2, 0, none⟩) pl'.length l2)] 41)) := (Below.refl _ w5).alloc (Nat.le_refl _) _
    have hD6 : CopB w (w5.alloc (.cells #[(.slice (some ⟨a1, 0, none⟩) th'.length l1), (.slice (some ⟨a2, 0, none⟩) pl'.length l2)] 41)) p tb pb p2 t2 b2 j1 j2 sb g1 k1 g2 k2 w5.heap.size a1 l1 a2 l2 th pl th' pl' :=
      ⟨hW5.below hb6, hC5.below hb6, hR15.belowS hb6, hR25.belowS hb6, hQ1.belowS hb6, hQ2.belowS hb6, hE5.belowS hb6, Bx.new w5 (.slice (some ⟨a1, 0, none⟩) th'.length l1) (.slice (some ⟨a2, 0, none⟩) pl'.length l2), hB5.trans (hb6.mono hB5.size)⟩
    clear hW5 hC5 hR15 hR25 hQ1 hQ2 hE5 hB5 hb6
    obtain ⟨sc, hsc⟩ : ∃ s, w5.heap.size = s := ⟨_, rfl⟩
    rw [hsc] at hD6
    have b0 := hD6.bx.c0
    have b1 := hD6.bx.c1
    have d0 := hD6.cx.c0
    have d1 := hD6.cx.c1
    go_wp2_with fail
    change Calls _ _ _ (w5.alloc (.cells #[(.slice (some ⟨a1, 0, none⟩) th'.length l1), (.slice (some ⟨a2, 0, none⟩) pl'.length l2)] 41)) _
    clear hsc
    generalize w5.alloc (.cells #[(.slice (some ⟨a1, 0, none⟩) th'.length l1), (.slice (some ⟨a2, 0, none⟩) pl'.length l2)] 41) = w6 at *
    obtain ⟨r, hr⟩ : ∃ r, (eqL th th' && eqL pl pl') = r := ⟨_, rfl⟩
    have hr2 : (eqL th' th && eqL pl' pl) = r := by rw [eqL_comm th' th, eqL_comm pl' pl]; exact hr
    have cs := rSame_any hD6.r1 hD6.r2 hD6.q1 hD6.q2 f8 fm
    rw [hr] at cs
    refine cs.mono ?_
    rintro e w7 ⟨rfl, hb7⟩
    have HR := Lib.hid (And.intro hr hr2)
    have hrr : (r == r) = true := by simp
    have hD7 := hD6.belowS hb7
    clear hD6 hb7 cs hr hr2 b0 b1 d0 d1
    go_wp2_with fail
    refine (cN _).mono ?_
    rintro e w8 ⟨pa, ta, ba, rfl, hWa, hb8, _, _, _⟩
    have hD8 := hD7.belowS hb8
    clear hD7 hb8 cN
    go_wp2_with fail
    refine (new_in n' m' w8 e1 e2 (by omega)).mono ?_
    rintro e w9 ⟨pc, tc, bc, rfl, hWc, hb9, _, _, _⟩
    have hD9 := hD8.belowS hb9
    have hWa9 := hWa.below hb9
    clear hD8 hb9 hWa
    have b0 := hD9.bx.c0
    have b1 := hD9.bx.c1
    go_wp2_with fail
    refine (c_is (⟨hD9.wc, g1, k1, g2, k2, rfl, hD9.r1, hD9.r2⟩ : TwoC w9 p2 t2 b2 j1 j2 (.agg #[(.slice (some ⟨g1, 0, none⟩) th.length k1), (.slice (some ⟨g2, 0, none⟩) pl.length k2)]) th pl) f0 f8 fm).mono ?_
    rintro e w10 ⟨rfl, hb10⟩
    have hD10 := hD9.belowS hb10
    have hWa10 := hWa9.below hb10
    have hWc10 := hWc.below hb10
    clear hD9 hb10 hWa9 hWc b0 b1
    have b0 := hD10.cx.c0
    have b1 := hD10.cx.c1
    go_wp2_with fail
    refine (is_any (⟨hD10.wt, a1, l1, a2, l2, rfl, hD10.q1, hD10.q2, HM.out.1, HM.out.2.1, HM.out.2.2.1, HM.out.2.2.2⟩ : Two w10 p tb pb (.agg #[(.slice (some ⟨a1, 0, none⟩) th'.length l1), (.slice (some ⟨a2, 0, none⟩) pl'.length l2)]) th' pl') f0' f8' fm').mono ?_
    rintro e w11 ⟨rfl, hb11⟩
    have hD11 := hD10.belowS hb11
    have hWa11 := hWa10.below hb11
    have hWc11 := hWc10.below hb11
    clear hD10 hb11 hWa10 hWc10 b0 b1
    go_wp2_with fail
    have cs := same_any (hD11.wt.cap (Nat.le_trans f8' (by decide)) (Nat.le_trans fm' (by decide))) hD11.wc f0' f0 f8' fm'
    rw [HR.out.2] at cs
    refine cs.mono ?_
    clear cs
    rintro e w12 ⟨rfl, hb12⟩
    have hD12 := hD11.belowS hb12
    have hWa12 := hWa11.below hb12
    have hWc12 := hWc11.below hb12
    clear hD11 hb12 hWa11 hWc11
    go_wp2_with fail
    have cs := same_any hD12.wc (hD12.wt.cap (Nat.le_trans f8' (by decide)) (Nat.le_trans fm' (by decide))) f0 f0' f8 fm
    rw [HR.out.1] at cs
    refine cs.mono ?_
    clear cs
    rintro e w13 ⟨rfl, hb13⟩
    have hB13 := hD12.bel.trans (hb13.mono hD12.bel.size)
    have hWa13 := hWa12.below hb13
    have hWc13 := hWc12.below hb13
    clear hD12 hb13 hWa12 hWc12
    go_wp2_with fail
    have cs := same_any (hWa13.cap (by rw [zs_len]; exact Nat.le_trans e2 (by decide)) (by rw [zs_len]; exact Nat.le_trans (Nat.succ_le_succ e3) (by decide))) (hWc13.cap (by rw [zs_len]; exact Nat.le_trans e2 (by decide)) (by rw [zs_len]; exact Nat.le_trans e3 (by decide))) (by rw [zs_len]; exact e1) (by rw [zs_len]; exact e1) (by rw [zs_len]; exact e2) (by rw [zs_len]; exact Nat.le_trans (Nat.succ_le_succ e3) (by decide))
    rw [show eqL (zs (m' + 1)) (zs m') = false from eqL_len (by rw [zs_len, zs_len]; omega), Bool.and_false] at cs
    refine cs.mono ?_
    clear cs
    rintro e w14 ⟨rfl, hb14⟩
    have hB14 := hB13.trans (hb14.mono hB13.size)
    clear hB13 hb14 hWa13 hWc13
    go_wp2_with fail
    refine (works_any _ (ht.below hB14 h0) (by have := hB14.size; omega)).mono ?_
    rintro e w' ⟨rfl, hb⟩
    go_wp2
    go_ret
    exact ⟨rfl, hB14.trans (hb.mono hB14.size)⟩
end Go.Proofs.YtnalpladieoegaaDoor
