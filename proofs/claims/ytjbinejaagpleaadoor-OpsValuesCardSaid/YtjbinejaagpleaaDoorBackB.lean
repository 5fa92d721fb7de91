/- The law OpsBack, from its fifth statement on. Asked: what lies by then. -/
import Derived.Test.YtjbinejaagpleaaDoorBackA
namespace Go.Proofs.YtjbinejaagpleaaDoor
open Go.RowKit

/-- The module's bytes are made; they are read into the old box q. -/
structure Mid (w W : World) (m : ModM) (q g : Nat) (L : List Nat) (z0 z1 z2 z3 z4 z5 : Value) : Prop where
  bl : Below w.heap.size w W
  x : W.heap[w.heap.size]? = some (.cells m.cells 27 (0, 0))
  y : W.heap[q]? = some (.cells #[z0, z1, z2, z3, z4, z5] 27 (0, 0))
  hq : w.heap.size < q
  hg : w.heap.size ≤ g
  gb : ∃ cs, W.heap[g]? = some (.cells cs 5 (0, 0))
  gc : ∀ i, i < L.length → W.cell? ⟨g, 0 + i, none⟩ = some (.int .u8 ((L.getD i 0 : Nat) : Int))
set_option maxRecDepth 100000 in
set_option maxHeartbeats 16000000 in
theorem back7 {w wc : World} {va vcap vars aa acap arrays ca ccap chans mu co ta tcap threads} {z0 z1 z2 z3 z4 z5 : Value} {q g N cap : Nat} {L : List Nat} {at_ : Int} {oth : Nat} (hoth : oth < 256)
    (hA : Ask w ⟨va, vcap, vars, aa, acap, arrays, ca, ccap, chans, mu, co, ta, tcap, threads⟩) (hF : Mid w wc ⟨va, vcap, vars, aa, acap, arrays, ca, ccap, chans, mu, co, ta, tcap, threads⟩ q g L z0 z1 z2 z3 z4 z5) (hN : L.length = N) (hNc : N ≤ cap) (h8 : 8 ≤ N) (hNle : N ≤ 281474976710656) (hsm : Smb L) (hL : ∃ l, L = sealB l)
    (hse : sealed L = true) (hrd : rdMod (L.take (L.length - 4)) = some (ModM.p ⟨va, vcap, vars, aa, acap, arrays, ca, ccap, chans, mu, co, ta, tcap, threads⟩))
    {u0 u1 u5 u6 u7 u8 u9 u11 u12 u13 u15 u16 u17 u18 u19 u20 u21 u22 u23 u24 u25 u26 u27 u28 u29 u30 u31 u32 u33 u34 u35 u36 u37 u38 u39 u40 u41 u42 u43 u44 u45 u46 u47 u48 u49 u50 u51 u52 u53 u54 u55 u56 u57 u58 u59 u60 u61 u62 u63 u64 u65 u66 u67 u68 u69 u70 u71 u72 u73 u74 u75 u76 u77 u78 u79 u80 u81 u82 u83 u84 u85 u86 u87 u88 u89 u90 u91 u92 u93 u94 u95 u96 u97 u98 u99 u100 u101 u102 u103 u104 u105 u106 u107 u108 u109 u110 u111 u112 : Value} :
    Code.wp Tryd.prog (dropS 7 (Tryd.f4.body.getD .skip)) (bodyPost Tryd.prog Tryd.f4 fun e w' => e = .returned (.bool true) ∧ Below w.heap.size w w') ⟨#[u0, u1, .int .i64 at_, .int .u8 (oth : Int), .pointer (some ⟨w.heap.size, 0, none⟩), u5, u6, u7, u8, u9, .pointer (some ⟨q, 0, none⟩), u11, u12, u13, .slice (some ⟨g, 0, none⟩) N cap, u15, u16, u17, u18, u19, u20, u21, u22, u23, u24, u25, u26, u27, u28, u29, u30, u31, u32, u33, u34, u35, u36, u37, u38, u39, u40, u41, u42, u43, u44, u45, u46, u47, u48, u49, u50, u51, u52, u53, u54, u55, u56, u57, u58, u59, u60, u61, u62, u63, u64, u65, u66, u67, u68, u69, u70, u71, u72, u73, u74, u75, u76, u77, u78, u79, u80, u81, u82, u83, u84, u85, u86, u87, u88, u89, u90, u91, u92, u93, u94, u95, u96, u97, u98, u99, u100, u101, u102, u103, u104, u105, u106, u107, u108, u109, u110, u111, u112], []⟩ wc := by
  conv in (dropS _ _) => whnf
  have cd : Calls Tryd.prog 10 #[.slice (some ⟨g, 0, none⟩) N cap] wc (DPost wc L) := dec_long hN h8 hNc hNle hsm (fun i hi => hF.gc i (by rw [hN]; exact hi)) (hA.tc.below hF.bl hA.tc.1)
  refine wp_seq_k fun K hK => ?_
  have HK := Lib.hid hK
  have HF := Lib.hid hF
  clear hK hF
  go_wp2_with fail
  refine cd.mono ?_
  rintro e w3 ⟨hb3, he⟩
  rw [if_pos hse, hrd] at he
  obtain ⟨⟨va2, vcap2, vars2, aa2, acap2, arrays2, ca2, ccap2, chans2, mu2, co2, ta2, tcap2, threads2⟩, rfl, hm2, ho3⟩ := he
  have hsz : ∀ r o, wc.heap[r]? = some o → r < wc.heap.size := fun r o h => (Array.getElem?_eq_some_iff.1 h).1
  have hx3 := (hb3.block _ (hsz _ _ HF.out.x)).trans HF.out.x
  have hy3 := (hb3.block _ (hsz _ _ HF.out.y)).trans HF.out.y
  have hB3 := HF.out.bl.trans (hb3.mono HF.out.bl.size)
  have hqw := hsz _ _ HF.out.y
  have HGB : Hid (∃ cs, w3.heap[g]? = some (.cells cs 5 (0, 0))) := by
    obtain ⟨cs, h⟩ := HF.out.gb
    exact Lib.hid ⟨cs, (hb3.block _ (hsz _ _ h)).trans h⟩
  have HGC : Hid (∀ i, i < L.length → w3.cell? ⟨g, 0 + i, none⟩ = some (.int .u8 ((L.getD i 0 : Nat) : Int))) := Lib.hid (by
    obtain ⟨cs, h⟩ := HF.out.gb
    exact fun i hi => (hb3.cell (p := ⟨g, 0 + i, none⟩) (hsz _ _ h)).trans (HF.out.gc i hi))
  have HO := Lib.hid ho3
  have HX := Lib.hid hx3
  have HY := Lib.hid hy3
  have HB := Lib.hid hB3
  have HQ := Lib.hid hqw
  have HM2 := Lib.hid hm2
  have q0 := cell_blk (w := w3) (k := 0) hy3 rfl
  have qf0 := froz_blk (w := w3) (k := 0) hy3
  have q1 := cell_blk (w := w3) (k := 1) hy3 rfl
  have qf1 := froz_blk (w := w3) (k := 1) hy3
  have q2 := cell_blk (w := w3) (k := 2) hy3 rfl
  have qf2 := froz_blk (w := w3) (k := 2) hy3
  have q3 := cell_blk (w := w3) (k := 3) hy3 rfl
  have qf3 := froz_blk (w := w3) (k := 3) hy3
  have q4 := cell_blk (w := w3) (k := 4) hy3 rfl
  have qf4 := froz_blk (w := w3) (k := 4) hy3
  have q5 := cell_blk (w := w3) (k := 5) hy3 rfl
  have qf5 := froz_blk (w := w3) (k := 5) hy3
  clear cd hsz hx3 hy3 hB3 hqw ho3 hm2 hb3
  simp only [ModM.cells]
  go_wp2_with fail
  refine HK.out _ _ ?_
  have hqg : q ≠ g := by
    intro e
    subst e
    obtain ⟨cs, h⟩ := HGB.out
    rw [HY.out] at h
    cases h
  have e1 := heap_set (j := 0) HY.out (.slice va2 vars2.length vcap2)
  have e2 := heap_set (j := 1) e1 (.slice aa2 arrays2.length acap2)
  have e3 := heap_set (j := 2) e2 (.slice ca2 chans2.length ccap2)
  have e4 := heap_set (j := 3) e3 (.int .i64 mu2)
  have e5 := heap_set (j := 4) e4 (.int .i64 co2)
  have e6 := heap_set (j := 5) e5 (.slice ta2 threads2.length tcap2)
  simp only [List.setIfInBounds_toArray, List.set_cons_succ, List.set_cons_zero] at e6
  have hb6 : Below w.heap.size w ((((((w3.setCell ⟨q, 0, none⟩ (.slice va2 vars2.length vcap2)).setCell ⟨q, 1, none⟩ (.slice aa2 arrays2.length acap2)).setCell ⟨q, 2, none⟩ (.slice ca2 chans2.length ccap2)).setCell ⟨q, 3, none⟩ (.int .i64 mu2)).setCell ⟨q, 4, none⟩ (.int .i64 co2)).setCell ⟨q, 5, none⟩ (.slice ta2 threads2.length tcap2)) := ((((((HB.out.setCell (p := ⟨q, 0, none⟩) (Nat.le_of_lt HF.out.hq) _).setCell (p := ⟨q, 1, none⟩) (Nat.le_of_lt HF.out.hq) _).setCell (p := ⟨q, 2, none⟩) (Nat.le_of_lt HF.out.hq) _).setCell (p := ⟨q, 3, none⟩) (Nat.le_of_lt HF.out.hq) _).setCell (p := ⟨q, 4, none⟩) (Nat.le_of_lt HF.out.hq) _).setCell (p := ⟨q, 5, none⟩) (Nat.le_of_lt HF.out.hq) _)
  have ho6 : OwnM ((((((w3.setCell ⟨q, 0, none⟩ (.slice va2 vars2.length vcap2)).setCell ⟨q, 1, none⟩ (.slice aa2 arrays2.length acap2)).setCell ⟨q, 2, none⟩ (.slice ca2 chans2.length ccap2)).setCell ⟨q, 3, none⟩ (.int .i64 mu2)).setCell ⟨q, 4, none⟩ (.int .i64 co2)).setCell ⟨q, 5, none⟩ (.slice ta2 threads2.length tcap2)) wc.heap.size ⟨va2, vcap2, vars2, aa2, acap2, arrays2, ca2, ccap2, chans2, mu2, co2, ta2, tcap2, threads2⟩ := ((((((HO.out.set (p := q) (j := 0) HQ.out).set (p := q) (j := 1) HQ.out).set (p := q) (j := 2) HQ.out).set (p := q) (j := 3) HQ.out).set (p := q) (j := 4) HQ.out).set (p := q) (j := 5) HQ.out)
  have hoth6 : ∀ r, r ≠ q → ((((((w3.setCell ⟨q, 0, none⟩ (.slice va2 vars2.length vcap2)).setCell ⟨q, 1, none⟩ (.slice aa2 arrays2.length acap2)).setCell ⟨q, 2, none⟩ (.slice ca2 chans2.length ccap2)).setCell ⟨q, 3, none⟩ (.int .i64 mu2)).setCell ⟨q, 4, none⟩ (.int .i64 co2)).setCell ⟨q, 5, none⟩ (.slice ta2 threads2.length tcap2)).heap[r]? = w3.heap[r]? := fun r hr => by
    rw [Below.heap_setCell _ _ _ _ hr, Below.heap_setCell _ _ _ _ hr, Below.heap_setCell _ _ _ _ hr, Below.heap_setCell _ _ _ _ hr, Below.heap_setCell _ _ _ _ hr, Below.heap_setCell _ _ _ _ hr]
  have hx6 := (hoth6 w.heap.size (Nat.ne_of_lt HF.out.hq)).trans HX.out
  have hgb6 : ∃ cs, ((((((w3.setCell ⟨q, 0, none⟩ (.slice va2 vars2.length vcap2)).setCell ⟨q, 1, none⟩ (.slice aa2 arrays2.length acap2)).setCell ⟨q, 2, none⟩ (.slice ca2 chans2.length ccap2)).setCell ⟨q, 3, none⟩ (.int .i64 mu2)).setCell ⟨q, 4, none⟩ (.int .i64 co2)).setCell ⟨q, 5, none⟩ (.slice ta2 threads2.length tcap2)).heap[g]? = some (.cells cs 5 (0, 0)) := by
    obtain ⟨cs, h⟩ := HGB.out
    exact ⟨cs, (hoth6 g (Ne.symm hqg)).trans h⟩
  have hgc6 : ∀ i, i < L.length → ((((((w3.setCell ⟨q, 0, none⟩ (.slice va2 vars2.length vcap2)).setCell ⟨q, 1, none⟩ (.slice aa2 arrays2.length acap2)).setCell ⟨q, 2, none⟩ (.slice ca2 chans2.length ccap2)).setCell ⟨q, 3, none⟩ (.int .i64 mu2)).setCell ⟨q, 4, none⟩ (.int .i64 co2)).setCell ⟨q, 5, none⟩ (.slice ta2 threads2.length tcap2)).cell? ⟨g, 0 + i, none⟩ = some (.int .u8 ((L.getD i 0 : Nat) : Int)) := fun i hi => by
    have h := HGC.out i hi
    have h2 := hoth6 g (Ne.symm hqg)
    simp only [World.cell?] at h ⊢
    rw [h2]
    exact h
  clear hoth6 q0 q1 q2 q3 q4 q5 qf0 qf1 qf2 qf3 qf4 qf5 e1 e2 e3 e4 e5
  generalize ((((((w3.setCell ⟨q, 0, none⟩ (.slice va2 vars2.length vcap2)).setCell ⟨q, 1, none⟩ (.slice aa2 arrays2.length acap2)).setCell ⟨q, 2, none⟩ (.slice ca2 chans2.length ccap2)).setCell ⟨q, 3, none⟩ (.int .i64 mu2)).setCell ⟨q, 4, none⟩ (.int .i64 co2)).setCell ⟨q, 5, none⟩ (.slice ta2 threads2.length tcap2)) = W6 at *
  exact back8 hoth hA ⟨hb6, hx6, e6, ho6.ok, HM2.out, HF.out.hg, hgb6, hgc6⟩ hN hNc h8 hNle hsm hL
end Go.Proofs.YtjbinejaagpleaaDoor
