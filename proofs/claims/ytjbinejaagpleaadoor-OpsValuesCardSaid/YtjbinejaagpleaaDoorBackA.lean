/- The law OpsBack, from its eighth statement on. Asked: what lies by then. -/
import Derived.Test.YtjbinejaagpleaaDoorWorks
import Derived.Test.YtjbinejaagpleaaDoorFew
import Derived.Test.YtjbinejaagpleaaDoorRefS
import Derived.Test.YtjbinejaagpleaaDoorPure4
namespace Go.Proofs.YtjbinejaagpleaaDoor
open Go.RowKit

def dropS : Nat → Code → Code
  | 0, c => c
  | n + 1, .seq _ c => dropS n c
  | _, c => c
/-- What the law is asked over. -/
structure Ask (w : World) (m : ModM) : Prop where
  tc : TabC w
  tb : Tab w
  sz : 1 < w.heap.size
  ok : ModOk w m
  cw : ∀ c ∈ m.threads, CodeW w.heap.size c
/-- The module's box, the box of what was read, its bytes. -/
structure Aft (w W : World) (m m2 : ModM) (q g : Nat) (L : List Nat) : Prop where
  bl : Below w.heap.size w W
  x : W.heap[w.heap.size]? = some (.cells m.cells 27 (0, 0))
  y : W.heap[q]? = some (.cells m2.cells 27 (0, 0))
  ok2 : ModOk W m2
  hp : m2.p = m.p
  hg : w.heap.size ≤ g
  gb : ∃ cs, W.heap[g]? = some (.cells cs 5 (0, 0))
  gc : ∀ i, i < L.length → W.cell? ⟨g, 0 + i, none⟩ = some (.int .u8 ((L.getD i 0 : Nat) : Int))
theorem ok_below {w W : World} {m : ModM} (h : ModOk w m) (hb : Below w.heap.size w W) : ModOk W m := h.below hb (Nat.le_refl _)

set_option maxRecDepth 100000 in
set_option maxHeartbeats 16000000 in
theorem back8 {w wc : World} {va vcap vars aa acap arrays ca ccap chans mu co ta tcap threads va2 vcap2 vars2 aa2 acap2 arrays2 ca2 ccap2 chans2 mu2 co2 ta2 tcap2 threads2} {q g N cap : Nat} {L : List Nat} {at_ : Int} {oth : Nat} (hoth : oth < 256)
    (hA : Ask w ⟨va, vcap, vars, aa, acap, arrays, ca, ccap, chans, mu, co, ta, tcap, threads⟩) (hF : Aft w wc ⟨va, vcap, vars, aa, acap, arrays, ca, ccap, chans, mu, co, ta, tcap, threads⟩ ⟨va2, vcap2, vars2, aa2, acap2, arrays2, ca2, ccap2, chans2, mu2, co2, ta2, tcap2, threads2⟩ q g L) (hN : L.length = N) (hNc : N ≤ cap) (h8 : 8 ≤ N) (hNle : N ≤ 281474976710656) (hsm : Smb L) (hL : ∃ l, L = sealB l)
    {u0 u1 u5 u6 u7 u8 u9 u11 u12 u13 u15 u17 u18 u19 u20 u21 u22 u23 u24 u25 u26 u27 u28 u29 u30 u31 u32 u33 u34 u35 u36 u37 u38 u39 u40 u41 u42 u43 u44 u45 u46 u47 u48 u49 u50 u51 u52 u53 u54 u55 u56 u57 u58 u59 u60 u61 u62 u63 u64 u65 u66 u67 u68 u69 u70 u71 u72 u73 u74 u75 u76 u77 u78 u79 u80 u81 u82 u83 u84 u85 u86 u87 u88 u89 u90 u91 u92 u93 u94 u95 u96 u97 u98 u99 u100 u101 u102 u103 u104 u105 u106 u107 u108 u109 u110 u111 u112 : Value} :
    Code.wp Tryd.prog (dropS 8 (Tryd.f4.body.getD .skip)) (bodyPost Tryd.prog Tryd.f4 fun e w' => e = .returned (.bool true) ∧ Below w.heap.size w w') ⟨#[u0, u1, .int .i64 at_, .int .u8 (oth : Int), .pointer (some ⟨w.heap.size, 0, none⟩), u5, u6, u7, u8, u9, .pointer (some ⟨q, 0, none⟩), u11, u12, u13, .slice (some ⟨g, 0, none⟩) N cap, u15, .int .i64 0, u17, u18, u19, u20, u21, u22, u23, u24, u25, u26, u27, u28, u29, u30, u31, u32, u33, u34, u35, u36, u37, u38, u39, u40, u41, u42, u43, u44, u45, u46, u47, u48, u49, u50, u51, u52, u53, u54, u55, u56, u57, u58, u59, u60, u61, u62, u63, u64, u65, u66, u67, u68, u69, u70, u71, u72, u73, u74, u75, u76, u77, u78, u79, u80, u81, u82, u83, u84, u85, u86, u87, u88, u89, u90, u91, u92, u93, u94, u95, u96, u97, u98, u99, u100, u101, u102, u103, u104, u105, u106, u107, u108, u109, u110, u111, u112], []⟩ wc := by
  conv in (dropS _ _) => whnf
  have x0 := cell_blk (k := 0) hF.x rfl
  have x1 := cell_blk (k := 1) hF.x rfl
  have x2 := cell_blk (k := 2) hF.x rfl
  have x3 := cell_blk (k := 3) hF.x rfl
  have x4 := cell_blk (k := 4) hF.x rfl
  have x5 := cell_blk (k := 5) hF.x rfl
  have y0 := cell_blk (k := 0) hF.y rfl
  have y1 := cell_blk (k := 1) hF.y rfl
  have y2 := cell_blk (k := 2) hF.y rfl
  have y3 := cell_blk (k := 3) hF.y rfl
  have y4 := cell_blk (k := 4) hF.y rfl
  have y5 := cell_blk (k := 5) hF.y rfl
  have csame := rsame_yes hF.ok2 (ok_below hA.ok hF.bl) hF.hp
  have e8 : ModM.cells ⟨va, vcap, vars, aa, acap, arrays, ca, ccap, chans, mu, co, ta, tcap, threads⟩ = #[.slice va vars.length vcap, .slice aa arrays.length acap, .slice ca chans.length ccap, .int .i64 mu, .int .i64 co, .slice ta threads.length tcap] := rfl
  have e9 : ModM.cells ⟨va2, vcap2, vars2, aa2, acap2, arrays2, ca2, ccap2, chans2, mu2, co2, ta2, tcap2, threads2⟩ = #[.slice va2 vars2.length vcap2, .slice aa2 arrays2.length acap2, .slice ca2 chans2.length ccap2, .int .i64 mu2, .int .i64 co2, .slice ta2 threads2.length tcap2] := rfl
  rw [e8, e9] at csame
  have HF := Lib.hid hF
  have HH := Lib.hid (And.intro hN (And.intro hNc (And.intro h8 (And.intro hNle (And.intro hsm hL)))))
  clear e8 e9 hF hN hNc h8 hNle hsm hL
  go_wp2_with fail
  refine (num_any 0 _).mono ?_
  rintro e w' ⟨rfl, rfl⟩
  go_wp2_with fail
  refine csame.mono ?_
  rintro e w1 ⟨rfl, hb1⟩
  clear csame x0 x1 x2 x3 x4 x5 y0 y1 y2 y3 y4 y5
  have hB1 := HF.out.bl.trans (hb1.mono HF.out.bl.size)
  have hw := works_any w1 (hA.tc.below hB1 hA.tc.1) (hA.tb.below hB1 hA.sz) (Nat.lt_of_lt_of_le hA.sz hB1.size)
  by_cases hr : 0 ≤ at_ ∧ at_ < (N : Int)
  · obtain ⟨k, rfl⟩ : ∃ k : Nat, at_ = (k : Int) := ⟨at_.toNat, by omega⟩
    have hk : k < N := by omega
    have hgw : g < wc.heap.size := by
      obtain ⟨cs, h⟩ := HF.out.gb
      exact (Array.getElem?_eq_some_iff.1 h).1
    have hgc : ∀ i, i < N → w1.cell? ⟨g, 0 + i, none⟩ = some (.int .u8 ((L.getD i 0 : Nat) : Int)) := fun i hi => (hb1.cell (p := ⟨g, 0 + i, none⟩) hgw).trans (HF.out.gc i (by rw [HH.out.1]; exact hi))
    have hck := hgc k hk
    rw [Nat.zero_add] at hck
    have hfr : w1.frozen? ⟨g, k, none⟩ = false := by
      obtain ⟨cs, h⟩ := HF.out.gb
      exact froz_blk ((hb1.block g hgw).trans h)
    have hxk : L.getD k 0 < 256 := by
      rw [List.getD_eq_getElem?_getD, List.getElem?_eq_getElem (by rw [HH.out.1]; exact hk)]
      exact HH.out.2.2.2.2.1 _ (List.getElem_mem _)
    obtain ⟨x, hx⟩ : ∃ x, L.getD k 0 = x := ⟨_, rfl⟩
    rw [hx] at hck hxk
    have HGC := Lib.hid hgc
    have HXK := Lib.hid (And.intro hx hxk)
    clear hgc hx hxk hr
    by_cases he : x = oth
    · subst he
      go_wp2_with fail
      refine hw.mono ?_
      rintro e w2 ⟨rfl, hb2⟩
      clear hw
      go_wp2
      go_ret
      exact ⟨rfl, hB1.trans (hb2.mono hB1.size)⟩
    · have hee : ((x : Int) == (oth : Int)) = false := by simp; omega
      clear hw
      go_wp2_with fail
      clear hck hfr hee
      have hB2 : Below w.heap.size w (w1.setCell ⟨g, k, none⟩ (.int .u8 (oth : Int))) := hB1.setCell HF.out.hg _
      have hc2 : ∀ i, i < N → (w1.setCell ⟨g, k, none⟩ (.int .u8 (oth : Int))).cell? ⟨g, 0 + i, none⟩ = some (.int .u8 (((L.set k oth).getD i 0 : Nat) : Int)) := by
        intro i hi
        have h := HGC.out i hi
        by_cases hik : i = k
        · subst hik
          have e := World.cell?_setCell_same (w := w1) (a := ⟨g, 0 + i, none⟩) (v := .int .u8 (oth : Int)) h
          have e2 : (L.set i oth).getD i 0 = oth := by
            rw [List.getD_eq_getElem?_getD, List.getElem?_set_self (by rw [HH.out.1]; exact hi)]
            rfl
          rw [e2, ← e, Nat.zero_add]
        · have e : (w1.setCell ⟨g, k, none⟩ (.int .u8 (oth : Int))).cell? ⟨g, 0 + i, none⟩ = w1.cell? ⟨g, 0 + i, none⟩ := World.cell?_setCell_other _ _ _ _ (by intro e; have := congrArg Addr.off e; simp at this; omega)
          rw [e, h, List.getD_eq_getElem?_getD, List.getD_eq_getElem?_getD, List.getElem?_set_ne (by omega)]
      have cd : Calls Tryd.prog 10 #[.slice (some ⟨g, 0, none⟩) N cap] (w1.setCell ⟨g, k, none⟩ (.int .u8 (oth : Int))) (DPost (w1.setCell ⟨g, k, none⟩ (.int .u8 (oth : Int))) (L.set k oth)) := dec_long (by rw [List.length_set]; exact HH.out.1) HH.out.2.2.1 HH.out.2.1 HH.out.2.2.2.1 (fun x hx => by
        rcases List.mem_or_eq_of_mem_set hx with h | h
        · exact HH.out.2.2.2.2.1 x h
        · omega) hc2 (hA.tc.below hB2 hA.tc.1)
      have hse : sealed (L.set k oth) = false := by
        obtain ⟨l, hl⟩ := HH.out.2.2.2.2.2
        have h1 := HXK.out
        have h2 := HH.out.1
        rw [hl] at h1 h2 ⊢
        exact sealed_set k oth (by omega) hoth (by omega) (by omega)
      clear hc2
      refine cd.mono ?_
      rintro e w3 ⟨hb3, he3⟩
      rw [if_neg (by rw [hse]; decide)] at he3
      subst he3
      have hB3 := (hB2.trans (hb3.mono hB2.size)).alloc (Nat.le_trans hB2.size hb3.size) (.cells #[.slice none 0 0, .slice none 0 0, .slice none 0 0, .int .i64 0, .int .i64 0, .slice none 0 0] 27)
      clear cd hB2 hb3
      unfold zeroM
      go_wp2_with fail
      refine (num_any 160 _).mono ?_
      rintro e w' ⟨rfl, rfl⟩
      go_wp2_with fail
      refine (works_any _ (hA.tc.below hB3 hA.tc.1) (hA.tb.below hB3 hA.sz) (Nat.lt_of_lt_of_le hA.sz hB3.size)).mono ?_
      rintro e w4 ⟨rfl, hb4⟩
      go_wp2
      go_ret
      exact ⟨rfl, hB3.trans (hb4.mono hB3.size)⟩
  · have hr2 : at_ < 0 ∨ (N : Int) ≤ at_ := by omega
    clear hr
    by_cases hr : at_ < 0
    · go_wp2_with fail
      refine hw.mono ?_
      rintro e w2 ⟨rfl, hb2⟩
      clear hw
      go_wp2
      go_ret
      exact ⟨rfl, hB1.trans (hb2.mono hB1.size)⟩
    · have hr3 : (N : Int) ≤ at_ := by omega
      clear hr2
      go_wp2_with fail
      refine hw.mono ?_
      rintro e w2 ⟨rfl, hb2⟩
      clear hw
      go_wp2
      go_ret
      exact ⟨rfl, hB1.trans (hb2.mono hB1.size)⟩
end Go.Proofs.YtjbinejaagpleaaDoor
