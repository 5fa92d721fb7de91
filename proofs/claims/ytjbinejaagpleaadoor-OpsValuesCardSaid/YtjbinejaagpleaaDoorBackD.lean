/- The law OpsBack, whole. Asked: the arguments lie; the tables. -/
import Derived.Test.YtjbinejaagpleaaDoorBackC
namespace Go.Proofs.YtjbinejaagpleaaDoor
open Go.RowKit

set_option maxRecDepth 100000 in
set_option maxHeartbeats 16000000 in
theorem back2 {w wc : World} {va vcap vars aa acap arrays ca ccap chans mu co ta tcap threads} {ab : Option Addr} {n bcap : Nat} {l : List Nat} {at_ : Int} {oth : Nat} (hoth : oth < 256)
    (hA : Ask w ⟨va, vcap, vars, aa, acap, arrays, ca, ccap, chans, mu, co, ta, tcap, threads⟩) (hBl : Below w.heap.size w wc) (hX : wc.heap[w.heap.size]? = some (.cells #[.slice va vars.length vcap, .slice aa arrays.length acap, .slice ca chans.length ccap, .int .i64 mu, .int .i64 co, .slice ta threads.length tcap] 27 (0, 0))) (hn : l.length = n) (hm : n ≤ 5000) (hI : Bys wc ab l) (hlt : Smb l)
    {u0 u5 u6 u7 u8 u9 u10 u11 u12 u13 u14 u15 u16 u17 u18 u19 u20 u21 u22 u23 u24 u25 u26 u27 u28 u29 u30 u31 u32 u33 u34 u35 u36 u37 u38 u39 u40 u41 u42 u43 u44 u45 u46 u47 u48 u49 u50 u51 u52 u53 u54 u55 u56 u57 u58 u59 u60 u61 u62 u63 u64 u65 u66 u67 u68 u69 u70 u71 u72 u73 u74 u75 u76 u77 u78 u79 u80 u81 u82 u83 u84 u85 u86 u87 u88 u89 u90 u91 u92 u93 u94 u95 u96 u97 u98 u99 u100 u101 u102 u103 u104 u105 u106 u107 u108 u109 u110 u111 u112 : Value} :
    Code.wp Tryd.prog (dropS 2 (Tryd.f4.body.getD .skip)) (bodyPost Tryd.prog Tryd.f4 fun e w' => e = .returned (.bool true) ∧ Below w.heap.size w w') ⟨#[u0, .slice ab n bcap, .int .i64 at_, .int .u8 (oth : Int), .pointer (some ⟨w.heap.size, 0, none⟩), u5, u6, u7, u8, u9, u10, u11, u12, u13, u14, u15, u16, u17, u18, u19, u20, u21, u22, u23, u24, u25, u26, u27, u28, u29, u30, u31, u32, u33, u34, u35, u36, u37, u38, u39, u40, u41, u42, u43, u44, u45, u46, u47, u48, u49, u50, u51, u52, u53, u54, u55, u56, u57, u58, u59, u60, u61, u62, u63, u64, u65, u66, u67, u68, u69, u70, u71, u72, u73, u74, u75, u76, u77, u78, u79, u80, u81, u82, u83, u84, u85, u86, u87, u88, u89, u90, u91, u92, u93, u94, u95, u96, u97, u98, u99, u100, u101, u102, u103, u104, u105, u106, u107, u108, u109, u110, u111, u112], []⟩ wc := by
  conv in (dropS _ _) => whnf
  have cs := sealed_any (cap := bcap) hn hm hI hlt
  have hsmL : Smb (sealB l) := smb_seal hlt
  have hlen : (sealB l).length = n + 4 := by rw [seal_len, hn]
  obtain ⟨L, hL⟩ : ∃ L, sealB l = L := ⟨_, rfl⟩
  obtain ⟨N, hN⟩ : ∃ N, n + 4 = N := ⟨_, rfl⟩
  rw [hL] at cs hsmL hlen
  rw [hN] at cs hlen
  have hN4 : 4 ≤ N ∧ N ≤ 5004 := by omega
  have HL := Lib.hid (And.intro hlen (And.intro hsmL hN4))
  have HBl := Lib.hid hBl
  have HX := Lib.hid hX
  clear hL hN hlen hsmL hN4 hn hI hlt hm
  refine wp_seq_k fun K hK => ?_
  have HK := Lib.hid hK
  clear hK
  go_wp2_with fail
  refine cs.mono ?_
  rintro e w1 ⟨hb1, v, rfl, hv⟩
  clear cs
  obtain ⟨g, cap, rfl, hg, hgw, hcap, hc, hgb⟩ := own_bytes hv (by have := HL.out; omega) HL.out.1
  have hB1 := hBl.trans (hb1.mono hBl.size)
  have hX1 := (hb1.block _ (Array.getElem?_eq_some_iff.1 hX).1).trans hX
  have cd : Calls Tryd.prog 10 #[.slice (some ⟨g, 0, none⟩) N cap] w1 (DPost w1 L) := by
    by_cases h8 : 8 ≤ N
    · exact dec_long HL.out.1 h8 hcap (by have := HL.out.2.2.2; omega) HL.out.2.1 hc (hA.tc.below hB1 hA.tc.1)
    · have := dec_short (w := w1) (l := L) (a := some ⟨g, 0, none⟩) (cap := cap) (by have := HL.out.1; omega)
      rwa [HL.out.1] at this
  have H1 := Lib.hid (And.intro hB1 (And.intro hX1 (And.intro hc (And.intro hgw hgb))))
  clear hBl hX hb1 hv hg hgw hcap hc hgb hB1 hX1 HBl HX
  go_wp2_with fail
  refine HK.out _ _ ?_
  clear HK K
  refine wp_seq_k fun K hK => ?_
  have HK := Lib.hid hK
  clear hK
  go_wp2_with fail
  refine cd.mono ?_
  rintro e w2 ⟨hb2, he⟩
  clear cd
  have hB2 := H1.out.1.trans (hb2.mono H1.out.1.size)
  have hX2 := (hb2.block _ (Array.getElem?_eq_some_iff.1 H1.out.2.1).1).trans H1.out.2.1
  have hxs : w.heap.size < w2.heap.size := (Array.getElem?_eq_some_iff.1 hX2).1
  have hc2 : ∀ i, i < N → w2.cell? ⟨g, 0 + i, none⟩ = some (.int .u8 ((L.getD i 0 : Nat) : Int)) := fun i hi => (hb2.cell (p := ⟨g, 0 + i, none⟩) H1.out.2.2.2.1).trans (H1.out.2.2.1 i hi)
  have hg2 : g < w2.heap.size := Nat.lt_of_lt_of_le H1.out.2.2.2.1 hb2.size
  by_cases hse : sealed L = true
  · rw [if_pos hse] at he
    obtain ⟨R, hR⟩ : ∃ R, rdMod (L.take (L.length - 4)) = R := ⟨_, rfl⟩
    rw [hR] at he
    cases R with
    | none =>
      dsimp only at he
      subst he
      unfold zeroM
      have hP : Pre w (w2.alloc (.cells #[.slice none 0 0, .slice none 0 0, .slice none 0 0, .int .i64 0, .int .i64 0, .slice none 0 0] 27)) ⟨va, vcap, vars, aa, acap, arrays, ca, ccap, chans, mu, co, ta, tcap, threads⟩ w2.heap.size (.slice none 0 0) (.slice none 0 0) (.slice none 0 0) (.int .i64 0) (.int .i64 0) (.slice none 0 0) := ⟨hB2.alloc hB2.size _, (Below.heap_alloc _ _ _ hxs).trans hX2, World.alloc_heap_new _ _, hxs⟩
      have HP := Lib.hid hP
      clear hP hX2 hB2 hb2 hc2 hR hse hxs hg2
      go_wp2_with fail
      refine HK.out _ _ ?_
      clear HK K
      generalize w2.alloc (.cells #[.slice none 0 0, .slice none 0 0, .slice none 0 0, .int .i64 0, .int .i64 0, .slice none 0 0] 27) = W3 at *
      refine wp_seq_k fun K hK => ?_
      have HK := Lib.hid hK
      clear hK
      go_wp2_with fail
      refine (num_any 161 _).mono ?_
      rintro e w' ⟨rfl, rfl⟩
      go_wp2_with fail
      refine HK.out _ _ ?_
      exact back5 hoth hA HP.out
    | some mp =>
      obtain ⟨⟨va2, vcap2, vars2, aa2, acap2, arrays2, ca2, ccap2, chans2, mu2, co2, ta2, tcap2, threads2⟩, rfl, hm2, ho2⟩ := he
      obtain ⟨hback, hmay⟩ := seal_back HL.out.2.1 hse hR
      rw [← hm2] at hback hmay
      rw [← mMay_p] at hmay
      simp only [ModM.cells]
      have hA3 : Below w2.heap.size w2 (w2.alloc (.cells #[.slice va2 vars2.length vcap2, .slice aa2 arrays2.length acap2, .slice ca2 chans2.length ccap2, .int .i64 mu2, .int .i64 co2, .slice ta2 threads2.length tcap2] 27)) := (Below.refl _ w2).alloc (Nat.le_refl _) _
      have hP : Pre w (w2.alloc (.cells #[.slice va2 vars2.length vcap2, .slice aa2 arrays2.length acap2, .slice ca2 chans2.length ccap2, .int .i64 mu2, .int .i64 co2, .slice ta2 threads2.length tcap2] 27)) ⟨va, vcap, vars, aa, acap, arrays, ca, ccap, chans, mu, co, ta, tcap, threads⟩ w2.heap.size (.slice va2 vars2.length vcap2) (.slice aa2 arrays2.length acap2) (.slice ca2 chans2.length ccap2) (.int .i64 mu2) (.int .i64 co2) (.slice ta2 threads2.length tcap2) := ⟨hB2.alloc hB2.size _, (Below.heap_alloc _ _ _ hxs).trans hX2, World.alloc_heap_new _ _, hxs⟩
      have ho3 := ho2.below hA3
      have hc3 : ∀ i, i < N → (w2.alloc (.cells #[.slice va2 vars2.length vcap2, .slice aa2 arrays2.length acap2, .slice ca2 chans2.length ccap2, .int .i64 mu2, .int .i64 co2, .slice ta2 threads2.length tcap2] 27)).cell? ⟨g, 0 + i, none⟩ = some (.int .u8 ((L.getD i 0 : Nat) : Int)) := fun i hi => (hA3.cell (p := ⟨g, 0 + i, none⟩) hg2).trans (hc2 i hi)
      have hg3 : g < (w2.alloc (.cells #[.slice va2 vars2.length vcap2, .slice aa2 arrays2.length acap2, .slice ca2 chans2.length ccap2, .int .i64 mu2, .int .i64 co2, .slice ta2 threads2.length tcap2] 27)).heap.size := Nat.lt_of_lt_of_le hg2 hA3.size
      have HP := Lib.hid (And.intro hP (And.intro ho3 (And.intro hc3 (And.intro hg3 (And.intro hback hmay)))))
      clear hP hX2 hB2 hb2 hc2 hR hse hxs hg2 ho2 ho3 hc3 hg3 hA3 hback hmay hm2
      go_wp2_with fail
      refine HK.out _ _ ?_
      clear HK K
      obtain ⟨q, hq⟩ : ∃ q, w2.heap.size = q := ⟨_, rfl⟩
      rw [hq] at HP ⊢
      clear hq
      generalize w2.alloc (.cells #[.slice va2 vars2.length vcap2, .slice aa2 arrays2.length acap2, .slice ca2 chans2.length ccap2, .int .i64 mu2, .int .i64 co2, .slice ta2 threads2.length tcap2] 27) = W3 at *
      have y0 := cell_blk (k := 0) HP.out.1.y rfl
      have y1 := cell_blk (k := 1) HP.out.1.y rfl
      have y2 := cell_blk (k := 2) HP.out.1.y rfl
      have y3 := cell_blk (k := 3) HP.out.1.y rfl
      have y4 := cell_blk (k := 4) HP.out.1.y rfl
      have y5 := cell_blk (k := 5) HP.out.1.y rfl
      have ce := encode_any ⟨va2, vcap2, vars2, aa2, acap2, arrays2, ca2, ccap2, chans2, mu2, co2, ta2, tcap2, threads2⟩ W3 (hA.tc.below HP.out.1.bl hA.tc.1) HP.out.2.1.ok (fun c hc => (HP.out.2.1.cs c hc).w (Nat.le_refl _))
      dsimp only at ce
      refine wp_seq_k fun K hK => ?_
      have HK := Lib.hid hK
      clear hK
      go_wp2_with fail
      refine (num_any 0 _).mono ?_
      rintro e w' ⟨rfl, rfl⟩
      go_wp2_with fail
      refine ce.mono ?_
      rintro e w4 ⟨hb4, he⟩
      rw [if_pos HP.out.2.2.2.2.2] at he
      obtain ⟨v2, rfl, hv2⟩ := he
      have hback := HP.out.2.2.2.2.1
      rw [hback, HL.out.1] at hv2
      obtain ⟨g2, cap2, rfl, _, _, _, hc4, _⟩ := own_bytes hv2 (by have := HL.out; omega) HL.out.1
      have cv1 := conv_str (W := w4) (g := g2) (off := 0) (n := N) (cap := cap2) (l := L) (Nat.le_of_eq HL.out.1.symm) hc4
      have cv2 := conv_str (W := w4) (g := g) (off := 0) (n := N) (cap := cap) (l := L) (Nat.le_of_eq HL.out.1.symm) (fun i hi => (hb4.cell (p := ⟨g, 0 + i, none⟩) HP.out.2.2.2.1).trans (HP.out.2.2.1 i hi))
      obtain ⟨SS, hSS⟩ : ∃ SS, strOf (L.take N) = SS := ⟨_, rfl⟩
      rw [hSS] at cv1 cv2
      have hP4 : Pre w w4 ⟨va, vcap, vars, aa, acap, arrays, ca, ccap, chans, mu, co, ta, tcap, threads⟩ q (.slice va2 vars2.length vcap2) (.slice aa2 arrays2.length acap2) (.slice ca2 chans2.length ccap2) (.int .i64 mu2) (.int .i64 co2) (.slice ta2 threads2.length tcap2) := ⟨HP.out.1.bl.trans (hb4.mono HP.out.1.bl.size), (hb4.block _ (Array.getElem?_eq_some_iff.1 HP.out.1.x).1).trans HP.out.1.x, (hb4.block _ (Array.getElem?_eq_some_iff.1 HP.out.1.y).1).trans HP.out.1.y, HP.out.1.hq⟩
      have HP4 := Lib.hid hP4
      clear ce y0 y1 y2 y3 y4 y5 hv2 hback hc4 hb4 hSS hP4
      go_wp2_with fail
      refine (num_any 0 _).mono ?_
      rintro e w' ⟨rfl, rfl⟩
      go_wp2_with fail
      refine HK.out _ _ ?_
      exact back5 hoth hA HP4.out
  · rw [if_neg hse] at he
    subst he
    unfold zeroM
    have hP : Pre w (w2.alloc (.cells #[.slice none 0 0, .slice none 0 0, .slice none 0 0, .int .i64 0, .int .i64 0, .slice none 0 0] 27)) ⟨va, vcap, vars, aa, acap, arrays, ca, ccap, chans, mu, co, ta, tcap, threads⟩ w2.heap.size (.slice none 0 0) (.slice none 0 0) (.slice none 0 0) (.int .i64 0) (.int .i64 0) (.slice none 0 0) := ⟨hB2.alloc hB2.size _, (Below.heap_alloc _ _ _ hxs).trans hX2, World.alloc_heap_new _ _, hxs⟩
    have HP := Lib.hid hP
    clear hP hX2 hB2 hb2 hc2 hse hxs hg2
    go_wp2_with fail
    refine HK.out _ _ ?_
    clear HK K
    generalize w2.alloc (.cells #[.slice none 0 0, .slice none 0 0, .slice none 0 0, .int .i64 0, .int .i64 0, .slice none 0 0] 27) = W3 at *
    refine wp_seq_k fun K hK => ?_
    have HK := Lib.hid hK
    clear hK
    go_wp2_with fail
    refine (num_any 160 _).mono ?_
    rintro e w' ⟨rfl, rfl⟩
    go_wp2_with fail
    refine HK.out _ _ ?_
    exact back5 hoth hA HP.out
end Go.Proofs.YtjbinejaagpleaaDoor
