/- The law OpsBack. Asked: the arguments lie; the tables. -/
import Derived.Test.YtjbinejaagpleaaDoorBackB
namespace Go.Proofs.YtjbinejaagpleaaDoor
open Go.RowKit

/-- The module's box, the box of what was read first. -/
structure Pre (w W : World) (m : ModM) (q : Nat) (z0 z1 z2 z3 z4 z5 : Value) : Prop where
  bl : Below w.heap.size w W
  x : W.heap[w.heap.size]? = some (.cells m.cells 27 (0, 0))
  y : W.heap[q]? = some (.cells #[z0, z1, z2, z3, z4, z5] 27 (0, 0))
  hq : w.heap.size < q
set_option maxRecDepth 100000 in
set_option maxHeartbeats 16000000 in
theorem back5 {w wc : World} {va vcap vars aa acap arrays ca ccap chans mu co ta tcap threads} {z0 z1 z2 z3 z4 z5 : Value} {q : Nat} {at_ : Int} {oth : Nat} (hoth : oth < 256)
    (hA : Ask w ⟨va, vcap, vars, aa, acap, arrays, ca, ccap, chans, mu, co, ta, tcap, threads⟩) (hF : Pre w wc ⟨va, vcap, vars, aa, acap, arrays, ca, ccap, chans, mu, co, ta, tcap, threads⟩ q z0 z1 z2 z3 z4 z5)
    {u0 u1 u5 u6 u7 u8 u9 u11 u12 u13 u14 u15 u16 u17 u18 u19 u20 u21 u22 u23 u24 u25 u26 u27 u28 u29 u30 u31 u32 u33 u34 u35 u36 u37 u38 u39 u40 u41 u42 u43 u44 u45 u46 u47 u48 u49 u50 u51 u52 u53 u54 u55 u56 u57 u58 u59 u60 u61 u62 u63 u64 u65 u66 u67 u68 u69 u70 u71 u72 u73 u74 u75 u76 u77 u78 u79 u80 u81 u82 u83 u84 u85 u86 u87 u88 u89 u90 u91 u92 u93 u94 u95 u96 u97 u98 u99 u100 u101 u102 u103 u104 u105 u106 u107 u108 u109 u110 u111 u112 : Value} :
    Code.wp Tryd.prog (dropS 5 (Tryd.f4.body.getD .skip)) (bodyPost Tryd.prog Tryd.f4 fun e w' => e = .returned (.bool true) ∧ Below w.heap.size w w') ⟨#[u0, u1, .int .i64 at_, .int .u8 (oth : Int), .pointer (some ⟨w.heap.size, 0, none⟩), u5, u6, u7, u8, u9, .pointer (some ⟨q, 0, none⟩), u11, u12, u13, u14, u15, u16, u17, u18, u19, u20, u21, u22, u23, u24, u25, u26, u27, u28, u29, u30, u31, u32, u33, u34, u35, u36, u37, u38, u39, u40, u41, u42, u43, u44, u45, u46, u47, u48, u49, u50, u51, u52, u53, u54, u55, u56, u57, u58, u59, u60, u61, u62, u63, u64, u65, u66, u67, u68, u69, u70, u71, u72, u73, u74, u75, u76, u77, u78, u79, u80, u81, u82, u83, u84, u85, u86, u87, u88, u89, u90, u91, u92, u93, u94, u95, u96, u97, u98, u99, u100, u101, u102, u103, u104, u105, u106, u107, u108, u109, u110, u111, u112], []⟩ wc := by
  conv in (dropS _ _) => whnf
  have x0 := cell_blk (k := 0) hF.x rfl
  have x1 := cell_blk (k := 1) hF.x rfl
  have x2 := cell_blk (k := 2) hF.x rfl
  have x3 := cell_blk (k := 3) hF.x rfl
  have x4 := cell_blk (k := 4) hF.x rfl
  have x5 := cell_blk (k := 5) hF.x rfl
  have ce := encode_any ⟨va, vcap, vars, aa, acap, arrays, ca, ccap, chans, mu, co, ta, tcap, threads⟩ wc (hA.tc.below hF.bl hA.tc.1) (ok_below hA.ok hF.bl) (fun c hc => ⟨fun a ha => Nat.lt_of_lt_of_le ((hA.cw c hc).1 a ha) hF.bl.size, (hA.cw c hc).2⟩)
  dsimp only at ce
  refine wp_seq_k fun K hK => ?_
  have HK := Lib.hid hK
  have HF := Lib.hid hF
  clear hK hF
  go_wp2_with fail
  refine ce.mono ?_
  rintro e w1 ⟨hb1, he⟩
  clear ce x0 x1 x2 x3 x4 x5
  have hB1 := HF.out.bl.trans (hb1.mono HF.out.bl.size)
  by_cases hm : mMay ⟨va, vcap, vars, aa, acap, arrays, ca, ccap, chans, mu, co, ta, tcap, threads⟩ = true
  · rw [if_pos hm] at he
    obtain ⟨v, rfl, hv⟩ := he
    have hmP := hm
    rw [mMay_p] at hmP
    have hsf := seal_fwd hmP
    have hsm := smb_seal (smb_modM _ hm)
    have hlen := mod_len hmP
    have hl8 : 8 ≤ (sealB (modP (ModM.p ⟨va, vcap, vars, aa, acap, arrays, ca, ccap, chans, mu, co, ta, tcap, threads⟩))).length := by
      have := hsf.1
      unfold sealed at this
      simp only [Bool.and_eq_true, decide_eq_true_eq] at this
      exact this.1
    have hl9 : (sealB (modP (ModM.p ⟨va, vcap, vars, aa, acap, arrays, ca, ccap, chans, mu, co, ta, tcap, threads⟩))).length ≤ 281474976710656 := by rw [seal_len]; omega
    obtain ⟨g, cap, rfl, hg, _, hcap, hc, hgb⟩ := own_bytes hv (by omega) rfl
    have hM : Mid w w1 ⟨va, vcap, vars, aa, acap, arrays, ca, ccap, chans, mu, co, ta, tcap, threads⟩ q g (sealB (modP (ModM.p ⟨va, vcap, vars, aa, acap, arrays, ca, ccap, chans, mu, co, ta, tcap, threads⟩))) z0 z1 z2 z3 z4 z5 := ⟨hB1, (hb1.block _ (Array.getElem?_eq_some_iff.1 HF.out.x).1).trans HF.out.x, (hb1.block _ (Array.getElem?_eq_some_iff.1 HF.out.y).1).trans HF.out.y, HF.out.hq, Nat.le_trans HF.out.bl.size hg, hgb, hc⟩
    have hLs : ∃ l, sealB (modP (ModM.p ⟨va, vcap, vars, aa, acap, arrays, ca, ccap, chans, mu, co, ta, tcap, threads⟩)) = sealB l := ⟨_, rfl⟩
    clear hv hgb hc hlen hg hb1 hm hmP
    obtain ⟨L, hL⟩ : ∃ L, sealB (modP (ModM.p ⟨va, vcap, vars, aa, acap, arrays, ca, ccap, chans, mu, co, ta, tcap, threads⟩)) = L := ⟨_, rfl⟩
    rw [hL] at hM hsf hsm hl8 hl9 hcap hLs ⊢
    obtain ⟨N, hN⟩ : ∃ N, L.length = N := ⟨_, rfl⟩
    have HALL := Lib.hid (And.intro hM (And.intro hsf (And.intro hsm hLs)))
    have HN := Lib.hid hN
    rw [hN] at hl8 hl9 hcap ⊢
    have HC := Lib.hid (And.intro hl8 (And.intro hl9 hcap))
    clear hM hsf hsm hL hl8 hl9 hcap hN hLs
    go_wp2_with fail
    refine HK.out _ _ ?_
    clear HK K
    refine wp_seq_k fun K hK => ?_
    have HK := Lib.hid hK
    clear hK
    go_wp2_with fail
    refine (num_any 0 _).mono ?_
    rintro e w' ⟨rfl, rfl⟩
    go_wp2_with fail
    refine HK.out _ _ ?_
    exact back7 hoth hA HALL.out.1 HN.out HC.out.2.2 HC.out.1 HC.out.2.1 HALL.out.2.2.1 HALL.out.2.2.2 HALL.out.2.1.1 HALL.out.2.1.2
  · rw [if_neg hm] at he
    subst he
    go_wp2_with fail
    refine HK.out _ _ ?_
    clear HK K
    go_wp2_with fail
    refine (num_any 2 _).mono ?_
    rintro e w' ⟨rfl, rfl⟩
    go_wp2_with fail
    refine (works_any _ (hA.tc.below hB1 hA.tc.1) (hA.tb.below hB1 hA.sz) (Nat.lt_of_lt_of_le hA.sz hB1.size)).mono ?_
    rintro e w4 ⟨rfl, hb4⟩
    go_wp2
    go_ret
    exact ⟨rfl, hB1.trans (hb4.mono hB1.size)⟩
end Go.Proofs.YtjbinejaagpleaaDoor
