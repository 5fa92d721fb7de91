/- The last part of the law on the least: that no call makes a watch's clock less. Asked: the calls lie there; the table of powers of ten is laid. -/
import Derived.Test.YtnalpladieoegaaDoorGrow
import Derived.Test.YtnalpladieoegaaDoorPlay
import Derived.Test.YtnalpladieoegaaDoorLawD
import Derived.Deep.DeepCutAuto
namespace Go.Proofs.YtnalpladieoegaaDoor
open Go.RowKit Go.Shelf

def bi (r : Bool) : Int := if r then 1 else 0
/-- A watch, its copy, the life. -/
structure Duo (w wr : World) (p tb pb p2 t2 b2 j1 j2 : Nat) (th pl th' pl' : List Ck) (n m : Int) (s : Value) : Prop where
  wt : Wt wr p tb pb th' pl'
  wc : WtC wr p2 t2 b2 j1 j2 th pl
  bel : Below w.heap.size w wr
  l : Lif wr (w.heap.size + 1 + 1 + 1) n m s
theorem Duo.belowS {w W W' : World} {p tb pb p2 t2 b2 j1 j2 : Nat} {th pl th' pl' : List Ck} {n m : Int} {s : Value} (h : Duo w W p tb pb p2 t2 b2 j1 j2 th pl th' pl' n m s) (hb : Below W.heap.size W W') : Duo w W' p tb pb p2 t2 b2 j1 j2 th pl th' pl' n m s :=
  ⟨h.wt.below hb, h.wc.below hb, h.bel.trans (hb.mono h.bel.size), h.l.belowS hb⟩
theorem Duo.alloc {w W : World} {p tb pb p2 t2 b2 j1 j2 : Nat} {th pl th' pl' : List Ck} {n m : Int} {s : Value} (h : Duo w W p tb pb p2 t2 b2 j1 j2 th pl th' pl' n m s) (o : Obj) : Duo w (W.alloc o) p tb pb p2 t2 b2 j1 j2 th pl th' pl' n m s :=
  h.belowS ((Below.refl _ W).alloc (Nat.le_refl _) o)
theorem below_of_none {w w' : World} (hg : w.grownBy w' none) : Below w.heap.size w w' := ⟨hg.os, hg.tape, hg.output, hg.size, fun k hk => hg.block k hk (by simp)⟩


def dropS : Nat → Code → Code
  | 0, c => c
  | n + 1, .seq _ c => dropS n c
  | _, c => c

set_option maxRecDepth 100000 in
set_option maxHeartbeats 8000000 in
theorem least_tail {w wc : World} {a b c : Ck} {n m : Int} {s : Option Addr} {len cap : Nat} (hs : Acts w s len) (ht : Tab w) (h0 : 0 < w.heap.size) (hF2 : Four w wc a b c n m (.slice s len cap))
    {u0 u1 u2 u3 u8 u9 u10 u11 u12 u13 u14 u15 u16 u17 u18 u19 u20 u21 u22 u23 u24 u25 u26 u27 u28 u29 u30 u31 u32 u33 u34 u35 u36 u37 u38 u39 u40 u41 u42 u43 u44 u45 u46 u47 u48 u49 u50 u51 u52 u53 u54 u55 u56 u57 u58 u59 u60 u61 u62 u63 u64 u65 u66 u67 u68 u69 u70 u71 u72 u73 u74 u75 u76 u77 u78 u79 u80 u81 u82 u83 u84 u85 u86 u87 u88 u89 u90 u91 u92 u93 u94 u95 u96 u97 u98 u99 u100 u101 u102 u103 u104 u105 u106 u107 u108 u109 u110 u111 u112 u113 u114 u115 u116 u117 u118 u119 u120 u121 u122 u123 u124 u125 u126 u127 u128 u129 u130 u131 u132 u133 u134 u135 u136 u137 u138 u139 u140 u141 u142 u143 u144 u145 u146 u147 u148 u149 u150 u151 u152 u153 u154 u155 u156 u157 u158 u159 u160 u161 u162 u163 u164 u165 u166 u167 u168 u169 u170 u171 u172 u173 u174 u175 u176 u177 u178 u179 u180 u181 u182 u183 u184 u185 u186 u187 u188 u189 u190 u191 u192 u193 u194 u195 u196 u197 u198 : Value} :
    Code.wp Tryd.prog (dropS 9 (Tryd.f9.body.getD .skip)) (bodyPost Tryd.prog Tryd.f9 fun e w' => e = .returned (.bool true) ∧ Below w.heap.size w w') ⟨#[u0, u1, u2, u3, .pointer (some ⟨w.heap.size, 0, none⟩), .pointer (some ⟨w.heap.size + 1, 0, none⟩), .pointer (some ⟨w.heap.size + 1 + 1, 0, none⟩), .pointer (some ⟨w.heap.size + 1 + 1 + 1, 0, none⟩), u8, u9, u10, u11, u12, u13, u14, u15, u16, u17, u18, u19, u20, u21, u22, u23, u24, u25, u26, u27, u28, u29, u30, u31, u32, u33, u34, u35, u36, u37, u38, u39, u40, u41, u42, u43, u44, u45, u46, u47, u48, u49, u50, u51, u52, u53, u54, u55, u56, u57, u58, u59, u60, u61, u62, u63, u64, u65, u66, u67, u68, u69, u70, u71, u72, u73, u74, u75, u76, u77, u78, u79, u80, u81, u82, u83, u84, u85, u86, u87, u88, u89, u90, u91, u92, u93, u94, u95, u96, u97, u98, u99, u100, u101, u102, u103, u104, u105, u106, u107, u108, u109, u110, u111, u112, u113, u114, u115, u116, u117, u118, u119, u120, u121, u122, u123, u124, u125, u126, u127, u128, u129, u130, u131, u132, u133, u134, u135, u136, u137, u138, u139, u140, u141, u142, u143, u144, u145, u146, u147, u148, u149, u150, u151, u152, u153, u154, u155, u156, u157, u158, u159, u160, u161, u162, u163, u164, u165, u166, u167, u168, u169, u170, u171, u172, u173, u174, u175, u176, u177, u178, u179, u180, u181, u182, u183, u184, u185, u186, u187, u188, u189, u190, u191, u192, u193, u194, u195, u196, u197, u198], []⟩ wc := by
  conv in (dropS _ _) => whnf
  have l0 := hF2.l.c0
  have l1 := hF2.l.c1
  have l2 := hF2.l.c2
  rcases small_or n m len with hs' | ⟨n', m', rfl, rfl, q1, q2, q3, q4⟩
  · have c1 := small_no wc n m s len cap hs'
    clear hs'
    go_wp2_with fail
    refine c1.mono ?_
    rintro e w' ⟨rfl, rfl⟩
    have hB := hF2.bel
    go_wp2_with fail
    refine (works_any _ (ht.below hB h0) (by have := hB.size; omega)).mono ?_
    rintro e w' ⟨rfl, hb⟩
    go_wp2
    go_ret
    exact ⟨rfl, hB.trans (hb.mono hB.size)⟩
  · have c1 := small_yes wc n' m' s len cap (by omega) (by omega) (by omega) (by omega) (by omega)
    go_wp2_with fail
    refine c1.mono ?_
    rintro e w' ⟨rfl, rfl⟩
    clear c1
    go_wp2_with fail
    refine (new_in n' m' wc q1 q2 (by omega)).mono ?_
    rintro e w3 ⟨p, tb, pb, rfl, hW3, hb3, q5, q6, q7⟩
    have hL3 := hF2.l.belowS hb3
    have hB3 := hF2.bel.trans (hb3.mono hF2.bel.size)
    have ll := hF2.l.lt
    have d1 : w.heap.size ≤ tb := by omega
    have d2 : w.heap.size ≤ pb := by omega
    have d3 : w.heap.size + 1 + 1 + 1 ≠ tb := by omega
    have d4 : w.heap.size + 1 + 1 + 1 ≠ pb := by omega
    have HD := Lib.hid (And.intro d1 (And.intro d2 (And.intro d3 d4)))
    clear hF2 hb3 l0 l1 l2 ll d1 d2 d3 d4 q5 q6 q7
    go_wp2_with fail
    go_loopg [13] len (fun g i wr => ∃ k : Nat, k ≤ len ∧ g = len - k ∧ i = .int .i64 k ∧ ∃ th pl : List Ck, Wt wr p tb pb th pl ∧ th.length = n' ∧ pl.length = m' ∧ Below w.heap.size w wr ∧ Lif wr (w.heap.size + 1 + 1 + 1) n' m' (.slice s len cap))
    case atStart => exact ⟨0, by omega, rfl, rfl, zs n', zs m', hW3, zs_len _, zs_len _, hB3, hL3⟩
    case round =>
      clear hW3 hB3 hL3
      obtain ⟨k, hk, rfl, rfl, th, pl, hW, hthl, hpll, hB, hL⟩ := hrel
      have e0 : 0 < th.length := by omega
      have e8 : th.length ≤ 8 := by omega
      have em : pl.length ≤ 65536 := by omega
      have HL := Lib.hid (And.intro hthl hpll)
      clear hthl hpll
      have l2 := hL.c2
      by_cases hlt : k < len
      · obtain ⟨bs, off, rfl, hbl, x, y, z, c0, c1, c2⟩ := hs k hlt
        have hp0 : (0 : Int) ≤ (k : Int) := by omega
        have hp1 : (k : Int) < (len : Int) := by omega
        have HC := Lib.hid (show ∀ W', Below w.heap.size w W' → W'.cell? ⟨bs, off + k * 3, none⟩ = some (.int .i64 x) ∧ W'.cell? ⟨bs, off + k * 3 + 1, none⟩ = some (.int .i64 y) ∧ W'.cell? ⟨bs, off + k * 3 + 2, none⟩ = some (.int .i64 z) from fun W' hb =>
          ⟨(hb.cell (p := ⟨bs, off + k * 3, none⟩) hbl).trans c0, (hb.cell (p := ⟨bs, off + k * 3 + 1, none⟩) hbl).trans c1, (hb.cell (p := ⟨bs, off + k * 3 + 2, none⟩) hbl).trans c2⟩)
        clear c0 c1 c2
        obtain ⟨wo, rfl⟩ : ∃ wo : World, wo = wr := ⟨_, rfl⟩
        go_wp2_with fail
        refine (copy_any (hW.cap (Nat.le_trans e8 (by decide)) (Nat.le_trans em (by decide))) e0 (by omega) em).mono ?_
        rintro e w4 ⟨p2, t2, b2, j1, j2, rfl, hC4, hb4, r1, r2, r3⟩
        have hW4 := hW.below hb4
        have hB4 := hB.trans (hb4.mono hB.size)
        have hL4 := hL.belowS hb4
        have y1 := hW.ptl
        have y2 := hW.tc.lt
        have y3 := hW.pc.lt
        have d1 : p2 ≠ tb ∧ p2 ≠ pb := by omega
        have d2 : t2 ≠ tb ∧ t2 ≠ pb := by omega
        have d3 : b2 ≠ tb ∧ b2 ≠ pb := by omega
        have HE := Lib.hid (And.intro d1 (And.intro d2 d3))
        clear d1 d2 d3 y1 y2 y3 r1 r2 r3 hW hB hL l2 hb4
        have l2 := hL4.c2
        obtain ⟨c0, c1, c2⟩ := HC.out _ hB4
        go_upto_region 22 with fail
        go_cut [133] (fun s133 wx => ∃ f : Bool, s133 = .bool f ∧ (f = false → ¬ x < 0 ∧ ¬ 3 < x) ∧ wx = w4)
        case first =>
          by_cases hx0 : x < 0
          · go_wp2_with fail
            go_meet
            exact ⟨true, rfl, fun h => by simp at h, rfl⟩
          · by_cases hx3 : 3 < x
            · go_wp2_with fail
              go_meet
              exact ⟨true, rfl, fun h => by simp at h, rfl⟩
            · go_wp2_with fail
              go_meet
              exact ⟨false, rfl, fun _ => ⟨hx0, hx3⟩, rfl⟩
        case rest =>
        obtain ⟨f, rfl, hf, rfl⟩ := hcut
        have HF := Lib.hid hf
        clear hf
        go_upto_if 133 with fail
        go_cut [] (fun wx => ∃ th' pl' : List Ck, Duo w wx p tb pb p2 t2 b2 j1 j2 th pl th' pl' n' m' (.slice (some ⟨bs, off, none⟩) len cap) ∧ Up th th' ∧ Up pl pl' ∧ th'.length = th.length ∧ pl'.length = pl.length)
        case first =>
          cases f
          · have hx := HF.out rfl
            obtain ⟨th', pl', ee, hM⟩ := Mv.total x y z th pl (by omega)
            clear hx
            go_wp2_with fail
            refine (move_mv hW4 hM e0 e8 em).mono ?_
            rintro e w5 ⟨rfl, hW5, hk5⟩
            go_wp2_with fail
            go_meet
            exact ⟨th', pl', ⟨hW5, hC4.keep hk5 HE.out.1 HE.out.2.1 HE.out.2.2, hk5.to_below hB4 hB4.size HD.out.1 HD.out.2.1, hL4.of (hk5.block _ hL4.lt HD.out.2.2.1 HD.out.2.2.2)⟩, hM.up.1, hM.up.2, hM.len.1, hM.len.2⟩
          · obtain ⟨th', cc, ee, hS⟩ := St.total y th
            go_wp2_with fail
            refine (step_st hW4 hS e0 e8).mono ?_
            rintro e w5 ⟨rfl, hW5, hk5⟩
            go_wp2_with fail
            go_meet
            exact ⟨th', pl, ⟨hW5, hC4.keep hk5 HE.out.1 HE.out.2.1 HE.out.2.2, hk5.to_below hB4 hB4.size HD.out.1 HD.out.2.1, hL4.of (hk5.block _ hL4.lt HD.out.2.2.1 HD.out.2.2.2)⟩, hS.up, Up.refl _, hS.len, rfl⟩
        case rest =>
        clear hW4 hC4 hB4 hL4 c0 c1 c2 l2
        obtain ⟨th', pl', hD, hN1, hN2, hlen, hlen2⟩ := hcut
        have f0 : 0 < th'.length := by omega
        have f8 : th'.length ≤ 8 := by omega
        have fm : pl'.length ≤ 65536 := by omega
        have HT := Lib.hid (And.intro (hlen.trans HL.out.1) (hlen2.trans HL.out.2))
        clear hlen hlen2
        have HN := Lib.hid (And.intro hN1 hN2)
        clear hN1 hN2
        go_wp2_with fail
        go_loopw [15] (fun tv wr => ∃ t : Nat, t ≤ n' ∧ tv = .int .i64 t ∧ Duo w wr p tb pb p2 t2 b2 j1 j2 th pl th' pl' n' m' (.slice (some ⟨bs, off, none⟩) len cap)) (fun tv _ => n' - (intOf tv).toNat)
        case atStart => exact ⟨0, by omega, rfl, hD⟩
        case round =>
          clear hD
          obtain ⟨t, hk2, rfl, hD⟩ := hrel
          have l0 := hD.l.c0
          by_cases hlt2 : t < n'
          · have hp2 : (t : Int) < (n' : Int) := by omega
            have hfg := HN.out.1 t
            go_wp2_with fail
            refine (c_thread hD.wc (i := t) (by have := HL.out; omega) (by omega) e0).mono ?_
            rintro e w6 ⟨rfl, _, hg6⟩
            obtain ⟨fa, hfa⟩ : ∃ fa, at_ th t = fa := ⟨_, rfl⟩
            obtain ⟨ga, hga⟩ : ∃ ga, at_ th' t = ga := ⟨_, rfl⟩
            rw [hfa, hga] at hfg
            rw [hfa]
            have hD6 := (hD.belowS (below_of_none hg6)).alloc (.cells (cl fa) 23)
            have hX := Blk.new w6 23 fa
            clear hg6 hD
            go_wp2_with fail
            change Calls _ _ _ (w6.alloc (.cells (cl fa) 23)) _
            obtain ⟨s6, hs6⟩ : ∃ s, w6.heap.size = s := ⟨_, rfl⟩
            rw [hs6] at hX ⊢
            generalize w6.alloc (.cells (cl fa) 23) = W6 at *
            refine (thread_in hD6.wt (i := t) (by have := HT.out; omega) (by omega) f0).mono ?_
            rintro e w7 ⟨rfl, _, hg7⟩
            rw [hga]
            have hX7 := (hX.below (below_of_none hg7) hX.lt).alloc (.cells (cl ga) 23)
            have hD7 := (hD6.belowS (below_of_none hg7)).alloc (.cells (cl ga) 23)
            have hY := Blk.new w7 23 ga
            have dd := fun W => Within_any fa ga W
            rw [hfg] at dd
            clear hg7 hD6 hX hfg hfa hga hs6
            obtain ⟨s7, hs7⟩ : ∃ s, w7.heap.size = s := ⟨_, rfl⟩
            rw [hs7] at hY
            have x0 := hX7.cell (k := 0) (by decide)
            have x1 := hX7.cell (k := 1) (by decide)
            have x2 := hX7.cell (k := 2) (by decide)
            have x3 := hX7.cell (k := 3) (by decide)
            have x4 := hX7.cell (k := 4) (by decide)
            have x5 := hX7.cell (k := 5) (by decide)
            have x6 := hX7.cell (k := 6) (by decide)
            have x7 := hX7.cell (k := 7) (by decide)
            have y0 := hY.cell (k := 0) (by decide)
            have y1 := hY.cell (k := 1) (by decide)
            have y2 := hY.cell (k := 2) (by decide)
            have y3 := hY.cell (k := 3) (by decide)
            have y4 := hY.cell (k := 4) (by decide)
            have y5 := hY.cell (k := 5) (by decide)
            have y6 := hY.cell (k := 6) (by decide)
            have y7 := hY.cell (k := 7) (by decide)
            go_wp2_with fail
            refine (dd _).mono ?_
            rintro e w8 ⟨rfl, hb8⟩
            have hD8 := hD7.belowS hb8
            clear x0 x1 x2 x3 x4 x5 x6 x7 y0 y1 y2 y3 y4 y5 y6 y7
            clear hb8 hD7 hX7 hY hs7 dd
            go_wp2
            go_roundw
            case rel => exact ⟨t + 1, by omega, by go_num, hD8⟩
            case measure => simp [intOf]; omega
          · obtain rfl : t = n' := by omega
            go_wp2_with fail
            obtain ⟨wo2, rfl⟩ : ∃ wo : World, wo = wr := ⟨_, rfl⟩
            go_loopw [20] (fun tv wr => ∃ g : Nat, g ≤ m' ∧ tv = .int .i64 g ∧ Duo w wr p tb pb p2 t2 b2 j1 j2 th pl th' pl' t m' (.slice (some ⟨bs, off, none⟩) len cap)) (fun tv _ => m' - (intOf tv).toNat)
            case atStart => exact ⟨0, by omega, rfl, hD⟩
            case round =>
              clear hD l0
              obtain ⟨g, hk3, rfl, hD⟩ := hrel
              have l1 := hD.l.c1
              by_cases hlt3 : g < m'
              · have hp3 : (g : Int) < (m' : Int) := by omega
                have hfg := HN.out.2 g
                go_wp2_with fail
                refine (c_place hD.wc (i := g) (by have := HL.out; omega) (by omega) e0).mono ?_
                rintro e w6 ⟨rfl, _, hg6⟩
                obtain ⟨fa, hfa⟩ : ∃ fa, at_ pl g = fa := ⟨_, rfl⟩
                obtain ⟨ga, hga⟩ : ∃ ga, at_ pl' g = ga := ⟨_, rfl⟩
                rw [hfa, hga] at hfg
                rw [hfa]
                have hD6 := (hD.belowS (below_of_none hg6)).alloc (.cells (cl fa) 23)
                have hX := Blk.new w6 23 fa
                clear hg6 hD
                go_wp2_with fail
                change Calls _ _ _ (w6.alloc (.cells (cl fa) 23)) _
                obtain ⟨s6, hs6⟩ : ∃ s, w6.heap.size = s := ⟨_, rfl⟩
                rw [hs6] at hX ⊢
                generalize w6.alloc (.cells (cl fa) 23) = W6 at *
                refine (place_in hD6.wt (i := g) (by have := HT.out; omega) (by omega) f0).mono ?_
                rintro e w7 ⟨rfl, _, hg7⟩
                rw [hga]
                have hX7 := (hX.below (below_of_none hg7) hX.lt).alloc (.cells (cl ga) 23)
                have hD7 := (hD6.belowS (below_of_none hg7)).alloc (.cells (cl ga) 23)
                have hY := Blk.new w7 23 ga
                have dd := fun W => Within_any fa ga W
                rw [hfg] at dd
                clear hg7 hD6 hX hfg hfa hga hs6
                obtain ⟨s7, hs7⟩ : ∃ s, w7.heap.size = s := ⟨_, rfl⟩
                rw [hs7] at hY
                have x0 := hX7.cell (k := 0) (by decide)
                have x1 := hX7.cell (k := 1) (by decide)
                have x2 := hX7.cell (k := 2) (by decide)
                have x3 := hX7.cell (k := 3) (by decide)
                have x4 := hX7.cell (k := 4) (by decide)
                have x5 := hX7.cell (k := 5) (by decide)
                have x6 := hX7.cell (k := 6) (by decide)
                have x7 := hX7.cell (k := 7) (by decide)
                have y0 := hY.cell (k := 0) (by decide)
                have y1 := hY.cell (k := 1) (by decide)
                have y2 := hY.cell (k := 2) (by decide)
                have y3 := hY.cell (k := 3) (by decide)
                have y4 := hY.cell (k := 4) (by decide)
                have y5 := hY.cell (k := 5) (by decide)
                have y6 := hY.cell (k := 6) (by decide)
                have y7 := hY.cell (k := 7) (by decide)
                go_wp2_with fail
                refine (dd _).mono ?_
                rintro e w8 ⟨rfl, hb8⟩
                have hD8 := hD7.belowS hb8
                clear x0 x1 x2 x3 x4 x5 x6 x7 y0 y1 y2 y3 y4 y5 y6 y7
                clear hb8 hD7 hX7 hY hs7 dd
                go_wp2
                go_roundw
                case rel => exact ⟨g + 1, by omega, by go_num, hD8⟩
                case measure => simp [intOf]; omega
              · obtain rfl : g = m' := by omega
                go_wp2
                go_roundg (len - (k + 1))
                case measure => omega
                case rel => exact ⟨k + 1, by omega, rfl, by go_num, th', pl', hD.wt, HT.out.1, HT.out.2, hD.bel, hD.l⟩
      · obtain rfl : k = len := by omega
        go_wp2_with fail
        refine (num_any _ _).mono ?_
        rintro e _ ⟨rfl, rfl⟩
        go_wp2_with fail
        refine (works_any _ (ht.below hB h0) (by have := hB.size; omega)).mono ?_
        rintro e w' ⟨rfl, hb⟩
        go_wp2
        go_ret
        exact ⟨rfl, hB.trans (hb.mono hB.size)⟩
end Go.Proofs.YtnalpladieoegaaDoor
