/- The document's Check: may statements, declarations be? Asked: they lie in memory. -/
import Derived.Test.YtjmlmelcppbefaaGreatDoorW2
import Derived.Test.YtjmlmelcppbefaaGreatDoorT44
import Derived.Test.YtjmlmelcppbefaaGreatDoorT27
namespace Go.Proofs.YtjmlmelcppbefaaGreatDoor
open Go.RowKit Go.Maps
set_option maxRecDepth 100000 in
set_option maxHeartbeats 4000000 in
theorem nothing_any (x : Ex) (cs : List Value) (w : World) (hL : ExL (fun _ => True) w cs x) : Calls Tryz.prog 129 #[.agg cs.toArray] w fun e w' => e = .returned (.bool (exZ x)) ∧ Below w.heap.size w w' := by
  obtain ⟨k, n, s, sl, lo, op, args⟩ := x
  unfold ExL at hL
  obtain ⟨a, cap, rfl, -, -⟩ := hL
  obtain ⟨R, hR⟩ : ∃ R, exZ (.mk k n s sl lo op args) = R := ⟨_, rfl⟩
  rw [hR]
  have hR : (decide (k = 0) && (decide (n = 0) && (decide (s = noB) && (decide (op = 0) && decide (args.length = 0))))) = R := hR
  obtain ⟨N, hN⟩ : ∃ N, args.length = N := ⟨_, rfl⟩
  rw [hN] at hR ⊢
  have hb0 : Below w.heap.size w (w.alloc (.cells #[.int .i64 k, .int .i64 n, .string s, .int .i64 sl, .bool lo, .int .i64 op, .slice a N cap] 46)) := (Below.refl _ w).alloc (Nat.le_refl _) _
  have hz0 := Blk.new w 46 [.int .i64 k, .int .i64 n, .string s, .int .i64 sl, .bool lo, .int .i64 op, .slice a N cap]
  have HB := Lib.hid hb0
  have HZ := Lib.hid hz0
  clear hb0 hz0 hN
  go_enter Tryz.func129, Tryz.ntmps129
  refine wp_seq_k fun K hK => ?_
  have HK := Lib.hid hK
  clear hK
  go_wp2_with fail
  refine HK.out _ _ ?_
  clear HK K
  obtain ⟨z, hzz⟩ : ∃ z, w.heap.size = z := ⟨_, rfl⟩
  rw [hzz] at HZ
  generalize w.alloc (.cells #[.int .i64 k, .int .i64 n, .string s, .int .i64 sl, .bool lo, .int .i64 op, .slice a N cap] 46) = V0 at *
  rw [hzz]
  have c0 := HZ.out.cell 0
  have c1 := HZ.out.cell 1
  have c2 := HZ.out.cell 2
  have c5 := HZ.out.cell 5
  have c6 := HZ.out.cell 6
  simp only [List.getElem?_cons_succ, List.getElem?_cons_zero] at c0 c1 c2 c5 c6
  clear HZ
  rcases neOr k 0 with hk | hk
  · have hRf : R = false := by
      rw [← hR]
      simp [hk]
    subst hRf
    have hk2 : (k == 0) = false := by simpa using hk
    clear hR
    go_wp2_with fail
    go_ret
    exact ⟨rfl, by rw [← hzz]; exact HB.out⟩
  subst hk
  rcases neOr n 0 with hn | hn
  · have hRf : R = false := by
      rw [← hR]
      simp [hn]
    subst hRf
    have hn2 : (n == 0) = false := by simpa using hn
    clear hR
    go_wp2_with fail
    go_ret
    exact ⟨rfl, by rw [← hzz]; exact HB.out⟩
  subst hn
  rcases neOr s noB with hse | hse
  · have hRf : R = false := by
      rw [← hR]
      simp [hse]
    subst hRf
    have hse2 : ¬ s.toList = [] := fun e => hse (toListInj (e.trans noB_list.symm))
    have hse3 : s.toList.isEmpty = false := by rw [isE_eq]; exact decide_eq_false hse
    clear hR
    go_wp2_with fail
    go_ret
    exact ⟨rfl, by rw [← hzz]; exact HB.out⟩
  subst hse
  have hnl : noB.toList = [] := noB_list
  have hnl2 : noB.toList.isEmpty = true := by rw [noB_list]; rfl
  rcases neOr op 0 with ho | ho
  · have hRf : R = false := by
      rw [← hR]
      simp [ho]
    subst hRf
    have ho2 : (op == 0) = false := by simpa using ho
    clear hR
    go_wp2_with fail
    go_ret
    exact ⟨rfl, by rw [← hzz]; exact HB.out⟩
  subst ho
  rcases neOr N 0 with hl | hl
  · have hRf : R = false := by
      rw [← hR]
      simp [hl]
    subst hRf
    have hl2 : ((N : Int) == 0) = false := by simpa using hl
    clear hR
    go_wp2_with fail
    go_ret
    exact ⟨rfl, by rw [← hzz]; exact HB.out⟩
  subst hl
  have hRf : R = true := by
    rw [← hR]
    rfl
  subst hRf
  clear hR
  go_wp2_with fail
  go_ret
  exact ⟨rfl, by rw [← hzz]; exact HB.out⟩
def SgOk (d : Nat) : Prop := ∀ (s : St) (cs : List Value) (w : World), s.nb → StL (fun _ => True) w cs s → Calls Tryz.prog 96 #[.agg cs.toArray, .int .i64 (d : Int)] w fun e w' => e = .returned (.bool (stR isName s d)) ∧ Below w.heap.size w w'
def LgOk (d : Nat) : Prop := ∀ (l : List St) (a : Option Addr) (cap : Nat) (w : World), St.nbs l → SlAt w a cap l → Calls Tryz.prog 47 #[.slice a l.length cap, .int .i64 (d : Int)] w fun e w' => e = .returned (.bool (stsR isName l d)) ∧ Below w.heap.size w w'
set_option maxRecDepth 100000 in
set_option maxHeartbeats 4000000 in
theorem sg_d {w V : World} {z d : Nat} {k l c : Int} {s t : ByteArray} {x y : Ex} {body els : List St} {id sl ot : Int} {lo : Bool} {R : Bool} (hd : d ≤ 24) (ih : LgOk (d + 1)) (hb : Below w.heap.size w V) (hz : StAt V z 0 (.mk k l c s t x y body els id sl ot lo)) (hnb : (.mk k l c s t x y body els id sl ot lo : St).nb) (hR : (stsR isName body (d + 1) && stsR isName els (d + 1)) = R) {u0 u3 u6 u7 u8 u9 u10 u11 u12 u13 u14 u15 u16 u17 u18 u19 u20 u21 u22 u23 u24 u25 u26 u27 u28 u29 u30 u31 u32 u33 u34 u35 u36 u37 u38 u39 u40 u41 u42 u43 u44 u45 u46 u47 u48 u49 u50 u51 u52 u53 u54 u55 u56 u57 u58 u59 u60 u61 u62 u63 u64 u65 u66 u67 u68 u69 u70 u71 u72 u73 u74 u75 u76 u77 u78 u79 u80 u81 u82 u83 u84 u85 u86 u87 u88 u89 u90 u91 u92 u93 u94 u95 u96 u97 u98 u99 u100 u101 u102 u103 u104 u105 u106 u107 u108 u109 u110 u111 u112 u113 u114 u115 u116 u117 u118 u119 u120 u121 u122 u123 u124 u125 u126 u127 u128 u129 u130 u131 u132 u133 u134 u135 u136 u137 u138 u139 u140 u141 u142 u143 u144 u145 u146 u147 : Value} :
    Code.wp Tryz.prog (dropS 9 (Tryz.f96.body.getD .skip)) (bodyPost Tryz.prog Tryz.f96 (fun e w' => e = .returned (.bool R) ∧ Below w.heap.size w w')) ⟨#[u0, .int .i64 (d : Int), .pointer (some ⟨z, 0, none⟩), u3, .bool false, .int .i64 k, u6, u7, u8, u9, u10, u11, u12, u13, u14, u15, u16, u17, u18, u19, u20, u21, u22, u23, u24, u25, u26, u27, u28, u29, u30, u31, u32, u33, u34, u35, u36, u37, u38, u39, u40, u41, u42, u43, u44, u45, u46, u47, u48, u49, u50, u51, u52, u53, u54, u55, u56, u57, u58, u59, u60, u61, u62, u63, u64, u65, u66, u67, u68, u69, u70, u71, u72, u73, u74, u75, u76, u77, u78, u79, u80, u81, u82, u83, u84, u85, u86, u87, u88, u89, u90, u91, u92, u93, u94, u95, u96, u97, u98, u99, u100, u101, u102, u103, u104, u105, u106, u107, u108, u109, u110, u111, u112, u113, u114, u115, u116, u117, u118, u119, u120, u121, u122, u123, u124, u125, u126, u127, u128, u129, u130, u131, u132, u133, u134, u135, u136, u137, u138, u139, u140, u141, u142, u143, u144, u145, u146, u147], []⟩ V := by
  have hroom : (d : Int) + 1 ≤ 9223372036854775807 := by omega
  obtain ⟨R1, hR1⟩ : ∃ R, stsR isName body (d + 1) = R := ⟨_, rfl⟩
  obtain ⟨R2, hR2⟩ : ∃ R, stsR isName els (d + 1) = R := ⟨_, rfl⟩
  rw [hR1, hR2] at hR
  obtain ⟨-, -, -, -, -, -, -, ⟨ab, capb, p19, hbody⟩, ae, cape, p20, hels⟩ := hz.parts
  simp only [Nat.zero_add] at p19 p20
  unfold St.nb at hnb
  have hcb := ih body ab capb V hnb.2.2.2.2.1 hbody
  rw [hR1, show ((d + 1 : Nat) : Int) = (d : Int) + 1 by omega] at hcb
  have HC := Lib.hid (fun W (h : SlAt W ae cape els) => ih els ae cape W hnb.2.2.2.2.2 h)
  have HEL := Lib.hid hels
  have HB := Lib.hid hb
  have HR := Lib.hid hR
  have hR3 := Lib.hid hR2
  have HQ : Hid (∀ V', Below V.heap.size V V' → V'.cell? ⟨z, 20, none⟩ = some (.slice ae els.length cape)) := Lib.hid (fun V' hv => by rw [← p20]; simp [World.cell?, hv.block z (World.block_lt_of_cell? V _ p20)])
  obtain ⟨N1, hN1⟩ : ∃ N, body.length = N := ⟨_, rfl⟩
  rw [hN1] at hcb p19
  clear hz hnb hels hbody hb ih hR hR1 hR2 p20 hN1
  conv in (dropS _ _) => whnf
  go_wp2_with fail
  refine hcb.mono ?_
  rintro e V1 ⟨rfl, hb1⟩
  have HB1 := Lib.hid (HB.out.trans (hb1.mono HB.out.size))
  cases R1
  · clear HC HEL hcb hb1 p19 HQ HB hR3
    have hRf : R = false := by rw [← HR.out]; rfl
    subst hRf
    have hbf := HB1.out
    go_wp2_with fail
    go_ret
    exact ⟨rfl, hbf⟩
  have hce := HC.out V1 (HEL.out.below hb1)
  rw [hR3.out, show ((d + 1 : Nat) : Int) = (d : Int) + 1 by omega] at hce
  have q20 := HQ.out V1 hb1
  obtain ⟨N2, hN2⟩ : ∃ N, els.length = N := ⟨_, rfl⟩
  rw [hN2] at hce q20
  have hRe : R2 = R := by rw [← HR.out]; rfl
  subst hRe
  clear HC HEL HB hcb hb1 p19 HQ hR3 HR hN2
  go_wp2_with fail
  refine hce.mono ?_
  rintro e V2 ⟨rfl, hb2⟩
  have hbf := HB1.out.trans (hb2.mono HB1.out.size)
  clear hce hb2 HB1 q20
  go_wp2_with fail
  go_ret
  exact ⟨rfl, hbf⟩
set_option maxRecDepth 100000 in
set_option maxHeartbeats 4000000 in
theorem sg_c {w V : World} {z d : Nat} {k l c : Int} {s t : ByteArray} {x y : Ex} {body els : List St} {id sl ot : Int} {lo : Bool} {R : Bool} (hd : d ≤ 24) (ih : LgOk (d + 1)) (hb : Below w.heap.size w V) (hz : StAt V z 0 (.mk k l c s t x y body els id sl ot lo)) (hnb : (.mk k l c s t x y body els id sl ot lo : St).nb) (hR : (((decide (k = 4) || decide (k = 5)) || decide (body.length = 0)) && ((decide (k = 4) || decide (els.length = 0)) && (stsR isName body (d + 1) && stsR isName els (d + 1)))) = R) {u0 u3 u6 u7 u8 u9 u10 u11 u12 u13 u14 u15 u16 u17 u18 u19 u20 u21 u22 u23 u24 u25 u26 u27 u28 u29 u30 u31 u32 u33 u34 u35 u36 u37 u38 u39 u40 u41 u42 u43 u44 u45 u46 u47 u48 u49 u50 u51 u52 u53 u54 u55 u56 u57 u58 u59 u60 u61 u62 u63 u64 u65 u66 u67 u68 u69 u70 u71 u72 u73 u74 u75 u76 u77 u78 u79 u80 u81 u82 u83 u84 u85 u86 u87 u88 u89 u90 u91 u92 u93 u94 u95 u96 u97 u98 u99 u100 u101 u102 u103 u104 u105 u106 u107 u108 u109 u110 u111 u112 u113 u114 u115 u116 u117 u118 u119 u120 u121 u122 u123 u124 u125 u126 u127 u128 u129 u130 u131 u132 u133 u134 u135 u136 u137 u138 u139 u140 u141 u142 u143 u144 u145 u146 u147 : Value} :
    Code.wp Tryz.prog (dropS 8 (Tryz.f96.body.getD .skip)) (bodyPost Tryz.prog Tryz.f96 (fun e w' => e = .returned (.bool R) ∧ Below w.heap.size w w')) ⟨#[u0, .int .i64 (d : Int), .pointer (some ⟨z, 0, none⟩), u3, .bool false, .int .i64 k, u6, u7, u8, u9, u10, u11, u12, u13, u14, u15, u16, u17, u18, u19, u20, u21, u22, u23, u24, u25, u26, u27, u28, u29, u30, u31, u32, u33, u34, u35, u36, u37, u38, u39, u40, u41, u42, u43, u44, u45, u46, u47, u48, u49, u50, u51, u52, u53, u54, u55, u56, u57, u58, u59, u60, u61, u62, u63, u64, u65, u66, u67, u68, u69, u70, u71, u72, u73, u74, u75, u76, u77, u78, u79, u80, u81, u82, u83, u84, u85, u86, u87, u88, u89, u90, u91, u92, u93, u94, u95, u96, u97, u98, u99, u100, u101, u102, u103, u104, u105, u106, u107, u108, u109, u110, u111, u112, u113, u114, u115, u116, u117, u118, u119, u120, u121, u122, u123, u124, u125, u126, u127, u128, u129, u130, u131, u132, u133, u134, u135, u136, u137, u138, u139, u140, u141, u142, u143, u144, u145, u146, u147], []⟩ V := by
  obtain ⟨-, -, -, -, -, -, -, ⟨ab, capb, p19, hbody⟩, ae, cape, p20, hels⟩ := hz.parts
  simp only [Nat.zero_add] at p19 p20
  obtain ⟨D, hD⟩ : ∃ D, (stsR isName body (d + 1) && stsR isName els (d + 1)) = D := ⟨_, rfl⟩
  rw [hD] at hR
  obtain ⟨N1, hN1⟩ : ∃ N, body.length = N := ⟨_, rfl⟩
  obtain ⟨N2, hN2⟩ : ∃ N, els.length = N := ⟨_, rfl⟩
  rw [hN1] at p19 hR
  rw [hN2] at p20 hR
  have HB := Lib.hid hb
  have HA := Lib.hid (And.intro ih (And.intro hz (And.intro hnb hD)))
  clear hz hnb hels hbody hb ih hD hN1 hN2
  conv in (dropS _ _) => whnf
  refine wp_seq_k fun K hK => ?_
  have HK := Lib.hid hK
  clear hK
  have HR := Lib.hid hR
  clear hR
  rcases neOr k 4 with k4 | k4
  · have k42 : (k != 4) = true := by simpa using k4
    have k43 : (k == 4) = false := by simpa using k4
    rcases neOr k 5 with k5 | k5
    · have k52 : (k != 5) = true := by simpa using k5
      rcases neOr N1 0 with h1 | h1
      · have h2 : (0 : Int) < (N1 : Int) := by omega
        have hRf : R = false := by rw [← HR.out]; simp [k4, k5, h1]
        subst hRf
        have hbf := HB.out
        go_wp2_with fail
        go_ret
        exact ⟨rfl, hbf⟩
      · subst h1
        rcases neOr N2 0 with h1 | h1
        · have h2 : (0 : Int) < (N2 : Int) := by omega
          have hRf : R = false := by rw [← HR.out]; simp [k4, h1]
          subst hRf
          have hbf := HB.out
          go_wp2_with fail
          go_ret
          exact ⟨rfl, hbf⟩
        · subst h1
          have hRD : D = R := by rw [← HR.out]; simp
          subst hRD
          clear HR
          go_wp2_with fail
          refine HK.out _ _ ?_
          clear HK K
          exact sg_d hd HA.out.1 HB.out HA.out.2.1 HA.out.2.2.1 HA.out.2.2.2
    · subst k5
      rcases neOr N2 0 with h1 | h1
      · have h2 : (0 : Int) < (N2 : Int) := by omega
        have hRf : R = false := by rw [← HR.out]; simp [h1]
        subst hRf
        have hbf := HB.out
        go_wp2_with fail
        go_ret
        exact ⟨rfl, hbf⟩
      · subst h1
        have hRD : D = R := by rw [← HR.out]; simp
        subst hRD
        clear HR
        go_wp2_with fail
        refine HK.out _ _ ?_
        clear HK K
        exact sg_d hd HA.out.1 HB.out HA.out.2.1 HA.out.2.2.1 HA.out.2.2.2
  · subst k4
    have hRD : D = R := by rw [← HR.out]; simp
    subst hRD
    clear HR
    go_wp2_with fail
    refine HK.out _ _ ?_
    clear HK K
    exact sg_d hd HA.out.1 HB.out HA.out.2.1 HA.out.2.2.1 HA.out.2.2.2
set_option maxRecDepth 100000 in
set_option maxHeartbeats 4000000 in
theorem sg_b {w V : World} {z d : Nat} {k l c : Int} {s t : ByteArray} {x y : Ex} {body els : List St} {id sl ot : Int} {lo : Bool} {nx : Bool} {R : Bool} (hd : d ≤ 24) (ih : LgOk (d + 1)) (hb : Below w.heap.size w V) (hz : StAt V z 0 (.mk k l c s t x y body els id sl ot lo)) (hnb : (.mk k l c s t x y body els id sl ot lo : St).nb) (hR : ((if k = 3 then exR isName y 24 else exZ y) && ((if nx = true then exR isName x 24 else exZ x) && (((decide (k = 4) || decide (k = 5)) || decide (body.length = 0)) && ((decide (k = 4) || decide (els.length = 0)) && (stsR isName body (d + 1) && stsR isName els (d + 1)))))) = R) {u0 u3 u6 u7 u9 u10 u11 u12 u13 u14 u15 u16 u17 u18 u19 u20 u21 u22 u23 u24 u25 u26 u27 u28 u29 u30 u31 u32 u33 u34 u35 u36 u37 u38 u39 u40 u41 u42 u43 u44 u45 u46 u47 u48 u49 u50 u51 u52 u53 u54 u55 u56 u57 u58 u59 u60 u61 u62 u63 u64 u65 u66 u67 u68 u69 u70 u71 u72 u73 u74 u75 u76 u77 u78 u79 u80 u81 u82 u83 u84 u85 u86 u87 u88 u89 u90 u91 u92 u93 u94 u95 u96 u97 u98 u99 u100 u101 u102 u103 u104 u105 u106 u107 u108 u109 u110 u111 u112 u113 u114 u115 u116 u117 u118 u119 u120 u121 u122 u123 u124 u125 u126 u127 u128 u129 u130 u131 u132 u133 u134 u135 u136 u137 u138 u139 u140 u141 u142 u143 u144 u145 u146 u147 : Value} :
    Code.wp Tryz.prog (dropS 7 (Tryz.f96.body.getD .skip)) (bodyPost Tryz.prog Tryz.f96 (fun e w' => e = .returned (.bool R) ∧ Below w.heap.size w w')) ⟨#[u0, .int .i64 (d : Int), .pointer (some ⟨z, 0, none⟩), u3, .bool false, .int .i64 k, u6, u7, .bool nx, u9, u10, u11, u12, u13, u14, u15, u16, u17, u18, u19, u20, u21, u22, u23, u24, u25, u26, u27, u28, u29, u30, u31, u32, u33, u34, u35, u36, u37, u38, u39, u40, u41, u42, u43, u44, u45, u46, u47, u48, u49, u50, u51, u52, u53, u54, u55, u56, u57, u58, u59, u60, u61, u62, u63, u64, u65, u66, u67, u68, u69, u70, u71, u72, u73, u74, u75, u76, u77, u78, u79, u80, u81, u82, u83, u84, u85, u86, u87, u88, u89, u90, u91, u92, u93, u94, u95, u96, u97, u98, u99, u100, u101, u102, u103, u104, u105, u106, u107, u108, u109, u110, u111, u112, u113, u114, u115, u116, u117, u118, u119, u120, u121, u122, u123, u124, u125, u126, u127, u128, u129, u130, u131, u132, u133, u134, u135, u136, u137, u138, u139, u140, u141, u142, u143, u144, u145, u146, u147], []⟩ V := by
  obtain ⟨d46, hu46, hr46⟩ := under46
  obtain ⟨C, hC⟩ : ∃ C, (((decide (k = 4) || decide (k = 5)) || decide (body.length = 0)) && ((decide (k = 4) || decide (els.length = 0)) && (stsR isName body (d + 1) && stsR isName els (d + 1)))) = C := ⟨_, rfl⟩
  rw [hC] at hR
  obtain ⟨-, -, -, -, -, hx, hy, -⟩ := hz.parts
  simp only [Nat.zero_add] at hx hy
  obtain ⟨cx, hrx, hlx, hLx⟩ := ExL.at0 hx
  obtain ⟨cy, hry, hly, hLy⟩ := ExL.at0 hy
  have HNB := Lib.hid hnb
  unfold St.nb at hnb
  obtain ⟨X, hX⟩ : ∃ X, (if nx = true then exR isName x 24 else exZ x) = X := ⟨_, rfl⟩
  obtain ⟨Y, hY⟩ : ∃ Y, (if k = 3 then exR isName y 24 else exZ y) = Y := ⟨_, rfl⟩
  rw [hX, hY] at hR
  have HR := Lib.hid hR
  have HZ := Lib.hid hz
  have HB := Lib.hid hb
  have HX := Lib.hid hrx
  have HA := Lib.hid (And.intro ih (And.intro hz hC))
  have HCX : Hid (nx = true → Calls Tryz.prog 27 #[.agg cx.toArray, .int .i64 24] V fun e w' => e = .returned (.bool X) ∧ Below V.heap.size V w') := Lib.hid (fun h => by
    have := right_any 24 (by decide) x cx V hnb.2.2.1 hLx
    rw [if_pos h] at hX
    rw [hX] at this
    exact this)
  have HCZ : Hid (nx = false → Calls Tryz.prog 129 #[.agg cx.toArray] V fun e w' => e = .returned (.bool X) ∧ Below V.heap.size V w') := Lib.hid (fun h => by
    have := nothing_any x cx V hLx
    rw [if_neg (by rw [h]; decide)] at hX
    rw [hX] at this
    exact this)
  have HYR : Hid (∀ V', Below V.heap.size V V' → k = 3 → Calls Tryz.prog 27 #[.agg cy.toArray, .int .i64 24] V' fun e w' => e = .returned (.bool Y) ∧ Below V'.heap.size V' w') := Lib.hid (fun V' hv h => by
    have := right_any 24 (by decide) y cy V' hnb.2.2.2.1 (hLy.below hv)
    rw [if_pos h] at hY
    rw [hY] at this
    exact this)
  have HYZ : Hid (∀ V', Below V.heap.size V V' → k ≠ 3 → Calls Tryz.prog 129 #[.agg cy.toArray] V' fun e w' => e = .returned (.bool Y) ∧ Below V'.heap.size V' w') := Lib.hid (fun V' hv h => by
    have := nothing_any y cy V' (hLy.below hv)
    rw [if_neg h] at hY
    rw [hY] at this
    exact this)
  have HYg : Hid (∀ V', Below V.heap.size V V' → V'.rangeAt z 12 cy) := Lib.hid (fun V' hv => rangeB hry hv)
  clear hz hnb hb ih hC hx hy hLx hLy hX hY hrx hry hR
  conv in (dropS _ _) => whnf
  refine wp_seq_k fun K hK => ?_
  have HK := Lib.hid hK
  clear hK
  cases nx
  · have hcl := HCZ.out rfl
    clear HCX HCZ
    rcases neOr k 3 with k3 | k3
    · have k32 : (k != 3) = true := by simpa using k3
      have k33 : (k == 3) = false := by simpa using k3
      have HY3 := Lib.hid (fun V' hv => HYZ.out V' hv k3)
      clear HYZ HYR
      go_wp2_with ((with_reducible show wpList _ _ _ (Oper.mk _ (.load 46 (.tmp 88)) _ _ _ _ :: _) _ _); refine wpList_load_g rfl 46 (.tmp 88) rfl z 5 rfl cx d46 HX.out hu46 hr46 (by rw [hlx]; exact info46) ?_)
      refine hcl.mono ?_
      rintro e V1 ⟨rfl, hb1⟩
      have HB1 := Lib.hid (HB.out.trans (hb1.mono HB.out.size))
      have HZ1 := Lib.hid (HZ.out.below hb1)
      have hcy := HY3.out V1 hb1
      have HY := Lib.hid (HYg.out V1 hb1)
      clear hcl HY3 HYg HB HZ HX hlx hb1
      cases X
      · clear hcy HY HA HNB
        have hRf : R = false := by rw [← HR.out]; simp
        subst hRf
        have hbf := HB1.out
        go_wp2_with fail
        go_ret
        exact ⟨rfl, hbf⟩
      go_wp2_with ((with_reducible show wpList _ _ _ (Oper.mk _ (.load 46 (.tmp 108)) _ _ _ _ :: _) _ _); refine wpList_load_g rfl 46 (.tmp 108) rfl z 12 rfl cy d46 HY.out hu46 hr46 (by rw [hly]; exact info46) ?_)
      refine hcy.mono ?_
      rintro e V2 ⟨rfl, hb2⟩
      have HB2 := Lib.hid (HB1.out.trans (hb2.mono HB1.out.size))
      have HZ2 := Lib.hid (HZ1.out.below hb2)
      clear hcy HY HB1 HZ1 hb2 hly
      cases Y
      · clear HA HNB
        have hRf : R = false := by rw [← HR.out]; simp
        subst hRf
        have hbf := HB2.out
        go_wp2_with fail
        go_ret
        exact ⟨rfl, hbf⟩
      have hRD : C = R := by rw [← HR.out]; rfl
      subst hRD
      clear HR
      go_wp2_with fail
      refine HK.out _ _ ?_
      clear HK K
      exact sg_c hd HA.out.1 HB2.out HZ2.out HNB.out HA.out.2.2
    · subst k3
      have HY3 := Lib.hid (fun V' hv => HYR.out V' hv rfl)
      clear HYZ HYR
      go_wp2_with ((with_reducible show wpList _ _ _ (Oper.mk _ (.load 46 (.tmp 88)) _ _ _ _ :: _) _ _); refine wpList_load_g rfl 46 (.tmp 88) rfl z 5 rfl cx d46 HX.out hu46 hr46 (by rw [hlx]; exact info46) ?_)
      refine hcl.mono ?_
      rintro e V1 ⟨rfl, hb1⟩
      have HB1 := Lib.hid (HB.out.trans (hb1.mono HB.out.size))
      have HZ1 := Lib.hid (HZ.out.below hb1)
      have hcy := HY3.out V1 hb1
      have HY := Lib.hid (HYg.out V1 hb1)
      clear hcl HY3 HYg HB HZ HX hlx hb1
      cases X
      · clear hcy HY HA HNB
        have hRf : R = false := by rw [← HR.out]; simp
        subst hRf
        have hbf := HB1.out
        go_wp2_with fail
        go_ret
        exact ⟨rfl, hbf⟩
      go_wp2_with ((with_reducible show wpList _ _ _ (Oper.mk _ (.load 46 (.tmp 98)) _ _ _ _ :: _) _ _); refine wpList_load_g rfl 46 (.tmp 98) rfl z 12 rfl cy d46 HY.out hu46 hr46 (by rw [hly]; exact info46) ?_)
      refine hcy.mono ?_
      rintro e V2 ⟨rfl, hb2⟩
      have HB2 := Lib.hid (HB1.out.trans (hb2.mono HB1.out.size))
      have HZ2 := Lib.hid (HZ1.out.below hb2)
      clear hcy HY HB1 HZ1 hb2 hly
      cases Y
      · clear HA HNB
        have hRf : R = false := by rw [← HR.out]; simp
        subst hRf
        have hbf := HB2.out
        go_wp2_with fail
        go_ret
        exact ⟨rfl, hbf⟩
      have hRD : C = R := by rw [← HR.out]; rfl
      subst hRD
      clear HR
      go_wp2_with fail
      refine HK.out _ _ ?_
      clear HK K
      exact sg_c hd HA.out.1 HB2.out HZ2.out HNB.out HA.out.2.2
  · have hcl := HCX.out rfl
    clear HCX HCZ
    rcases neOr k 3 with k3 | k3
    · have k32 : (k != 3) = true := by simpa using k3
      have k33 : (k == 3) = false := by simpa using k3
      have HY3 := Lib.hid (fun V' hv => HYZ.out V' hv k3)
      clear HYZ HYR
      go_wp2_with ((with_reducible show wpList _ _ _ (Oper.mk _ (.load 46 (.tmp 79)) _ _ _ _ :: _) _ _); refine wpList_load_g rfl 46 (.tmp 79) rfl z 5 rfl cx d46 HX.out hu46 hr46 (by rw [hlx]; exact info46) ?_)
      refine hcl.mono ?_
      rintro e V1 ⟨rfl, hb1⟩
      have HB1 := Lib.hid (HB.out.trans (hb1.mono HB.out.size))
      have HZ1 := Lib.hid (HZ.out.below hb1)
      have hcy := HY3.out V1 hb1
      have HY := Lib.hid (HYg.out V1 hb1)
      clear hcl HY3 HYg HB HZ HX hlx hb1
      cases X
      · clear hcy HY HA HNB
        have hRf : R = false := by rw [← HR.out]; simp
        subst hRf
        have hbf := HB1.out
        go_wp2_with fail
        go_ret
        exact ⟨rfl, hbf⟩
      go_wp2_with ((with_reducible show wpList _ _ _ (Oper.mk _ (.load 46 (.tmp 108)) _ _ _ _ :: _) _ _); refine wpList_load_g rfl 46 (.tmp 108) rfl z 12 rfl cy d46 HY.out hu46 hr46 (by rw [hly]; exact info46) ?_)
      refine hcy.mono ?_
      rintro e V2 ⟨rfl, hb2⟩
      have HB2 := Lib.hid (HB1.out.trans (hb2.mono HB1.out.size))
      have HZ2 := Lib.hid (HZ1.out.below hb2)
      clear hcy HY HB1 HZ1 hb2 hly
      cases Y
      · clear HA HNB
        have hRf : R = false := by rw [← HR.out]; simp
        subst hRf
        have hbf := HB2.out
        go_wp2_with fail
        go_ret
        exact ⟨rfl, hbf⟩
      have hRD : C = R := by rw [← HR.out]; rfl
      subst hRD
      clear HR
      go_wp2_with fail
      refine HK.out _ _ ?_
      clear HK K
      exact sg_c hd HA.out.1 HB2.out HZ2.out HNB.out HA.out.2.2
    · subst k3
      have HY3 := Lib.hid (fun V' hv => HYR.out V' hv rfl)
      clear HYZ HYR
      go_wp2_with ((with_reducible show wpList _ _ _ (Oper.mk _ (.load 46 (.tmp 79)) _ _ _ _ :: _) _ _); refine wpList_load_g rfl 46 (.tmp 79) rfl z 5 rfl cx d46 HX.out hu46 hr46 (by rw [hlx]; exact info46) ?_)
      refine hcl.mono ?_
      rintro e V1 ⟨rfl, hb1⟩
      have HB1 := Lib.hid (HB.out.trans (hb1.mono HB.out.size))
      have HZ1 := Lib.hid (HZ.out.below hb1)
      have hcy := HY3.out V1 hb1
      have HY := Lib.hid (HYg.out V1 hb1)
      clear hcl HY3 HYg HB HZ HX hlx hb1
      cases X
      · clear hcy HY HA HNB
        have hRf : R = false := by rw [← HR.out]; simp
        subst hRf
        have hbf := HB1.out
        go_wp2_with fail
        go_ret
        exact ⟨rfl, hbf⟩
      go_wp2_with ((with_reducible show wpList _ _ _ (Oper.mk _ (.load 46 (.tmp 98)) _ _ _ _ :: _) _ _); refine wpList_load_g rfl 46 (.tmp 98) rfl z 12 rfl cy d46 HY.out hu46 hr46 (by rw [hly]; exact info46) ?_)
      refine hcy.mono ?_
      rintro e V2 ⟨rfl, hb2⟩
      have HB2 := Lib.hid (HB1.out.trans (hb2.mono HB1.out.size))
      have HZ2 := Lib.hid (HZ1.out.below hb2)
      clear hcy HY HB1 HZ1 hb2 hly
      cases Y
      · clear HA HNB
        have hRf : R = false := by rw [← HR.out]; simp
        subst hRf
        have hbf := HB2.out
        go_wp2_with fail
        go_ret
        exact ⟨rfl, hbf⟩
      have hRD : C = R := by rw [← HR.out]; rfl
      subst hRD
      clear HR
      go_wp2_with fail
      refine HK.out _ _ ?_
      clear HK K
      exact sg_c hd HA.out.1 HB2.out HZ2.out HNB.out HA.out.2.2
set_option maxRecDepth 100000 in
set_option maxHeartbeats 4000000 in
theorem sg_a {w V : World} {z d : Nat} {k l c : Int} {s t : ByteArray} {x y : Ex} {body els : List St} {id sl ot : Int} {lo : Bool} {nm wt nx : Bool} {R : Bool} (hd : d ≤ 24) (ih : LgOk (d + 1)) (hb : Below w.heap.size w V) (hz : StAt V z 0 (.mk k l c s t x y body els id sl ot lo)) (hnb : (.mk k l c s t x y body els id sl ot lo : St).nb) (hR : ((if nm = true then isName s else decide (s = noB)) && ((if wt = true then isName t else decide (t = noB)) && ((if k = 3 then exR isName y 24 else exZ y) && ((if nx = true then exR isName x 24 else exZ x) && (((decide (k = 4) || decide (k = 5)) || decide (body.length = 0)) && ((decide (k = 4) || decide (els.length = 0)) && (stsR isName body (d + 1) && stsR isName els (d + 1)))))))) = R) {u0 u3 u9 u10 u11 u12 u13 u14 u15 u16 u17 u18 u19 u20 u21 u22 u23 u24 u25 u26 u27 u28 u29 u30 u31 u32 u33 u34 u35 u36 u37 u38 u39 u40 u41 u42 u43 u44 u45 u46 u47 u48 u49 u50 u51 u52 u53 u54 u55 u56 u57 u58 u59 u60 u61 u62 u63 u64 u65 u66 u67 u68 u69 u70 u71 u72 u73 u74 u75 u76 u77 u78 u79 u80 u81 u82 u83 u84 u85 u86 u87 u88 u89 u90 u91 u92 u93 u94 u95 u96 u97 u98 u99 u100 u101 u102 u103 u104 u105 u106 u107 u108 u109 u110 u111 u112 u113 u114 u115 u116 u117 u118 u119 u120 u121 u122 u123 u124 u125 u126 u127 u128 u129 u130 u131 u132 u133 u134 u135 u136 u137 u138 u139 u140 u141 u142 u143 u144 u145 u146 u147 : Value} :
    Code.wp Tryz.prog (dropS 6 (Tryz.f96.body.getD .skip)) (bodyPost Tryz.prog Tryz.f96 (fun e w' => e = .returned (.bool R) ∧ Below w.heap.size w w')) ⟨#[u0, .int .i64 (d : Int), .pointer (some ⟨z, 0, none⟩), u3, .bool false, .int .i64 k, .bool nm, .bool wt, .bool nx, u9, u10, u11, u12, u13, u14, u15, u16, u17, u18, u19, u20, u21, u22, u23, u24, u25, u26, u27, u28, u29, u30, u31, u32, u33, u34, u35, u36, u37, u38, u39, u40, u41, u42, u43, u44, u45, u46, u47, u48, u49, u50, u51, u52, u53, u54, u55, u56, u57, u58, u59, u60, u61, u62, u63, u64, u65, u66, u67, u68, u69, u70, u71, u72, u73, u74, u75, u76, u77, u78, u79, u80, u81, u82, u83, u84, u85, u86, u87, u88, u89, u90, u91, u92, u93, u94, u95, u96, u97, u98, u99, u100, u101, u102, u103, u104, u105, u106, u107, u108, u109, u110, u111, u112, u113, u114, u115, u116, u117, u118, u119, u120, u121, u122, u123, u124, u125, u126, u127, u128, u129, u130, u131, u132, u133, u134, u135, u136, u137, u138, u139, u140, u141, u142, u143, u144, u145, u146, u147], []⟩ V := by
  obtain ⟨C, hC⟩ : ∃ C, ((if k = 3 then exR isName y 24 else exZ y) && ((if nx = true then exR isName x 24 else exZ x) && (((decide (k = 4) || decide (k = 5)) || decide (body.length = 0)) && ((decide (k = 4) || decide (els.length = 0)) && (stsR isName body (d + 1) && stsR isName els (d + 1)))))) = C := ⟨_, rfl⟩
  rw [hC] at hR
  have HA := Lib.hid (And.intro ih (And.intro hnb hC))
  unfold St.nb at hnb
  have hc1 := fun V => rname_any s V hnb.1
  have hc2 := fun V => rname_any t V hnb.2.1
  have hnoB : isName noB = false := by decide +kernel
  obtain ⟨p1, hp1⟩ : ∃ p, isName s = p := ⟨_, rfl⟩
  obtain ⟨p2, hp2⟩ : ∃ p, isName t = p := ⟨_, rfl⟩
  have HS : Hid (p1 = true → ¬ s = noB) := Lib.hid (fun h e => by rw [e, hnoB] at hp1; rw [← hp1] at h; cases h)
  have HS2 : Hid (p2 = true → ¬ t = noB) := Lib.hid (fun h e => by rw [e, hnoB] at hp2; rw [← hp2] at h; cases h)
  rw [hp1] at hc1 hR
  rw [hp2] at hc2 hR
  have HR := Lib.hid hR
  have HZ := Lib.hid hz
  have HB := Lib.hid hb
  clear hz hnb hb ih hC hp1 hp2 hnoB hR
  have q3 := HZ.out.parts.2.2.2.1
  simp only [Nat.zero_add] at q3
  conv in (dropS _ _) => whnf
  have HQ : Hid (∀ V', Below V.heap.size V V' → V'.cell? ⟨z, 3, none⟩ = some (.string s) ∧ V'.cell? ⟨z, 4, none⟩ = some (.string t)) := Lib.hid (fun V' hv => by
    have h := (HZ.out.below hv).parts
    simp only [Nat.zero_add] at h
    exact ⟨h.2.2.2.1, h.2.2.2.2.1⟩)
  have hnl : noB.toList = [] := noB_list
  have hnl2 : noB.toList.isEmpty = true := by rw [noB_list]; rfl
  refine wp_seq_k fun K hK => ?_
  have HK := Lib.hid hK
  clear hK
  go_wp2_with fail
  refine (hc1 _).mono ?_
  rintro e V1 ⟨rfl, hb1⟩
  obtain ⟨q31, q41⟩ := HQ.out V1 hb1
  have HB1 := Lib.hid (HB.out.trans (hb1.mono HB.out.size))
  have HZ1 := Lib.hid (HZ.out.below hb1)
  clear hc1 HB HZ hb1 HQ q3
  have HQ2 : Hid (∀ V', Below V1.heap.size V1 V' → V'.cell? ⟨z, 4, none⟩ = some (.string t)) := Lib.hid (fun V' hv => by
    have h := (HZ1.out.below hv).parts
    simp only [Nat.zero_add] at h
    exact h.2.2.2.2.1)
  cases nm
  · cases p1
    · rcases neOr s noB with hs | hs
      · have hs2 : ¬ s.toList = [] := fun e => hs (toListInj (e.trans noB_list.symm))
        have hs3 : s.toList.isEmpty = false := by rw [isE_eq]; exact decide_eq_false hs
        have hRf : R = false := by rw [← HR.out]; simp [hs]
        subst hRf
        have hbf := HB1.out
        go_wp2_with fail
        go_ret
        exact ⟨rfl, hbf⟩
      · subst hs
        go_wp2_with fail
        refine (hc2 _).mono ?_
        rintro e V2 ⟨rfl, hb2⟩
        have q42 := HQ2.out V2 hb2
        have HB2 := Lib.hid (HB1.out.trans (hb2.mono HB1.out.size))
        have HZ2 := Lib.hid (HZ1.out.below hb2)
        clear hc2 HB1 HZ1 hb2 HQ2 q41
        cases wt
        · cases p2
          · rcases neOr t noB with ht | ht
            · have ht2 : ¬ t.toList = [] := fun e => ht (toListInj (e.trans noB_list.symm))
              have ht3 : t.toList.isEmpty = false := by rw [isE_eq]; exact decide_eq_false ht
              have hRf : R = false := by rw [← HR.out]; simp [ht]
              subst hRf
              have hbf := HB2.out
              go_wp2_with fail
              go_ret
              exact ⟨rfl, hbf⟩
            · subst ht
              have hRD : C = R := by rw [← HR.out]; simp
              subst hRD
              clear HR
              go_wp2_with fail
              refine HK.out _ _ ?_
              clear HK K
              exact sg_b hd HA.out.1 HB2.out HZ2.out HA.out.2.1 HA.out.2.2
          · have ht := HS2.out rfl
            have hRf : R = false := by rw [← HR.out]; simp [ht]
            subst hRf
            have hbf := HB2.out
            go_wp2_with fail
            go_ret
            exact ⟨rfl, hbf⟩
        · cases p2
          · skip
            have hRf : R = false := by rw [← HR.out]; simp
            subst hRf
            have hbf := HB2.out
            go_wp2_with fail
            go_ret
            exact ⟨rfl, hbf⟩
          · skip
            have hRD : C = R := by rw [← HR.out]; simp
            subst hRD
            clear HR
            go_wp2_with fail
            refine HK.out _ _ ?_
            clear HK K
            exact sg_b hd HA.out.1 HB2.out HZ2.out HA.out.2.1 HA.out.2.2
    · have hs := HS.out rfl
      have hRf : R = false := by rw [← HR.out]; simp [hs]
      subst hRf
      have hbf := HB1.out
      go_wp2_with fail
      go_ret
      exact ⟨rfl, hbf⟩
  · cases p1
    · skip
      have hRf : R = false := by rw [← HR.out]; simp
      subst hRf
      have hbf := HB1.out
      go_wp2_with fail
      go_ret
      exact ⟨rfl, hbf⟩
    · go_wp2_with fail
      refine (hc2 _).mono ?_
      rintro e V2 ⟨rfl, hb2⟩
      have q42 := HQ2.out V2 hb2
      have HB2 := Lib.hid (HB1.out.trans (hb2.mono HB1.out.size))
      have HZ2 := Lib.hid (HZ1.out.below hb2)
      clear hc2 HB1 HZ1 hb2 HQ2 q41
      cases wt
      · cases p2
        · rcases neOr t noB with ht | ht
          · have ht2 : ¬ t.toList = [] := fun e => ht (toListInj (e.trans noB_list.symm))
            have ht3 : t.toList.isEmpty = false := by rw [isE_eq]; exact decide_eq_false ht
            have hRf : R = false := by rw [← HR.out]; simp [ht]
            subst hRf
            have hbf := HB2.out
            go_wp2_with fail
            go_ret
            exact ⟨rfl, hbf⟩
          · subst ht
            have hRD : C = R := by rw [← HR.out]; simp
            subst hRD
            clear HR
            go_wp2_with fail
            refine HK.out _ _ ?_
            clear HK K
            exact sg_b hd HA.out.1 HB2.out HZ2.out HA.out.2.1 HA.out.2.2
        · have ht := HS2.out rfl
          have hRf : R = false := by rw [← HR.out]; simp [ht]
          subst hRf
          have hbf := HB2.out
          go_wp2_with fail
          go_ret
          exact ⟨rfl, hbf⟩
      · cases p2
        · skip
          have hRf : R = false := by rw [← HR.out]; simp
          subst hRf
          have hbf := HB2.out
          go_wp2_with fail
          go_ret
          exact ⟨rfl, hbf⟩
        · skip
          have hRD : C = R := by rw [← HR.out]; simp
          subst hRD
          clear HR
          go_wp2_with fail
          refine HK.out _ _ ?_
          clear HK K
          exact sg_b hd HA.out.1 HB2.out HZ2.out HA.out.2.1 HA.out.2.2
set_option maxRecDepth 100000 in
set_option maxHeartbeats 4000000 in
theorem sg_any {d : Nat} (hd : d ≤ 24) (ih : LgOk (d + 1)) : SgOk d := by
  intro s0 cs w hnb hL
  obtain ⟨k, l, c, s, t, x, y, body, els, id, sl, ot, lo⟩ := s0
  obtain ⟨R, hR⟩ : ∃ R, stR isName (.mk k l c s t x y body els id sl ot lo) d = R := ⟨_, rfl⟩
  rw [hR]
  unfold stR at hR
  have hl25 := hL.cells.1
  have hb0 : Below w.heap.size w (w.alloc (.cells cs.toArray 64)) := (Below.refl _ w).alloc (Nat.le_refl _) _
  have hz0 : StAt (w.alloc (.cells cs.toArray 64)) w.heap.size 0 (.mk k l c s t x y body els id sl ot lo) := ⟨cs, (Blk.new w 64 cs).whole, hL.below hb0⟩
  have HB := Lib.hid hb0
  have HZ := Lib.hid hz0
  have HNB := Lib.hid hnb
  clear hb0 hz0 hL hl25 hnb
  go_enter Tryz.func96, Tryz.ntmps96
  refine wp_seq_k fun K hK => ?_
  have HK := Lib.hid hK
  clear hK
  go_wp2_with fail
  refine HK.out _ _ ?_
  clear HK K
  obtain ⟨z, hzz⟩ : ∃ z, w.heap.size = z := ⟨_, rfl⟩
  rw [hzz] at HZ
  have HB : Hid (Below w.heap.size w (w.alloc (.cells cs.toArray 64))) := HB
  generalize w.alloc (.cells cs.toArray 64) = V0 at *
  rw [hzz]
  have c0 := HZ.out.parts.1
  have HR := Lib.hid hR
  clear hR
  have hdd : ¬ (24 : Int) < (d : Int) := by omega
  rcases (show k < 1 ∨ 15 < k ∨ (1 ≤ k ∧ k ≤ 15) by omega) with h1 | h1 | ⟨h1, h2⟩
  · have hRf : R = false := by
      rw [← HR.out, decide_eq_false (show ¬ 1 ≤ k by omega)]
      rfl
    subst hRf
    clear HZ HR HNB
    go_wp2_with fail
    go_ret
    exact ⟨rfl, by rw [← hzz]; exact HB.out⟩
  · have hRf : R = false := by
      rw [← HR.out, decide_eq_false (show ¬ k ≤ 15 by omega), Bool.and_false]
      rfl
    subst hRf
    have h3 : ¬ k < 1 := by omega
    clear HZ HR HNB
    go_wp2_with fail
    go_ret
    exact ⟨rfl, by rw [← hzz]; exact HB.out⟩
  have h3 : ¬ k < 1 := by omega
  have h4 : ¬ 15 < k := by omega
  have hRe := HR.out
  rw [decide_eq_true h1, decide_eq_true h2, decide_eq_true hd, Bool.true_and, Bool.true_and, Bool.true_and] at hRe
  clear HR
  have HBz : Hid (Below w.heap.size w V0) := by subst hzz; exact HB
  have HF := Lib.hid (And.intro ih (And.intro HBz.out (And.intro HZ.out (And.intro HNB.out hRe))))
  clear hRe HZ HB HNB ih HBz
  refine wp_seq_k fun K hK => ?_
  have HK := Lib.hid hK
  clear hK
  go_wp2_with fail
  refine HK.out _ _ ?_
  clear HK K
  refine wp_seq_k fun K hK => ?_
  have HK := Lib.hid hK
  clear hK
  go_wp2_with fail
  refine HK.out _ _ ?_
  clear HK K
  have hkc : k = 1 ∨ k = 2 ∨ k = 3 ∨ k = 4 ∨ k = 5 ∨ k = 6 ∨ k = 7 ∨ k = 8 ∨ k = 9 ∨ k = 10 ∨ k = 11 ∨ k = 12 ∨ k = 13 ∨ k = 14 ∨ k = 15 := by omega
  clear h1 h2 h3 h4 c0
  rcases hkc with rfl | rfl | rfl | rfl | rfl | rfl | rfl | rfl | rfl | rfl | rfl | rfl | rfl | rfl | rfl
  · skip
    refine wp_seq_k fun K hK => ?_
    have HK := Lib.hid hK
    clear hK
    go_wp2_with fail
    refine HK.out _ _ ?_
    clear HK K
    refine wp_seq_k fun K hK => ?_
    have HK := Lib.hid hK
    clear hK
    go_wp2_with fail
    refine HK.out _ _ ?_
    clear HK K
    refine wp_seq_k fun K hK => ?_
    have HK := Lib.hid hK
    clear hK
    go_wp2_with fail
    refine HK.out _ _ ?_
    clear HK K
    subst hzz
    refine sg_a hd HF.out.1 HF.out.2.1 HF.out.2.2.1 HF.out.2.2.2.1 ?_
    exact HF.out.2.2.2.2
  · skip
    refine wp_seq_k fun K hK => ?_
    have HK := Lib.hid hK
    clear hK
    go_wp2_with fail
    refine HK.out _ _ ?_
    clear HK K
    refine wp_seq_k fun K hK => ?_
    have HK := Lib.hid hK
    clear hK
    go_wp2_with fail
    refine HK.out _ _ ?_
    clear HK K
    refine wp_seq_k fun K hK => ?_
    have HK := Lib.hid hK
    clear hK
    go_wp2_with fail
    refine HK.out _ _ ?_
    clear HK K
    subst hzz
    refine sg_a hd HF.out.1 HF.out.2.1 HF.out.2.2.1 HF.out.2.2.2.1 ?_
    exact HF.out.2.2.2.2
  · skip
    refine wp_seq_k fun K hK => ?_
    have HK := Lib.hid hK
    clear hK
    go_wp2_with fail
    refine HK.out _ _ ?_
    clear HK K
    refine wp_seq_k fun K hK => ?_
    have HK := Lib.hid hK
    clear hK
    go_wp2_with fail
    refine HK.out _ _ ?_
    clear HK K
    refine wp_seq_k fun K hK => ?_
    have HK := Lib.hid hK
    clear hK
    go_wp2_with fail
    refine HK.out _ _ ?_
    clear HK K
    subst hzz
    refine sg_a hd HF.out.1 HF.out.2.1 HF.out.2.2.1 HF.out.2.2.2.1 ?_
    exact HF.out.2.2.2.2
  · skip
    refine wp_seq_k fun K hK => ?_
    have HK := Lib.hid hK
    clear hK
    go_wp2_with fail
    refine HK.out _ _ ?_
    clear HK K
    refine wp_seq_k fun K hK => ?_
    have HK := Lib.hid hK
    clear hK
    go_wp2_with fail
    refine HK.out _ _ ?_
    clear HK K
    refine wp_seq_k fun K hK => ?_
    have HK := Lib.hid hK
    clear hK
    go_wp2_with fail
    refine HK.out _ _ ?_
    clear HK K
    subst hzz
    refine sg_a hd HF.out.1 HF.out.2.1 HF.out.2.2.1 HF.out.2.2.2.1 ?_
    exact HF.out.2.2.2.2
  · skip
    refine wp_seq_k fun K hK => ?_
    have HK := Lib.hid hK
    clear hK
    go_wp2_with fail
    refine HK.out _ _ ?_
    clear HK K
    refine wp_seq_k fun K hK => ?_
    have HK := Lib.hid hK
    clear hK
    go_wp2_with fail
    refine HK.out _ _ ?_
    clear HK K
    refine wp_seq_k fun K hK => ?_
    have HK := Lib.hid hK
    clear hK
    go_wp2_with fail
    refine HK.out _ _ ?_
    clear HK K
    subst hzz
    refine sg_a hd HF.out.1 HF.out.2.1 HF.out.2.2.1 HF.out.2.2.2.1 ?_
    exact HF.out.2.2.2.2
  · skip
    refine wp_seq_k fun K hK => ?_
    have HK := Lib.hid hK
    clear hK
    go_wp2_with fail
    refine HK.out _ _ ?_
    clear HK K
    refine wp_seq_k fun K hK => ?_
    have HK := Lib.hid hK
    clear hK
    go_wp2_with fail
    refine HK.out _ _ ?_
    clear HK K
    refine wp_seq_k fun K hK => ?_
    have HK := Lib.hid hK
    clear hK
    go_wp2_with fail
    refine HK.out _ _ ?_
    clear HK K
    subst hzz
    refine sg_a hd HF.out.1 HF.out.2.1 HF.out.2.2.1 HF.out.2.2.2.1 ?_
    exact HF.out.2.2.2.2
  · skip
    refine wp_seq_k fun K hK => ?_
    have HK := Lib.hid hK
    clear hK
    go_wp2_with fail
    refine HK.out _ _ ?_
    clear HK K
    refine wp_seq_k fun K hK => ?_
    have HK := Lib.hid hK
    clear hK
    go_wp2_with fail
    refine HK.out _ _ ?_
    clear HK K
    refine wp_seq_k fun K hK => ?_
    have HK := Lib.hid hK
    clear hK
    go_wp2_with fail
    refine HK.out _ _ ?_
    clear HK K
    subst hzz
    refine sg_a hd HF.out.1 HF.out.2.1 HF.out.2.2.1 HF.out.2.2.2.1 ?_
    exact HF.out.2.2.2.2
  · skip
    refine wp_seq_k fun K hK => ?_
    have HK := Lib.hid hK
    clear hK
    go_wp2_with fail
    refine HK.out _ _ ?_
    clear HK K
    refine wp_seq_k fun K hK => ?_
    have HK := Lib.hid hK
    clear hK
    go_wp2_with fail
    refine HK.out _ _ ?_
    clear HK K
    refine wp_seq_k fun K hK => ?_
    have HK := Lib.hid hK
    clear hK
    go_wp2_with fail
    refine HK.out _ _ ?_
    clear HK K
    subst hzz
    refine sg_a hd HF.out.1 HF.out.2.1 HF.out.2.2.1 HF.out.2.2.2.1 ?_
    exact HF.out.2.2.2.2
  · skip
    refine wp_seq_k fun K hK => ?_
    have HK := Lib.hid hK
    clear hK
    go_wp2_with fail
    refine HK.out _ _ ?_
    clear HK K
    refine wp_seq_k fun K hK => ?_
    have HK := Lib.hid hK
    clear hK
    go_wp2_with fail
    refine HK.out _ _ ?_
    clear HK K
    refine wp_seq_k fun K hK => ?_
    have HK := Lib.hid hK
    clear hK
    go_wp2_with fail
    refine HK.out _ _ ?_
    clear HK K
    subst hzz
    refine sg_a hd HF.out.1 HF.out.2.1 HF.out.2.2.1 HF.out.2.2.2.1 ?_
    exact HF.out.2.2.2.2
  · skip
    refine wp_seq_k fun K hK => ?_
    have HK := Lib.hid hK
    clear hK
    go_wp2_with fail
    refine HK.out _ _ ?_
    clear HK K
    refine wp_seq_k fun K hK => ?_
    have HK := Lib.hid hK
    clear hK
    go_wp2_with fail
    refine HK.out _ _ ?_
    clear HK K
    refine wp_seq_k fun K hK => ?_
    have HK := Lib.hid hK
    clear hK
    go_wp2_with fail
    refine HK.out _ _ ?_
    clear HK K
    subst hzz
    refine sg_a hd HF.out.1 HF.out.2.1 HF.out.2.2.1 HF.out.2.2.2.1 ?_
    exact HF.out.2.2.2.2
  · skip
    refine wp_seq_k fun K hK => ?_
    have HK := Lib.hid hK
    clear hK
    go_wp2_with fail
    refine HK.out _ _ ?_
    clear HK K
    refine wp_seq_k fun K hK => ?_
    have HK := Lib.hid hK
    clear hK
    go_wp2_with fail
    refine HK.out _ _ ?_
    clear HK K
    refine wp_seq_k fun K hK => ?_
    have HK := Lib.hid hK
    clear hK
    go_wp2_with fail
    refine HK.out _ _ ?_
    clear HK K
    subst hzz
    refine sg_a hd HF.out.1 HF.out.2.1 HF.out.2.2.1 HF.out.2.2.2.1 ?_
    exact HF.out.2.2.2.2
  · skip
    refine wp_seq_k fun K hK => ?_
    have HK := Lib.hid hK
    clear hK
    go_wp2_with fail
    refine HK.out _ _ ?_
    clear HK K
    refine wp_seq_k fun K hK => ?_
    have HK := Lib.hid hK
    clear hK
    go_wp2_with fail
    refine HK.out _ _ ?_
    clear HK K
    refine wp_seq_k fun K hK => ?_
    have HK := Lib.hid hK
    clear hK
    go_wp2_with fail
    refine HK.out _ _ ?_
    clear HK K
    subst hzz
    refine sg_a hd HF.out.1 HF.out.2.1 HF.out.2.2.1 HF.out.2.2.2.1 ?_
    exact HF.out.2.2.2.2
  · skip
    refine wp_seq_k fun K hK => ?_
    have HK := Lib.hid hK
    clear hK
    go_wp2_with fail
    refine HK.out _ _ ?_
    clear HK K
    refine wp_seq_k fun K hK => ?_
    have HK := Lib.hid hK
    clear hK
    go_wp2_with fail
    refine HK.out _ _ ?_
    clear HK K
    refine wp_seq_k fun K hK => ?_
    have HK := Lib.hid hK
    clear hK
    go_wp2_with fail
    refine HK.out _ _ ?_
    clear HK K
    subst hzz
    refine sg_a hd HF.out.1 HF.out.2.1 HF.out.2.2.1 HF.out.2.2.2.1 ?_
    exact HF.out.2.2.2.2
  · skip
    refine wp_seq_k fun K hK => ?_
    have HK := Lib.hid hK
    clear hK
    go_wp2_with fail
    refine HK.out _ _ ?_
    clear HK K
    refine wp_seq_k fun K hK => ?_
    have HK := Lib.hid hK
    clear hK
    go_wp2_with fail
    refine HK.out _ _ ?_
    clear HK K
    refine wp_seq_k fun K hK => ?_
    have HK := Lib.hid hK
    clear hK
    go_wp2_with fail
    refine HK.out _ _ ?_
    clear HK K
    subst hzz
    refine sg_a hd HF.out.1 HF.out.2.1 HF.out.2.2.1 HF.out.2.2.2.1 ?_
    exact HF.out.2.2.2.2
  · skip
    refine wp_seq_k fun K hK => ?_
    have HK := Lib.hid hK
    clear hK
    go_wp2_with fail
    refine HK.out _ _ ?_
    clear HK K
    refine wp_seq_k fun K hK => ?_
    have HK := Lib.hid hK
    clear hK
    go_wp2_with fail
    refine HK.out _ _ ?_
    clear HK K
    refine wp_seq_k fun K hK => ?_
    have HK := Lib.hid hK
    clear hK
    go_wp2_with fail
    refine HK.out _ _ ?_
    clear HK K
    subst hzz
    refine sg_a hd HF.out.1 HF.out.2.1 HF.out.2.2.1 HF.out.2.2.2.1 ?_
    exact HF.out.2.2.2.2
set_option maxRecDepth 100000 in
set_option maxHeartbeats 4000000 in
theorem sg_deep : SgOk 25 := by
  intro s0 cs w hnb hL
  obtain ⟨k, l, c, s, t, x, y, body, els, id, sl, ot, lo⟩ := s0
  have hRf : stR isName (.mk k l c s t x y body els id sl ot lo) 25 = false := by
    unfold stR
    rw [decide_eq_false (show ¬ 25 ≤ 24 by omega), Bool.false_and, Bool.and_false]
  rw [hRf]
  have hb0 : Below w.heap.size w (w.alloc (.cells cs.toArray 64)) := (Below.refl _ w).alloc (Nat.le_refl _) _
  have hz0 : StAt (w.alloc (.cells cs.toArray 64)) w.heap.size 0 (.mk k l c s t x y body els id sl ot lo) := ⟨cs, (Blk.new w 64 cs).whole, hL.below hb0⟩
  have HB := Lib.hid hb0
  have HZ := Lib.hid hz0
  clear hb0 hz0 hL hnb hRf
  go_enter Tryz.func96, Tryz.ntmps96
  refine wp_seq_k fun K hK => ?_
  have HK := Lib.hid hK
  clear hK
  go_wp2_with fail
  refine HK.out _ _ ?_
  clear HK K
  obtain ⟨z, hzz⟩ : ∃ z, w.heap.size = z := ⟨_, rfl⟩
  rw [hzz] at HZ
  have HB : Hid (Below w.heap.size w (w.alloc (.cells cs.toArray 64))) := HB
  generalize w.alloc (.cells cs.toArray 64) = V0 at *
  rw [hzz]
  have c0 := HZ.out.parts.1
  clear HZ
  rcases (show k < 1 ∨ 15 < k ∨ (1 ≤ k ∧ k ≤ 15) by omega) with h1 | h1 | ⟨h1, h2⟩
  · go_wp2_with fail
    go_ret
    exact ⟨rfl, by rw [← hzz]; exact HB.out⟩
  · have h3 : ¬ k < 1 := by omega
    go_wp2_with fail
    go_ret
    exact ⟨rfl, by rw [← hzz]; exact HB.out⟩
  · have h3 : ¬ k < 1 := by omega
    have h4 : ¬ 15 < k := by omega
    go_wp2_with fail
    go_ret
    exact ⟨rfl, by rw [← hzz]; exact HB.out⟩
theorem snb_at {l : List St} (h : St.nbs l) {i : Nat} (hi : i < l.length) : (l.getD i default).nb := by
  rw [List.getD_eq_getElem?_getD, List.getElem?_eq_getElem hi]
  exact St.nbs_at h (List.getElem?_eq_getElem hi)
theorem stsR_drop3 {nm : ByteArray → Bool} {l : List St} {i d : Nat} (h : i < l.length) : stsR nm (l.drop i) d = (stR nm (l.getD i default) d && stsR nm (l.drop (i + 1)) d) := by
  rw [List.drop_eq_getElem_cons h, stsR, List.getD_eq_getElem?_getD, List.getElem?_eq_getElem h]
  rfl
theorem SlAt.row {w : World} {a : Option Addr} {cap : Nat} {l : List St} (h : SlAt w a cap l) {j : Nat} (hj : j < l.length) : ∃ (b off : Nat) (cs : List Value), a = some ⟨b, off, none⟩ ∧ w.rangeAt b (off + j * 25) cs ∧ StL (fun _ => True) w cs (l.getD j default) := by
  obtain ⟨b, off, cs, h1, -, h2, h3⟩ := h.2.at j hj
  exact ⟨b, off, cs, h1, fun i v hv => by have := h2 i v hv; rwa [Nat.zero_add] at this, h3⟩
set_option maxRecDepth 100000 in
set_option maxHeartbeats 4000000 in
theorem lg_any {d : Nat} (ih : SgOk d) : LgOk d := by
  intro l a cap w hnb hl
  obtain ⟨d64, hu64, hr64⟩ := under64
  obtain ⟨N, hN⟩ : ∃ N, l.length = N := ⟨_, rfl⟩
  obtain ⟨R, hR⟩ : ∃ R, stsR isName (l.drop 0) d = R := ⟨_, rfl⟩
  rw [show stsR isName l d = R from hR]
  have hroom := hl.1
  rw [hN] at hroom ⊢
  have HN := Lib.hid hN
  have HR := Lib.hid hR
  have HE := Lib.hid (And.intro (Below.refl w.heap.size w) hl)
  have HNB := Lib.hid hnb
  have HIH := Lib.hid ih
  clear hN hR hl hnb ih
  go_enter Tryz.func47, Tryz.ntmps47
  go_wp2_with fail
  go_loopg [5] N (fun x iv wr => ∃ i : Nat, i ≤ N ∧ x = N - i ∧ iv = .int .i64 (i : Int) ∧ Hid (Below w.heap.size w wr ∧ SlAt wr a cap l) ∧ Hid (stsR isName (l.drop i) d = R))
  case atStart => exact ⟨0, Nat.zero_le _, rfl, rfl, HE, HR⟩
  case round =>
    clear HE HR
    obtain ⟨i, hi, rfl, rfl, HE, HR⟩ := hrel
    obtain ⟨hb1, h1⟩ := HE.out
    by_cases hiN : i < N
    · have hlt : (i : Int) < (N : Int) := by omega
      have hp0 : (0 : Int) ≤ (i : Int) := by omega
      have hrm : (i : Int) + 1 ≤ 9223372036854775807 := by
        have h1 := hroom.1
        have h2 := hroom.2
        omega
      have hil : i < l.length := by rw [HN.out]; exact hiN
      obtain ⟨b2, off2, cs, rfl, hr, hx⟩ := h1.row hil
      have hxn := (snb_at HNB.out hil)
      have hcl := HIH.out (l.getD i default) cs wr hxn hx
      have hl := hx.cells.1
      have hR := HR.out
      rw [stsR_drop3 hil] at hR
      obtain ⟨m, hm⟩ : ∃ m, stR isName (l.getD i default) d = m := ⟨_, rfl⟩
      rw [hm] at hcl hR
      have HR2 := Lib.hid hR
      have HRg := Lib.hid hr
      have HL := Lib.hid hl
      clear hx hxn hr hl hm hR HR
      go_wp2_with ((with_reducible show wpList _ _ _ (Oper.mk _ (.load 64 _) _ _ _ _ :: _) _ _); refine wpList_load_mid rfl 64 (.tmp 14) rfl b2 (off2 + i * 25) rfl cs d64 HRg.out hu64 hr64 (by rw [HL.out]; exact info64) ?_)
      refine hcl.mono ?_
      rintro e w2 ⟨rfl, hb2⟩
      have hb3 := hb1.trans (hb2.mono hb1.size)
      cases m
      · have hRf : R = false := HR2.out.symm
        subst hRf
        clear HE hcl h1 hb1 hb2
        go_wp2_with fail
        go_ret
        exact ⟨rfl, hb3⟩
      · have HR3 : Hid (stsR isName (l.drop (i + 1)) d = R) := Lib.hid HR2.out
        have HE3 := Lib.hid (And.intro hb3 (h1.below hb2))
        clear HE hcl h1 hb1 hb2 hb3 HR2
        go_wp2_with fail
        go_roundg (N - (i + 1))
        case measure => omega
        case rel => exact ⟨i + 1, by omega, rfl, rfl, HE3, HR3⟩
    · obtain rfl : i = N := by omega
      have hlt : ¬ (i : Int) < (i : Int) := by omega
      have hRt : R = true := by
        rw [← HR.out, List.drop_eq_nil_of_le (by rw [HN.out]; exact Nat.le_refl _)]
        unfold stsR
        rfl
      subst hRt
      clear h1 HE
      go_wp2_with fail
      go_ret
      exact ⟨rfl, hb1⟩
theorem lg_all : ∀ (m d : Nat), d + m = 25 → LgOk d
  | 0, d, h => by
    obtain rfl : d = 25 := by omega
    exact lg_any sg_deep
  | m + 1, d, h => lg_any (sg_any (by omega) (lg_all m (d + 1) (by omega)))
theorem desR_drop3 {nm : ByteArray → Bool} {l : List De} {i : Nat} (h : i < l.length) : desR nm (l.drop i) = (deR nm (l.getD i default) && desR nm (l.drop (i + 1))) := by
  rw [List.drop_eq_getElem_cons h]
  show (deR nm l[i] && _) = _
  rw [List.getD_eq_getElem?_getD, List.getElem?_eq_getElem h]
  rfl
set_option maxRecDepth 100000 in
set_option maxHeartbeats 16000000 in
theorem rcheck_any (l : List De) (a : Option Addr) (cap : Nat) (w : World) (hroom : Roomy l.length cap) (h : DesL (fun _ => True) w a l) (hnb : ∀ d ∈ l, d.nb) : Calls Tryz.prog 22 #[.slice a l.length cap] w fun e w' => e = .returned (.int .i64 (if desR isName l = true then 0 else 2)) ∧ Below w.heap.size w w' := by
  obtain ⟨d55, hu55, hr55⟩ := under55
  obtain ⟨N, hN⟩ : ∃ N, l.length = N := ⟨_, rfl⟩
  obtain ⟨R, hR⟩ : ∃ R, desR isName (l.drop 0) = R := ⟨_, rfl⟩
  rw [show desR isName l = R from hR]
  rw [hN] at hroom ⊢
  have HN := Lib.hid hN
  have HR := Lib.hid hR
  have HE := Lib.hid (And.intro (Below.refl w.heap.size w) h)
  have HNB := Lib.hid hnb
  have HL1 := Lib.hid (lg_all 24 1 rfl)
  clear hN hR h hnb
  go_enter Tryz.func22, Tryz.ntmps22
  go_wp2_with fail
  go_loopg [3] N (fun x iv wr => ∃ i : Nat, i ≤ N ∧ x = N - i ∧ iv = .int .i64 (i : Int) ∧ Hid (Below w.heap.size w wr ∧ DesL (fun _ => True) wr a l) ∧ Hid (desR isName (l.drop i) = R))
  case atStart => exact ⟨0, Nat.zero_le _, rfl, rfl, HE, HR⟩
  case round =>
    clear HE HR
    obtain ⟨i, hi, rfl, rfl, HE, HR⟩ := hrel
    by_cases hiN : i < N
    · have hlt : (i : Int) < (N : Int) := by omega
      have hp0 : (0 : Int) ≤ (i : Int) := by omega
      have hrm : (i : Int) + 1 ≤ 9223372036854775807 := by
        have h1 := hroom.1
        have h2 := hroom.2
        omega
      have HWR : Hid (wrap64 ((i : Int) + 1) = ((i + 1 : Nat) : Int)) := Lib.hid (by rw [IntWalk.wrap64_in _ (by omega)]; omega)
      clear hrm
      have hil : i < l.length := by rw [HN.out]; exact hiN
      obtain ⟨b2, off2, cs, rfl, -, hcs, hdl⟩ := HE.out.2 i hil
      have hl6 := hdl.cells.1
      have h1c := hdl.cells.2
      have hdn := HNB.out (l.getD i default) (by rw [List.getD_eq_getElem?_getD, List.getElem?_eq_getElem hil]; exact List.getElem_mem hil)
      have hR := HR.out
      rw [desR_drop3 hil] at hR
      obtain ⟨d, hd⟩ : ∃ d, l.getD i default = d := ⟨_, rfl⟩
      rw [hd] at hdl hdn hR
      obtain ⟨k, ln, c, s, n, body⟩ := d
      obtain ⟨ab, capb, rfl, hroomb, hbody⟩ := hdl
      obtain ⟨m, hm⟩ : ∃ m, deR isName ⟨k, ln, c, s, n, body⟩ = m := ⟨_, rfl⟩
      rw [hm] at hR
      unfold deR at hm
      dsimp only at hl6 h1c hroomb hbody hcs hm ⊢
      unfold De.nb at hdn
      dsimp only at hdn
      have HRg := Lib.hid (show wr.rangeAt b2 (off2 + i * 6) _ from fun j v hv => hcs j v hv)
      obtain ⟨N1, hN1⟩ : ∃ N1, body.length = N1 := ⟨_, rfl⟩
      have HBODY : Hid (SlAt wr ab capb body ∧ body.length = N1) := Lib.hid ⟨⟨hroomb, hbody⟩, hN1⟩
      rw [hN1] at hm hl6 h1c HRg
      have hb1 : Below wr.heap.size wr (wr.alloc (.cells #[.int .i64 k, .int .i64 ln, .int .i64 c, .string s, .int .i64 n, .slice ab N1 capb] 55)) := (Below.refl _ wr).alloc (Nat.le_refl _) _
      have hz1 := Blk.new wr 55 [.int .i64 k, .int .i64 ln, .int .i64 c, .string s, .int .i64 n, .slice ab N1 capb]
      have hcn := fun V => rname_any s V hdn.1
      have hbd := fun V (hV : Below wr.heap.size wr V) => HL1.out body ab capb V hdn.2 (HBODY.out.1.below hV)
      rw [hN1] at hbd
      obtain ⟨p, hp⟩ : ∃ p, isName s = p := ⟨_, rfl⟩
      obtain ⟨mb, hmb⟩ : ∃ mb, stsR isName body 1 = mb := ⟨_, rfl⟩
      rw [hp] at hcn hm
      rw [hmb] at hbd hm
      have HMB : Hid (N1 = 0 → mb = true) := Lib.hid (fun h0 => by
        have := List.eq_nil_of_length_eq_zero (hN1.trans h0)
        rw [this] at hmb
        rw [← hmb]
        unfold stsR
        rfl)
      have HM := Lib.hid (And.intro hm hR)
      have HBD := Lib.hid hbd
      have HV := Lib.hid (And.intro (HE.out.1.trans (hb1.mono HE.out.1.size)) (And.intro hb1 (And.intro hz1 (HE.out.2.below hb1))))
      have c0 := hz1.cell 0
      simp only [List.getElem?_cons_zero] at c0
      have HL6 := Lib.hid hl6
      have H1C := Lib.hid h1c
      clear hroomb hbody hb1 hz1 hcs hd HE HR hm hR hN1 hp hmb hdn hbd HBODY hl6 h1c hil
      have h7 : wr.heap.size = wr.heap.size := rfl
      clear h7
      rcases (show k < 1 ∨ 6 < k ∨ (1 ≤ k ∧ k ≤ 6) by omega) with h1 | h1 | ⟨h1, h2⟩
      · have hmf : m = false := by
          rw [← HM.out.1]
          have e1 : ¬ k = 1 := by omega
          have e2 : ¬ (k = 2 ∨ k = 5) := by omega
          have e3 : ¬ (k = 3 ∨ k = 4) := by omega
          have e4 : ¬ k = 6 := by omega
          rw [if_neg e1, if_neg e2, if_neg e3, if_neg e4]
          simp
        have hRf : R = false := by rw [← HM.out.2, hmf]; rfl
        subst hRf
        have HVB := Lib.hid HV.out.1
        clear HM HMB HBD HV hcn hmf
        go_wp2_with (first | ((with_reducible show wpList _ _ _ (Oper.mk _ (.load 55 (.tmp 14)) _ _ _ _ :: _) _ _); refine wpList_load_mid rfl 55 (.tmp 14) rfl b2 (off2 + i * 6) rfl _ d55 HRg.out hu55 hr55 (by rw [HL6.out]; exact info55) ?_) | ((with_reducible show wpList _ _ _ (Oper.mk none (.store 55 _ _) _ _ _ _ :: _) _ _); refine wpList_store_fresh info55 rfl (.tmp 4) (.tmp 15) rfl wr [.int .i64 0, .int .i64 0, .int .i64 0, .string ⟨#[]⟩, .int .i64 0, .slice none 0 0] [.int .i64 k, .int .i64 ln, .int .i64 c, .string s, .int .i64 n, .slice ab N1 capb] rfl rfl HL6.out H1C.out _ rfl rfl rfl ?_))
        go_ret
        exact ⟨rfl, HVB.out⟩
      · have hmf : m = false := by
          rw [← HM.out.1]
          have e1 : ¬ k = 1 := by omega
          have e2 : ¬ (k = 2 ∨ k = 5) := by omega
          have e3 : ¬ (k = 3 ∨ k = 4) := by omega
          have e4 : ¬ k = 6 := by omega
          rw [if_neg e1, if_neg e2, if_neg e3, if_neg e4]
          simp
        have hRf : R = false := by rw [← HM.out.2, hmf]; rfl
        subst hRf
        have h3 : ¬ k < 1 := by omega
        have HVB := Lib.hid HV.out.1
        clear HM HMB HBD HV hcn
        go_wp2_with (first | ((with_reducible show wpList _ _ _ (Oper.mk _ (.load 55 (.tmp 14)) _ _ _ _ :: _) _ _); refine wpList_load_mid rfl 55 (.tmp 14) rfl b2 (off2 + i * 6) rfl _ d55 HRg.out hu55 hr55 (by rw [HL6.out]; exact info55) ?_) | ((with_reducible show wpList _ _ _ (Oper.mk none (.store 55 _ _) _ _ _ _ :: _) _ _); refine wpList_store_fresh info55 rfl (.tmp 4) (.tmp 15) rfl wr [.int .i64 0, .int .i64 0, .int .i64 0, .string ⟨#[]⟩, .int .i64 0, .slice none 0 0] [.int .i64 k, .int .i64 ln, .int .i64 c, .string s, .int .i64 n, .slice ab N1 capb] rfl rfl HL6.out H1C.out _ rfl rfl rfl ?_))
        go_ret
        exact ⟨rfl, HVB.out⟩
      have h3 : ¬ k < 1 := by omega
      have h4 : ¬ 6 < k := by omega
      go_wp2_with (first | ((with_reducible show wpList _ _ _ (Oper.mk _ (.load 55 (.tmp 14)) _ _ _ _ :: _) _ _); refine wpList_load_mid rfl 55 (.tmp 14) rfl b2 (off2 + i * 6) rfl _ d55 HRg.out hu55 hr55 (by rw [HL6.out]; exact info55) ?_) | ((with_reducible show wpList _ _ _ (Oper.mk none (.store 55 _ _) _ _ _ _ :: _) _ _); refine wpList_store_fresh info55 rfl (.tmp 4) (.tmp 15) rfl wr [.int .i64 0, .int .i64 0, .int .i64 0, .string ⟨#[]⟩, .int .i64 0, .slice none 0 0] [.int .i64 k, .int .i64 ln, .int .i64 c, .string s, .int .i64 n, .slice ab N1 capb] rfl rfl HL6.out H1C.out _ rfl rfl rfl ?_))
      obtain ⟨z, hz⟩ : ∃ z, wr.heap.size = z := ⟨_, rfl⟩
      have HV2 : Hid (Below w.heap.size w (wr.alloc (.cells ([.int .i64 k, .int .i64 ln, .int .i64 c, .string s, .int .i64 n, .slice ab N1 capb] : List Value).toArray 55)) ∧ Below wr.heap.size wr (wr.alloc (.cells ([.int .i64 k, .int .i64 ln, .int .i64 c, .string s, .int .i64 n, .slice ab N1 capb] : List Value).toArray 55)) ∧ Blk (wr.alloc (.cells ([.int .i64 k, .int .i64 ln, .int .i64 c, .string s, .int .i64 n, .slice ab N1 capb] : List Value).toArray 55)) z 55 [.int .i64 k, .int .i64 ln, .int .i64 c, .string s, .int .i64 n, .slice ab N1 capb] ∧ DesL (fun _ => True) (wr.alloc (.cells ([.int .i64 k, .int .i64 ln, .int .i64 c, .string s, .int .i64 n, .slice ab N1 capb] : List Value).toArray 55)) (some ⟨b2, off2, none⟩) l) := by rw [← hz]; exact HV
      refine (hcn _).mono ?_
      rw [hz] at c0 ⊢
      clear HV HRg
      generalize wr.alloc (.cells ([.int .i64 k, .int .i64 ln, .int .i64 c, .string s, .int .i64 n, .slice ab N1 capb] : List Value).toArray 55) = V0 at *
      rintro e V1 ⟨rfl, hbn⟩
      obtain ⟨B1, B2, hz2, hd2⟩ := HV2.out
      have hz3 := hz2.below hbn
      have HV3 := Lib.hid (And.intro (B1.trans (hbn.mono B1.size)) (And.intro (B2.trans (hbn.mono B2.size)) (hd2.below hbn)))
      have c4 := hz3.cell 4
      have c5 := hz3.cell 5
      simp only [List.getElem?_cons_succ, List.getElem?_cons_zero] at c4 c5
      clear B1 B2 hz2 hd2 HV2 hbn hz3 c0 hcn
      cases p
      · skip
        have hmf : m = false := by
          rw [← HM.out.1]
          simp
        have hRf : R = false := by rw [← HM.out.2, hmf]; rfl
        subst hRf
        have hbf := HV3.out.1
        clear HM HMB HBD HV3 hmf
        go_wp2_with fail
        go_ret
        exact ⟨rfl, hbf⟩
      rcases neOr k 6 with k6 | k6
      · have k62 : (k != 6) = true := by simpa using k6
        rcases neOr N1 0 with n1 | n1
        · have n12 : (0 : Int) < (N1 : Int) := by omega
          have hmf : m = false := by
            rw [← HM.out.1]
            simp [k6, n1]
          have hRf : R = false := by rw [← HM.out.2, hmf]; rfl
          subst hRf
          have hbf := HV3.out.1
          clear HM HMB HBD HV3 hmf
          go_wp2_with fail
          go_ret
          exact ⟨rfl, hbf⟩
        subst n1
        rcases (show 2147483647 < n ∨ n < -2147483647 ∨ (-2147483647 ≤ n ∧ n ≤ 2147483647) by omega) with g1 | g1 | ⟨g1, g2⟩
        · have g2 : ¬ n ≤ 2147483647 := by omega
          have g3 : ¬ n = 0 := by omega
          have hmf : m = false := by
            rw [← HM.out.1]
            simp [g2, g3]
          have hRf : R = false := by rw [← HM.out.2, hmf]; rfl
          subst hRf
          have hbf := HV3.out.1
          clear HM HMB HBD HV3 hmf
          go_wp2_with fail
          go_ret
          exact ⟨rfl, hbf⟩
        · have g2 : ¬ -2147483647 ≤ n := by omega
          have g3 : ¬ n = 0 := by omega
          have g4 : ¬ 0 ≤ n := by omega
          have g5 : ¬ 2147483647 < n := by omega
          have hmf : m = false := by
            rw [← HM.out.1]
            simp [g2, g3, g4]
          have hRf : R = false := by rw [← HM.out.2, hmf]; rfl
          subst hRf
          have hbf := HV3.out.1
          clear HM HMB HBD HV3 hmf
          go_wp2_with fail
          go_ret
          exact ⟨rfl, hbf⟩
        have g3 : ¬ n < -2147483647 := by omega
        have g4 : ¬ 2147483647 < n := by omega
        rcases neOr k 1 with k1 | k1
        · have k12 : (k != 1) = true := by simpa using k1
          rcases (show n < 0 ∨ 0 ≤ n by omega) with j1 | j1
          · have j2 : ¬ 0 ≤ n := by omega
            have j3 : ¬ n = 0 := by omega
            have hmf : m = false := by
              rw [← HM.out.1]
              simp [k1, j2, j3]
            have hRf : R = false := by rw [← HM.out.2, hmf]; rfl
            subst hRf
            have hbf := HV3.out.1
            clear HM HMB HBD HV3 hmf
            go_wp2_with fail
            go_ret
            exact ⟨rfl, hbf⟩
          have j2 : ¬ n < 0 := by omega
          rcases neOr k 2 with k2 | k2
          · have k22 : (k != 2) = true := by simpa using k2
            rcases neOr k 5 with k5 | k5
            · have k52 : (k != 5) = true := by simpa using k5
              rcases neOr n 0 with n0 | n0
              · have n02 : (n != 0) = true := by simpa using n0
                have hmf : m = false := by
                  rw [← HM.out.1]
                  simp [k1, k2, k5, n0, k6]
                have hRf : R = false := by rw [← HM.out.2, hmf]; rfl
                subst hRf
                have hbf := HV3.out.1
                clear HM HMB HBD HV3 hmf
                go_wp2_with fail
                go_ret
                exact ⟨rfl, hbf⟩
              subst n0
              have k34 : k = 3 ∨ k = 4 := by omega
              have hcl := HBD.out V1 HV3.out.2.1
              go_wp2_with fail
              refine hcl.mono ?_
              rintro e V2 ⟨rfl, hb2⟩
              have HE2 := Lib.hid (And.intro (HV3.out.1.trans (hb2.mono HV3.out.1.size)) (HV3.out.2.2.below hb2))
              obtain rfl : mb = true := HMB.out trivial
              have hmt : m = true := by rw [← HM.out.1]; simp [*]
              have HR3 : Hid (desR isName (l.drop (i + 1)) = R) := Lib.hid (by rw [← HM.out.2, hmt]; rfl)
              clear HM HMB HBD HV3 hcl hb2 c4 c5 hmt
              go_wp2_with fail
              go_roundg (N - (i + 1))
              case measure => omega
              case rel => exact ⟨i + 1, by omega, rfl, congrArg (Value.int .i64) (HWR.out), HE2, HR3⟩
            · subst k5
              have hcl := HBD.out V1 HV3.out.2.1
              go_wp2_with fail
              refine hcl.mono ?_
              rintro e V2 ⟨rfl, hb2⟩
              have HE2 := Lib.hid (And.intro (HV3.out.1.trans (hb2.mono HV3.out.1.size)) (HV3.out.2.2.below hb2))
              obtain rfl : mb = true := HMB.out trivial
              have hmt : m = true := by rw [← HM.out.1]; simp [*]
              have HR3 : Hid (desR isName (l.drop (i + 1)) = R) := Lib.hid (by rw [← HM.out.2, hmt]; rfl)
              clear HM HMB HBD HV3 hcl hb2 c4 c5 hmt
              go_wp2_with fail
              go_roundg (N - (i + 1))
              case measure => omega
              case rel => exact ⟨i + 1, by omega, rfl, congrArg (Value.int .i64) (HWR.out), HE2, HR3⟩
          · subst k2
            have hcl := HBD.out V1 HV3.out.2.1
            go_wp2_with fail
            refine hcl.mono ?_
            rintro e V2 ⟨rfl, hb2⟩
            have HE2 := Lib.hid (And.intro (HV3.out.1.trans (hb2.mono HV3.out.1.size)) (HV3.out.2.2.below hb2))
            obtain rfl : mb = true := HMB.out trivial
            have hmt : m = true := by rw [← HM.out.1]; simp [*]
            have HR3 : Hid (desR isName (l.drop (i + 1)) = R) := Lib.hid (by rw [← HM.out.2, hmt]; rfl)
            clear HM HMB HBD HV3 hcl hb2 c4 c5 hmt
            go_wp2_with fail
            go_roundg (N - (i + 1))
            case measure => omega
            case rel => exact ⟨i + 1, by omega, rfl, congrArg (Value.int .i64) (HWR.out), HE2, HR3⟩
        · subst k1
          have hcl := HBD.out V1 HV3.out.2.1
          go_wp2_with fail
          refine hcl.mono ?_
          rintro e V2 ⟨rfl, hb2⟩
          have HE2 := Lib.hid (And.intro (HV3.out.1.trans (hb2.mono HV3.out.1.size)) (HV3.out.2.2.below hb2))
          obtain rfl : mb = true := HMB.out trivial
          have hmt : m = true := by rw [← HM.out.1]; simp [*]
          have HR3 : Hid (desR isName (l.drop (i + 1)) = R) := Lib.hid (by rw [← HM.out.2, hmt]; rfl)
          clear HM HMB HBD HV3 hcl hb2 c4 c5 hmt
          go_wp2_with fail
          go_roundg (N - (i + 1))
          case measure => omega
          case rel => exact ⟨i + 1, by omega, rfl, congrArg (Value.int .i64) (HWR.out), HE2, HR3⟩
      · subst k6
        rcases (show 2147483647 < n ∨ n < -2147483647 ∨ (-2147483647 ≤ n ∧ n ≤ 2147483647) by omega) with g1 | g1 | ⟨g1, g2⟩
        · have g3 : ¬ n = 0 := by omega
          have hmf : m = false := by
            rw [← HM.out.1]
            simp [g3]
          have hRf : R = false := by rw [← HM.out.2, hmf]; rfl
          subst hRf
          have hbf := HV3.out.1
          clear HM HMB HBD HV3 hmf
          go_wp2_with fail
          go_ret
          exact ⟨rfl, hbf⟩
        · have g3 : ¬ n = 0 := by omega
          have g5 : ¬ 2147483647 < n := by omega
          have hmf : m = false := by
            rw [← HM.out.1]
            simp [g3]
          have hRf : R = false := by rw [← HM.out.2, hmf]; rfl
          subst hRf
          have hbf := HV3.out.1
          clear HM HMB HBD HV3 hmf
          go_wp2_with fail
          go_ret
          exact ⟨rfl, hbf⟩
        have g3 : ¬ n < -2147483647 := by omega
        have g4 : ¬ 2147483647 < n := by omega
        rcases (show n < 0 ∨ 0 ≤ n by omega) with j1 | j1
        · have j3 : ¬ n = 0 := by omega
          have hmf : m = false := by
            rw [← HM.out.1]
            simp [j3]
          have hRf : R = false := by rw [← HM.out.2, hmf]; rfl
          subst hRf
          have hbf := HV3.out.1
          clear HM HMB HBD HV3 hmf
          go_wp2_with fail
          go_ret
          exact ⟨rfl, hbf⟩
        have j2 : ¬ n < 0 := by omega
        rcases neOr n 0 with n0 | n0
        · have n02 : (n != 0) = true := by simpa using n0
          have hmf : m = false := by
            rw [← HM.out.1]
            simp [n0]
          have hRf : R = false := by rw [← HM.out.2, hmf]; rfl
          subst hRf
          have hbf := HV3.out.1
          clear HM HMB HBD HV3 hmf
          go_wp2_with fail
          go_ret
          exact ⟨rfl, hbf⟩
        subst n0
        have hcl := HBD.out V1 HV3.out.2.1
        go_wp2_with fail
        refine hcl.mono ?_
        rintro e V2 ⟨rfl, hb2⟩
        have HE2 := Lib.hid (And.intro (HV3.out.1.trans (hb2.mono HV3.out.1.size)) (HV3.out.2.2.below hb2))
        cases mb
        · have hmf : m = false := by
            rw [← HM.out.1]
            simp
          have hRf : R = false := by rw [← HM.out.2, hmf]; rfl
          subst hRf
          have hbf := HE2.out.1
          clear HM HMB HBD HV3 HE2 hcl hb2 c4 c5
          go_wp2_with fail
          go_ret
          exact ⟨rfl, hbf⟩
        have hmt : m = true := by rw [← HM.out.1]; simp
        have HR3 : Hid (desR isName (l.drop (i + 1)) = R) := Lib.hid (by rw [← HM.out.2, hmt]; rfl)
        clear HM HMB HBD HV3 hcl hb2 c4 c5 hmt
        go_wp2_with fail
        go_roundg (N - (i + 1))
        case measure => omega
        case rel => exact ⟨i + 1, by omega, rfl, congrArg (Value.int .i64) (HWR.out), HE2, HR3⟩
    · obtain rfl : i = N := by omega
      have hlt : ¬ (i : Int) < (i : Int) := by omega
      have hRt : R = true := by
        rw [← HR.out, List.drop_eq_nil_of_le (by rw [HN.out]; exact Nat.le_refl _)]
        rfl
      subst hRt
      have hb1 := HE.out.1
      clear HE
      go_wp2_with fail
      go_ret
      exact ⟨rfl, hb1⟩
end Go.Proofs.YtjmlmelcppbefaaGreatDoor
