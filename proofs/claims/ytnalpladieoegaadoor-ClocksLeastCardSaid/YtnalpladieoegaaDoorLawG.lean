/- The law on the least: Join, the four ways in which two clocks stand. Asked: the calls lie there; the table of powers of ten is laid. -/
import Derived.Test.YtnalpladieoegaaDoorLife
namespace Go.Proofs.YtnalpladieoegaaDoor
open Go.RowKit Go.Shelf

set_option maxRecDepth 100000 in
set_option maxHeartbeats 8000000 in
theorem least_n13 {w wc : World} {a b c : Ck} {n m : Int} {s : Option Addr} {len cap : Nat} (hs : Acts w s len) (ht : Tab w) (h0 : 0 < w.heap.size) (hF2 : Four w wc a b c n m (.slice s len cap))
    {u0 u1 u2 u3 u8 u9 u11 u12 u13 u14 u15 u16 u17 u18 u19 u20 u21 u22 u23 u24 u25 u26 u27 u28 u29 u30 u31 u32 u33 u34 u35 u36 u37 u38 u39 u40 u41 u42 u43 u44 u45 u46 u47 u48 u49 u50 u51 u52 u53 u54 u55 u56 u57 u58 u59 u60 u61 u62 u63 u64 u65 u66 u67 u68 u69 u70 u71 u72 u73 u74 u75 u76 u77 u78 u79 u80 u81 u82 u83 u84 u85 u86 u87 u88 u89 u90 u91 u92 u93 u94 u95 u96 u97 u98 u99 u100 u101 u102 u103 u104 u105 u106 u107 u108 u109 u110 u111 u112 u113 u114 u115 u116 u117 u118 u119 u120 u121 u122 u123 u124 u125 u126 u127 u128 u129 u130 u131 u132 u133 u134 u135 u136 u137 u138 u139 u140 u141 u142 u143 u144 u145 u146 u147 u148 u149 u150 u151 u152 u153 u154 u155 u156 u157 u158 u159 u160 u161 u162 u163 u164 u165 u166 u167 u168 u169 u170 u171 u172 u173 u174 u175 u176 u177 u178 u179 u180 u181 u182 u183 u184 u185 u186 u187 u188 u189 u190 u191 u192 u193 u194 u195 u196 u197 u198 : Value} :
    Code.wp Tryd.prog (dropS 8 (Tryd.f9.body.getD .skip)) (bodyPost Tryd.prog Tryd.f9 fun e w' => e = .returned (.bool true) ∧ Below w.heap.size w w') ⟨#[u0, u1, u2, u3, .pointer (some ⟨w.heap.size, 0, none⟩), .pointer (some ⟨w.heap.size + 1, 0, none⟩), .pointer (some ⟨w.heap.size + 1 + 1, 0, none⟩), .pointer (some ⟨w.heap.size + 1 + 1 + 1, 0, none⟩), u8, u9, .int .i64 1, u11, u12, u13, u14, u15, u16, u17, u18, u19, u20, u21, u22, u23, u24, u25, u26, u27, u28, u29, u30, u31, u32, u33, u34, u35, u36, u37, u38, u39, u40, u41, u42, u43, u44, u45, u46, u47, u48, u49, u50, u51, u52, u53, u54, u55, u56, u57, u58, u59, u60, u61, u62, u63, u64, u65, u66, u67, u68, u69, u70, u71, u72, u73, u74, u75, u76, u77, u78, u79, u80, u81, u82, u83, u84, u85, u86, u87, u88, u89, u90, u91, u92, u93, u94, u95, u96, u97, u98, u99, u100, u101, u102, u103, u104, u105, u106, u107, u108, u109, u110, u111, u112, u113, u114, u115, u116, u117, u118, u119, u120, u121, u122, u123, u124, u125, u126, u127, u128, u129, u130, u131, u132, u133, u134, u135, u136, u137, u138, u139, u140, u141, u142, u143, u144, u145, u146, u147, u148, u149, u150, u151, u152, u153, u154, u155, u156, u157, u158, u159, u160, u161, u162, u163, u164, u165, u166, u167, u168, u169, u170, u171, u172, u173, u174, u175, u176, u177, u178, u179, u180, u181, u182, u183, u184, u185, u186, u187, u188, u189, u190, u191, u192, u193, u194, u195, u196, u197, u198], []⟩ wc := by
  conv in (dropS _ _) => whnf
  refine wp_seq_k fun K hK => ?_
  have HK := Lib.hid hK
  clear hK
  obtain ⟨x, hx⟩ : ∃ x, wiB a b = x := ⟨_, rfl⟩
  obtain ⟨u, hu⟩ : ∃ u, wiB a c = u := ⟨_, rfl⟩
  obtain ⟨v, hv⟩ : ∃ v, wiB b c = v := ⟨_, rfl⟩
  have htr : x = true → v = true → u = true := fun h1 h2 => by rw [← hu]; exact wi_trans (hx.trans h1) (hv.trans h2)
  have d3 := fun W => Within_any a c W
  have d4 := fun W => Within_any b c W
  have d6 := fun W => Within_any a b W
  rw [hu] at d3
  rw [hv] at d4
  rw [hx] at d6
  clear hu hv hx
  have HTR := Lib.hid htr
  clear htr
  have x0 := hF2.a.cell (k := 0) (by decide)
  have x1 := hF2.a.cell (k := 1) (by decide)
  have x2 := hF2.a.cell (k := 2) (by decide)
  have x3 := hF2.a.cell (k := 3) (by decide)
  have x4 := hF2.a.cell (k := 4) (by decide)
  have x5 := hF2.a.cell (k := 5) (by decide)
  have x6 := hF2.a.cell (k := 6) (by decide)
  have x7 := hF2.a.cell (k := 7) (by decide)
  have y0 := hF2.b.cell (k := 0) (by decide)
  have y1 := hF2.b.cell (k := 1) (by decide)
  have y2 := hF2.b.cell (k := 2) (by decide)
  have y3 := hF2.b.cell (k := 3) (by decide)
  have y4 := hF2.b.cell (k := 4) (by decide)
  have y5 := hF2.b.cell (k := 5) (by decide)
  have y6 := hF2.b.cell (k := 6) (by decide)
  have y7 := hF2.b.cell (k := 7) (by decide)
  go_wp2_with fail
  refine (d6 _).mono ?_
  rintro e w' ⟨rfl, hb⟩
  clear x0 x1 x2 x3 x4 x5 x6 x7 y0 y1 y2 y3 y4 y5 y6 y7
  have hF3 := hF2.belowS hb
  clear hb hF2
  have hF2 := hF3
  clear hF3
  cases x
  · go_wp2_with fail
    exact HK.out _ _ (least_tail hs ht h0 hF2)
  · have y0 := hF2.b.cell (k := 0) (by decide)
    have y1 := hF2.b.cell (k := 1) (by decide)
    have y2 := hF2.b.cell (k := 2) (by decide)
    have y3 := hF2.b.cell (k := 3) (by decide)
    have y4 := hF2.b.cell (k := 4) (by decide)
    have y5 := hF2.b.cell (k := 5) (by decide)
    have y6 := hF2.b.cell (k := 6) (by decide)
    have y7 := hF2.b.cell (k := 7) (by decide)
    have z0 := hF2.c.cell (k := 0) (by decide)
    have z1 := hF2.c.cell (k := 1) (by decide)
    have z2 := hF2.c.cell (k := 2) (by decide)
    have z3 := hF2.c.cell (k := 3) (by decide)
    have z4 := hF2.c.cell (k := 4) (by decide)
    have z5 := hF2.c.cell (k := 5) (by decide)
    have z6 := hF2.c.cell (k := 6) (by decide)
    have z7 := hF2.c.cell (k := 7) (by decide)
    go_wp2_with fail
    refine (d4 _).mono ?_
    rintro e w' ⟨rfl, hb⟩
    clear y0 y1 y2 y3 y4 y5 y6 y7 z0 z1 z2 z3 z4 z5 z6 z7
    have hF3 := hF2.belowS hb
    clear hb hF2
    have hF2 := hF3
    clear hF3
    cases v
    · go_wp2_with fail
      exact HK.out _ _ (least_tail hs ht h0 hF2)
    · obtain rfl : u = true := by have h := HTR.out; simpa using h
      clear HTR
      have x0 := hF2.a.cell (k := 0) (by decide)
      have x1 := hF2.a.cell (k := 1) (by decide)
      have x2 := hF2.a.cell (k := 2) (by decide)
      have x3 := hF2.a.cell (k := 3) (by decide)
      have x4 := hF2.a.cell (k := 4) (by decide)
      have x5 := hF2.a.cell (k := 5) (by decide)
      have x6 := hF2.a.cell (k := 6) (by decide)
      have x7 := hF2.a.cell (k := 7) (by decide)
      have z0 := hF2.c.cell (k := 0) (by decide)
      have z1 := hF2.c.cell (k := 1) (by decide)
      have z2 := hF2.c.cell (k := 2) (by decide)
      have z3 := hF2.c.cell (k := 3) (by decide)
      have z4 := hF2.c.cell (k := 4) (by decide)
      have z5 := hF2.c.cell (k := 5) (by decide)
      have z6 := hF2.c.cell (k := 6) (by decide)
      have z7 := hF2.c.cell (k := 7) (by decide)
      go_wp2_with fail
      refine (d3 _).mono ?_
      rintro e w' ⟨rfl, hb⟩
      clear x0 x1 x2 x3 x4 x5 x6 x7 z0 z1 z2 z3 z4 z5 z6 z7
      have hF3 := hF2.belowS hb
      clear hb hF2
      have hF2 := hF3
      clear hF3
      go_wp2_with fail
      exact HK.out _ _ (least_tail hs ht h0 hF2)

theorem one_of (x y : Bool) : ((x && y) || (!(x && y) && x) || (!(x && y) && y) || (!x && !y)) = true ∧ ((x && y) = true → (!(x && y) && x) = false ∧ (!(x && y) && y) = false ∧ (!x && !y) = false) ∧ ((!(x && y) && x) = true → (!(x && y) && y) = false ∧ (!x && !y) = false) ∧ ((!(x && y) && y) = true → (!x && !y) = false) := by
  cases x <;> cases y <;> decide

set_option maxRecDepth 100000 in
set_option maxHeartbeats 8000000 in
theorem least_i71_0 {w wc : World} {a b c : Ck} {n m : Int} {s : Option Addr} {len cap : Nat} (hs : Acts w s len) (ht : Tab w) (h0 : 0 < w.heap.size) (hF2 : Four w wc a b c n m (.slice s len cap)) (hq : apB a b = true)
    {u0 u1 u2 u3 u8 u9 u11 u12 u13 u14 u15 u16 u17 u18 u19 u20 u21 u22 u23 u24 u25 u26 u27 u28 u29 u30 u31 u32 u33 u34 u35 u36 u37 u38 u39 u40 u41 u42 u43 u44 u45 u46 u47 u48 u49 u50 u51 u52 u53 u54 u55 u56 u57 u58 u59 u60 u61 u62 u63 u64 u65 u66 u67 u68 u69 u70 u71 u72 u73 u74 u75 u76 u77 u78 u79 u80 u81 u82 u83 u84 u85 u86 u87 u88 u89 u90 u91 u92 u93 u94 u95 u96 u97 u98 u99 u100 u101 u102 u103 u104 u105 u106 u107 u108 u109 u110 u111 u112 u113 u114 u115 u116 u117 u118 u119 u120 u121 u122 u123 u124 u125 u126 u127 u128 u129 u130 u131 u132 u133 u134 u135 u136 u137 u138 u139 u140 u141 u142 u143 u144 u145 u146 u147 u148 u149 u150 u151 u152 u153 u154 u155 u156 u157 u158 u159 u160 u161 u162 u163 u164 u165 u166 u167 u168 u169 u170 u171 u172 u173 u174 u175 u176 u177 u178 u179 u180 u181 u182 u183 u184 u185 u186 u187 u188 u189 u190 u191 u192 u193 u194 u195 u196 u197 u198 : Value} :
    Code.wp Tryd.prog (dropS 7 (Tryd.f9.body.getD .skip)) (bodyPost Tryd.prog Tryd.f9 fun e w' => e = .returned (.bool true) ∧ Below w.heap.size w w') ⟨#[u0, u1, u2, u3, .pointer (some ⟨w.heap.size, 0, none⟩), .pointer (some ⟨w.heap.size + 1, 0, none⟩), .pointer (some ⟨w.heap.size + 1 + 1, 0, none⟩), .pointer (some ⟨w.heap.size + 1 + 1 + 1, 0, none⟩), u8, u9, .int .i64 0, u11, u12, u13, u14, u15, u16, u17, u18, u19, u20, u21, u22, u23, u24, u25, u26, u27, u28, u29, u30, u31, u32, u33, u34, u35, u36, u37, u38, u39, u40, u41, u42, u43, u44, u45, u46, u47, u48, u49, u50, u51, u52, u53, u54, u55, u56, u57, u58, u59, u60, u61, u62, u63, u64, u65, u66, u67, u68, u69, u70, u71, u72, u73, u74, u75, u76, u77, u78, u79, u80, u81, u82, u83, u84, u85, u86, u87, u88, u89, u90, u91, u92, u93, u94, u95, u96, u97, u98, u99, u100, u101, u102, u103, u104, u105, u106, u107, u108, u109, u110, u111, u112, u113, u114, u115, u116, u117, u118, u119, u120, u121, u122, u123, u124, u125, u126, u127, u128, u129, u130, u131, u132, u133, u134, u135, u136, u137, u138, u139, u140, u141, u142, u143, u144, u145, u146, u147, u148, u149, u150, u151, u152, u153, u154, u155, u156, u157, u158, u159, u160, u161, u162, u163, u164, u165, u166, u167, u168, u169, u170, u171, u172, u173, u174, u175, u176, u177, u178, u179, u180, u181, u182, u183, u184, u185, u186, u187, u188, u189, u190, u191, u192, u193, u194, u195, u196, u197, u198], []⟩ wc := by
  conv in (dropS _ _) => whnf
  refine wp_seq_k fun K hK => ?_
  have HK := Lib.hid hK
  clear hK
  have dd := fun W => Apart_any a b W
  rw [hq] at dd
  clear hq
  have x0 := hF2.a.cell (k := 0) (by decide)
  have x1 := hF2.a.cell (k := 1) (by decide)
  have x2 := hF2.a.cell (k := 2) (by decide)
  have x3 := hF2.a.cell (k := 3) (by decide)
  have x4 := hF2.a.cell (k := 4) (by decide)
  have x5 := hF2.a.cell (k := 5) (by decide)
  have x6 := hF2.a.cell (k := 6) (by decide)
  have x7 := hF2.a.cell (k := 7) (by decide)
  have y0 := hF2.b.cell (k := 0) (by decide)
  have y1 := hF2.b.cell (k := 1) (by decide)
  have y2 := hF2.b.cell (k := 2) (by decide)
  have y3 := hF2.b.cell (k := 3) (by decide)
  have y4 := hF2.b.cell (k := 4) (by decide)
  have y5 := hF2.b.cell (k := 5) (by decide)
  have y6 := hF2.b.cell (k := 6) (by decide)
  have y7 := hF2.b.cell (k := 7) (by decide)
  go_wp2_with fail
  refine (dd _).mono ?_
  rintro e w' ⟨rfl, hb⟩
  clear x0 x1 x2 x3 x4 x5 x6 x7 y0 y1 y2 y3 y4 y5 y6 y7
  have hF3 := hF2.belowS hb
  clear hb hF2
  have hF2 := hF3
  clear hF3
  go_wp2_with fail
  exact HK.out _ _ (least_n13 hs ht h0 hF2)

set_option maxRecDepth 100000 in
set_option maxHeartbeats 8000000 in
theorem least_i71_1 {w wc : World} {a b c : Ck} {n m : Int} {s : Option Addr} {len cap : Nat} (hs : Acts w s len) (ht : Tab w) (h0 : 0 < w.heap.size) (hF2 : Four w wc a b c n m (.slice s len cap)) (hq : apB a b = false)
    {u0 u1 u2 u3 u8 u9 u11 u12 u13 u14 u15 u16 u17 u18 u19 u20 u21 u22 u23 u24 u25 u26 u27 u28 u29 u30 u31 u32 u33 u34 u35 u36 u37 u38 u39 u40 u41 u42 u43 u44 u45 u46 u47 u48 u49 u50 u51 u52 u53 u54 u55 u56 u57 u58 u59 u60 u61 u62 u63 u64 u65 u66 u67 u68 u69 u70 u71 u72 u73 u74 u75 u76 u77 u78 u79 u80 u81 u82 u83 u84 u85 u86 u87 u88 u89 u90 u91 u92 u93 u94 u95 u96 u97 u98 u99 u100 u101 u102 u103 u104 u105 u106 u107 u108 u109 u110 u111 u112 u113 u114 u115 u116 u117 u118 u119 u120 u121 u122 u123 u124 u125 u126 u127 u128 u129 u130 u131 u132 u133 u134 u135 u136 u137 u138 u139 u140 u141 u142 u143 u144 u145 u146 u147 u148 u149 u150 u151 u152 u153 u154 u155 u156 u157 u158 u159 u160 u161 u162 u163 u164 u165 u166 u167 u168 u169 u170 u171 u172 u173 u174 u175 u176 u177 u178 u179 u180 u181 u182 u183 u184 u185 u186 u187 u188 u189 u190 u191 u192 u193 u194 u195 u196 u197 u198 : Value} :
    Code.wp Tryd.prog (dropS 7 (Tryd.f9.body.getD .skip)) (bodyPost Tryd.prog Tryd.f9 fun e w' => e = .returned (.bool true) ∧ Below w.heap.size w w') ⟨#[u0, u1, u2, u3, .pointer (some ⟨w.heap.size, 0, none⟩), .pointer (some ⟨w.heap.size + 1, 0, none⟩), .pointer (some ⟨w.heap.size + 1 + 1, 0, none⟩), .pointer (some ⟨w.heap.size + 1 + 1 + 1, 0, none⟩), u8, u9, .int .i64 1, u11, u12, u13, u14, u15, u16, u17, u18, u19, u20, u21, u22, u23, u24, u25, u26, u27, u28, u29, u30, u31, u32, u33, u34, u35, u36, u37, u38, u39, u40, u41, u42, u43, u44, u45, u46, u47, u48, u49, u50, u51, u52, u53, u54, u55, u56, u57, u58, u59, u60, u61, u62, u63, u64, u65, u66, u67, u68, u69, u70, u71, u72, u73, u74, u75, u76, u77, u78, u79, u80, u81, u82, u83, u84, u85, u86, u87, u88, u89, u90, u91, u92, u93, u94, u95, u96, u97, u98, u99, u100, u101, u102, u103, u104, u105, u106, u107, u108, u109, u110, u111, u112, u113, u114, u115, u116, u117, u118, u119, u120, u121, u122, u123, u124, u125, u126, u127, u128, u129, u130, u131, u132, u133, u134, u135, u136, u137, u138, u139, u140, u141, u142, u143, u144, u145, u146, u147, u148, u149, u150, u151, u152, u153, u154, u155, u156, u157, u158, u159, u160, u161, u162, u163, u164, u165, u166, u167, u168, u169, u170, u171, u172, u173, u174, u175, u176, u177, u178, u179, u180, u181, u182, u183, u184, u185, u186, u187, u188, u189, u190, u191, u192, u193, u194, u195, u196, u197, u198], []⟩ wc := by
  conv in (dropS _ _) => whnf
  refine wp_seq_k fun K hK => ?_
  have HK := Lib.hid hK
  clear hK
  have dd := fun W => Apart_any a b W
  rw [hq] at dd
  clear hq
  have x0 := hF2.a.cell (k := 0) (by decide)
  have x1 := hF2.a.cell (k := 1) (by decide)
  have x2 := hF2.a.cell (k := 2) (by decide)
  have x3 := hF2.a.cell (k := 3) (by decide)
  have x4 := hF2.a.cell (k := 4) (by decide)
  have x5 := hF2.a.cell (k := 5) (by decide)
  have x6 := hF2.a.cell (k := 6) (by decide)
  have x7 := hF2.a.cell (k := 7) (by decide)
  have y0 := hF2.b.cell (k := 0) (by decide)
  have y1 := hF2.b.cell (k := 1) (by decide)
  have y2 := hF2.b.cell (k := 2) (by decide)
  have y3 := hF2.b.cell (k := 3) (by decide)
  have y4 := hF2.b.cell (k := 4) (by decide)
  have y5 := hF2.b.cell (k := 5) (by decide)
  have y6 := hF2.b.cell (k := 6) (by decide)
  have y7 := hF2.b.cell (k := 7) (by decide)
  go_wp2_with fail
  refine (dd _).mono ?_
  rintro e w' ⟨rfl, hb⟩
  clear x0 x1 x2 x3 x4 x5 x6 x7 y0 y1 y2 y3 y4 y5 y6 y7
  have hF3 := hF2.belowS hb
  clear hb hF2
  have hF2 := hF3
  clear hF3
  go_wp2_with fail
  exact HK.out _ _ (least_n13 hs ht h0 hF2)

set_option maxRecDepth 100000 in
set_option maxHeartbeats 8000000 in
theorem least_i66_0 {w wc : World} {a b c : Ck} {n m : Int} {s : Option Addr} {len cap : Nat} (hs : Acts w s len) (ht : Tab w) (h0 : 0 < w.heap.size) (hF2 : Four w wc a b c n m (.slice s len cap)) (hr : befB b a = true ∧ apB a b = false ∨ befB b a = false ∧ apB a b = true)
    {u0 u1 u2 u3 u8 u9 u11 u12 u13 u14 u15 u16 u17 u18 u19 u20 u21 u22 u23 u24 u25 u26 u27 u28 u29 u30 u31 u32 u33 u34 u35 u36 u37 u38 u39 u40 u41 u42 u43 u44 u45 u46 u47 u48 u49 u50 u51 u52 u53 u54 u55 u56 u57 u58 u59 u60 u61 u62 u63 u64 u65 u66 u67 u68 u69 u70 u71 u72 u73 u74 u75 u76 u77 u78 u79 u80 u81 u82 u83 u84 u85 u86 u87 u88 u89 u90 u91 u92 u93 u94 u95 u96 u97 u98 u99 u100 u101 u102 u103 u104 u105 u106 u107 u108 u109 u110 u111 u112 u113 u114 u115 u116 u117 u118 u119 u120 u121 u122 u123 u124 u125 u126 u127 u128 u129 u130 u131 u132 u133 u134 u135 u136 u137 u138 u139 u140 u141 u142 u143 u144 u145 u146 u147 u148 u149 u150 u151 u152 u153 u154 u155 u156 u157 u158 u159 u160 u161 u162 u163 u164 u165 u166 u167 u168 u169 u170 u171 u172 u173 u174 u175 u176 u177 u178 u179 u180 u181 u182 u183 u184 u185 u186 u187 u188 u189 u190 u191 u192 u193 u194 u195 u196 u197 u198 : Value} :
    Code.wp Tryd.prog (dropS 6 (Tryd.f9.body.getD .skip)) (bodyPost Tryd.prog Tryd.f9 fun e w' => e = .returned (.bool true) ∧ Below w.heap.size w w') ⟨#[u0, u1, u2, u3, .pointer (some ⟨w.heap.size, 0, none⟩), .pointer (some ⟨w.heap.size + 1, 0, none⟩), .pointer (some ⟨w.heap.size + 1 + 1, 0, none⟩), .pointer (some ⟨w.heap.size + 1 + 1 + 1, 0, none⟩), u8, u9, .int .i64 0, u11, u12, u13, u14, u15, u16, u17, u18, u19, u20, u21, u22, u23, u24, u25, u26, u27, u28, u29, u30, u31, u32, u33, u34, u35, u36, u37, u38, u39, u40, u41, u42, u43, u44, u45, u46, u47, u48, u49, u50, u51, u52, u53, u54, u55, u56, u57, u58, u59, u60, u61, u62, u63, u64, u65, u66, u67, u68, u69, u70, u71, u72, u73, u74, u75, u76, u77, u78, u79, u80, u81, u82, u83, u84, u85, u86, u87, u88, u89, u90, u91, u92, u93, u94, u95, u96, u97, u98, u99, u100, u101, u102, u103, u104, u105, u106, u107, u108, u109, u110, u111, u112, u113, u114, u115, u116, u117, u118, u119, u120, u121, u122, u123, u124, u125, u126, u127, u128, u129, u130, u131, u132, u133, u134, u135, u136, u137, u138, u139, u140, u141, u142, u143, u144, u145, u146, u147, u148, u149, u150, u151, u152, u153, u154, u155, u156, u157, u158, u159, u160, u161, u162, u163, u164, u165, u166, u167, u168, u169, u170, u171, u172, u173, u174, u175, u176, u177, u178, u179, u180, u181, u182, u183, u184, u185, u186, u187, u188, u189, u190, u191, u192, u193, u194, u195, u196, u197, u198], []⟩ wc := by
  conv in (dropS _ _) => whnf
  refine wp_seq_k fun K hK => ?_
  have HK := Lib.hid hK
  clear hK
  obtain ⟨q, hq⟩ : ∃ q, befB b a = q := ⟨_, rfl⟩
  rw [hq] at hr
  have HR := Lib.hid hr
  clear hr
  have dd := fun W => Before_any b a W
  rw [hq] at dd
  clear hq
  have x0 := hF2.b.cell (k := 0) (by decide)
  have x1 := hF2.b.cell (k := 1) (by decide)
  have x2 := hF2.b.cell (k := 2) (by decide)
  have x3 := hF2.b.cell (k := 3) (by decide)
  have x4 := hF2.b.cell (k := 4) (by decide)
  have x5 := hF2.b.cell (k := 5) (by decide)
  have x6 := hF2.b.cell (k := 6) (by decide)
  have x7 := hF2.b.cell (k := 7) (by decide)
  have y0 := hF2.a.cell (k := 0) (by decide)
  have y1 := hF2.a.cell (k := 1) (by decide)
  have y2 := hF2.a.cell (k := 2) (by decide)
  have y3 := hF2.a.cell (k := 3) (by decide)
  have y4 := hF2.a.cell (k := 4) (by decide)
  have y5 := hF2.a.cell (k := 5) (by decide)
  have y6 := hF2.a.cell (k := 6) (by decide)
  have y7 := hF2.a.cell (k := 7) (by decide)
  go_wp2_with fail
  refine (dd _).mono ?_
  rintro e w' ⟨rfl, hb⟩
  clear x0 x1 x2 x3 x4 x5 x6 x7 y0 y1 y2 y3 y4 y5 y6 y7
  have hF3 := hF2.belowS hb
  clear hb hF2
  have hF2 := hF3
  clear hF3
  cases q
  · have hr : apB a b = true := by have h := HR.out; simpa using h
    go_wp2_with fail
    exact HK.out _ _ (least_i71_0 hs ht h0 hF2 hr)
  · have hr : apB a b = false := by have h := HR.out; simpa using h
    go_wp2_with fail
    exact HK.out _ _ (least_i71_1 hs ht h0 hF2 hr)

set_option maxRecDepth 100000 in
set_option maxHeartbeats 8000000 in
theorem least_i66_1 {w wc : World} {a b c : Ck} {n m : Int} {s : Option Addr} {len cap : Nat} (hs : Acts w s len) (ht : Tab w) (h0 : 0 < w.heap.size) (hF2 : Four w wc a b c n m (.slice s len cap)) (hq : befB b a = false) (hr : apB a b = false)
    {u0 u1 u2 u3 u8 u9 u11 u12 u13 u14 u15 u16 u17 u18 u19 u20 u21 u22 u23 u24 u25 u26 u27 u28 u29 u30 u31 u32 u33 u34 u35 u36 u37 u38 u39 u40 u41 u42 u43 u44 u45 u46 u47 u48 u49 u50 u51 u52 u53 u54 u55 u56 u57 u58 u59 u60 u61 u62 u63 u64 u65 u66 u67 u68 u69 u70 u71 u72 u73 u74 u75 u76 u77 u78 u79 u80 u81 u82 u83 u84 u85 u86 u87 u88 u89 u90 u91 u92 u93 u94 u95 u96 u97 u98 u99 u100 u101 u102 u103 u104 u105 u106 u107 u108 u109 u110 u111 u112 u113 u114 u115 u116 u117 u118 u119 u120 u121 u122 u123 u124 u125 u126 u127 u128 u129 u130 u131 u132 u133 u134 u135 u136 u137 u138 u139 u140 u141 u142 u143 u144 u145 u146 u147 u148 u149 u150 u151 u152 u153 u154 u155 u156 u157 u158 u159 u160 u161 u162 u163 u164 u165 u166 u167 u168 u169 u170 u171 u172 u173 u174 u175 u176 u177 u178 u179 u180 u181 u182 u183 u184 u185 u186 u187 u188 u189 u190 u191 u192 u193 u194 u195 u196 u197 u198 : Value} :
    Code.wp Tryd.prog (dropS 6 (Tryd.f9.body.getD .skip)) (bodyPost Tryd.prog Tryd.f9 fun e w' => e = .returned (.bool true) ∧ Below w.heap.size w w') ⟨#[u0, u1, u2, u3, .pointer (some ⟨w.heap.size, 0, none⟩), .pointer (some ⟨w.heap.size + 1, 0, none⟩), .pointer (some ⟨w.heap.size + 1 + 1, 0, none⟩), .pointer (some ⟨w.heap.size + 1 + 1 + 1, 0, none⟩), u8, u9, .int .i64 1, u11, u12, u13, u14, u15, u16, u17, u18, u19, u20, u21, u22, u23, u24, u25, u26, u27, u28, u29, u30, u31, u32, u33, u34, u35, u36, u37, u38, u39, u40, u41, u42, u43, u44, u45, u46, u47, u48, u49, u50, u51, u52, u53, u54, u55, u56, u57, u58, u59, u60, u61, u62, u63, u64, u65, u66, u67, u68, u69, u70, u71, u72, u73, u74, u75, u76, u77, u78, u79, u80, u81, u82, u83, u84, u85, u86, u87, u88, u89, u90, u91, u92, u93, u94, u95, u96, u97, u98, u99, u100, u101, u102, u103, u104, u105, u106, u107, u108, u109, u110, u111, u112, u113, u114, u115, u116, u117, u118, u119, u120, u121, u122, u123, u124, u125, u126, u127, u128, u129, u130, u131, u132, u133, u134, u135, u136, u137, u138, u139, u140, u141, u142, u143, u144, u145, u146, u147, u148, u149, u150, u151, u152, u153, u154, u155, u156, u157, u158, u159, u160, u161, u162, u163, u164, u165, u166, u167, u168, u169, u170, u171, u172, u173, u174, u175, u176, u177, u178, u179, u180, u181, u182, u183, u184, u185, u186, u187, u188, u189, u190, u191, u192, u193, u194, u195, u196, u197, u198], []⟩ wc := by
  conv in (dropS _ _) => whnf
  refine wp_seq_k fun K hK => ?_
  have HK := Lib.hid hK
  clear hK
  have HR := Lib.hid hr
  clear hr
  have dd := fun W => Before_any b a W
  rw [hq] at dd
  clear hq
  have x0 := hF2.b.cell (k := 0) (by decide)
  have x1 := hF2.b.cell (k := 1) (by decide)
  have x2 := hF2.b.cell (k := 2) (by decide)
  have x3 := hF2.b.cell (k := 3) (by decide)
  have x4 := hF2.b.cell (k := 4) (by decide)
  have x5 := hF2.b.cell (k := 5) (by decide)
  have x6 := hF2.b.cell (k := 6) (by decide)
  have x7 := hF2.b.cell (k := 7) (by decide)
  have y0 := hF2.a.cell (k := 0) (by decide)
  have y1 := hF2.a.cell (k := 1) (by decide)
  have y2 := hF2.a.cell (k := 2) (by decide)
  have y3 := hF2.a.cell (k := 3) (by decide)
  have y4 := hF2.a.cell (k := 4) (by decide)
  have y5 := hF2.a.cell (k := 5) (by decide)
  have y6 := hF2.a.cell (k := 6) (by decide)
  have y7 := hF2.a.cell (k := 7) (by decide)
  go_wp2_with fail
  refine (dd _).mono ?_
  rintro e w' ⟨rfl, hb⟩
  clear x0 x1 x2 x3 x4 x5 x6 x7 y0 y1 y2 y3 y4 y5 y6 y7
  have hF3 := hF2.belowS hb
  clear hb hF2
  have hF2 := hF3
  clear hF3
  go_wp2_with fail
  exact HK.out _ _ (least_i71_1 hs ht h0 hF2 HR.out)

set_option maxRecDepth 100000 in
set_option maxHeartbeats 8000000 in
theorem least_i61_0 {w wc : World} {a b c : Ck} {n m : Int} {s : Option Addr} {len cap : Nat} (hs : Acts w s len) (ht : Tab w) (h0 : 0 < w.heap.size) (hF2 : Four w wc a b c n m (.slice s len cap)) (hr : befB a b = true ∧ befB b a = false ∧ apB a b = false ∨ befB a b = false ∧ (befB b a = true ∧ apB a b = false ∨ befB b a = false ∧ apB a b = true))
    {u0 u1 u2 u3 u8 u9 u11 u12 u13 u14 u15 u16 u17 u18 u19 u20 u21 u22 u23 u24 u25 u26 u27 u28 u29 u30 u31 u32 u33 u34 u35 u36 u37 u38 u39 u40 u41 u42 u43 u44 u45 u46 u47 u48 u49 u50 u51 u52 u53 u54 u55 u56 u57 u58 u59 u60 u61 u62 u63 u64 u65 u66 u67 u68 u69 u70 u71 u72 u73 u74 u75 u76 u77 u78 u79 u80 u81 u82 u83 u84 u85 u86 u87 u88 u89 u90 u91 u92 u93 u94 u95 u96 u97 u98 u99 u100 u101 u102 u103 u104 u105 u106 u107 u108 u109 u110 u111 u112 u113 u114 u115 u116 u117 u118 u119 u120 u121 u122 u123 u124 u125 u126 u127 u128 u129 u130 u131 u132 u133 u134 u135 u136 u137 u138 u139 u140 u141 u142 u143 u144 u145 u146 u147 u148 u149 u150 u151 u152 u153 u154 u155 u156 u157 u158 u159 u160 u161 u162 u163 u164 u165 u166 u167 u168 u169 u170 u171 u172 u173 u174 u175 u176 u177 u178 u179 u180 u181 u182 u183 u184 u185 u186 u187 u188 u189 u190 u191 u192 u193 u194 u195 u196 u197 u198 : Value} :
    Code.wp Tryd.prog (dropS 5 (Tryd.f9.body.getD .skip)) (bodyPost Tryd.prog Tryd.f9 fun e w' => e = .returned (.bool true) ∧ Below w.heap.size w w') ⟨#[u0, u1, u2, u3, .pointer (some ⟨w.heap.size, 0, none⟩), .pointer (some ⟨w.heap.size + 1, 0, none⟩), .pointer (some ⟨w.heap.size + 1 + 1, 0, none⟩), .pointer (some ⟨w.heap.size + 1 + 1 + 1, 0, none⟩), u8, u9, .int .i64 0, u11, u12, u13, u14, u15, u16, u17, u18, u19, u20, u21, u22, u23, u24, u25, u26, u27, u28, u29, u30, u31, u32, u33, u34, u35, u36, u37, u38, u39, u40, u41, u42, u43, u44, u45, u46, u47, u48, u49, u50, u51, u52, u53, u54, u55, u56, u57, u58, u59, u60, u61, u62, u63, u64, u65, u66, u67, u68, u69, u70, u71, u72, u73, u74, u75, u76, u77, u78, u79, u80, u81, u82, u83, u84, u85, u86, u87, u88, u89, u90, u91, u92, u93, u94, u95, u96, u97, u98, u99, u100, u101, u102, u103, u104, u105, u106, u107, u108, u109, u110, u111, u112, u113, u114, u115, u116, u117, u118, u119, u120, u121, u122, u123, u124, u125, u126, u127, u128, u129, u130, u131, u132, u133, u134, u135, u136, u137, u138, u139, u140, u141, u142, u143, u144, u145, u146, u147, u148, u149, u150, u151, u152, u153, u154, u155, u156, u157, u158, u159, u160, u161, u162, u163, u164, u165, u166, u167, u168, u169, u170, u171, u172, u173, u174, u175, u176, u177, u178, u179, u180, u181, u182, u183, u184, u185, u186, u187, u188, u189, u190, u191, u192, u193, u194, u195, u196, u197, u198], []⟩ wc := by
  conv in (dropS _ _) => whnf
  refine wp_seq_k fun K hK => ?_
  have HK := Lib.hid hK
  clear hK
  obtain ⟨q, hq⟩ : ∃ q, befB a b = q := ⟨_, rfl⟩
  rw [hq] at hr
  have HR := Lib.hid hr
  clear hr
  have dd := fun W => Before_any a b W
  rw [hq] at dd
  clear hq
  have x0 := hF2.a.cell (k := 0) (by decide)
  have x1 := hF2.a.cell (k := 1) (by decide)
  have x2 := hF2.a.cell (k := 2) (by decide)
  have x3 := hF2.a.cell (k := 3) (by decide)
  have x4 := hF2.a.cell (k := 4) (by decide)
  have x5 := hF2.a.cell (k := 5) (by decide)
  have x6 := hF2.a.cell (k := 6) (by decide)
  have x7 := hF2.a.cell (k := 7) (by decide)
  have y0 := hF2.b.cell (k := 0) (by decide)
  have y1 := hF2.b.cell (k := 1) (by decide)
  have y2 := hF2.b.cell (k := 2) (by decide)
  have y3 := hF2.b.cell (k := 3) (by decide)
  have y4 := hF2.b.cell (k := 4) (by decide)
  have y5 := hF2.b.cell (k := 5) (by decide)
  have y6 := hF2.b.cell (k := 6) (by decide)
  have y7 := hF2.b.cell (k := 7) (by decide)
  go_wp2_with fail
  refine (dd _).mono ?_
  rintro e w' ⟨rfl, hb⟩
  clear x0 x1 x2 x3 x4 x5 x6 x7 y0 y1 y2 y3 y4 y5 y6 y7
  have hF3 := hF2.belowS hb
  clear hb hF2
  have hF2 := hF3
  clear hF3
  cases q
  · have hr : befB b a = true ∧ apB a b = false ∨ befB b a = false ∧ apB a b = true := by
      rcases HR.out with ⟨h, _⟩ | ⟨_, h⟩
      · cases h
      · exact h
    have HR2 := Lib.hid hr
    clear hr HR
    go_wp2_with fail
    exact HK.out _ _ (least_i66_0 hs ht h0 hF2 HR2.out)
  · have hr : befB b a = false ∧ apB a b = false := by
      rcases HR.out with ⟨_, h⟩ | ⟨h, _⟩
      · exact h
      · cases h
    have HR2 := Lib.hid hr
    clear hr HR
    go_wp2_with fail
    exact HK.out _ _ (least_i66_1 hs ht h0 hF2 HR2.out.1 HR2.out.2)

set_option maxRecDepth 100000 in
set_option maxHeartbeats 8000000 in
theorem least_i61_1 {w wc : World} {a b c : Ck} {n m : Int} {s : Option Addr} {len cap : Nat} (hs : Acts w s len) (ht : Tab w) (h0 : 0 < w.heap.size) (hF2 : Four w wc a b c n m (.slice s len cap)) (hq : befB a b = false) (hr : befB b a = false ∧ apB a b = false)
    {u0 u1 u2 u3 u8 u9 u11 u12 u13 u14 u15 u16 u17 u18 u19 u20 u21 u22 u23 u24 u25 u26 u27 u28 u29 u30 u31 u32 u33 u34 u35 u36 u37 u38 u39 u40 u41 u42 u43 u44 u45 u46 u47 u48 u49 u50 u51 u52 u53 u54 u55 u56 u57 u58 u59 u60 u61 u62 u63 u64 u65 u66 u67 u68 u69 u70 u71 u72 u73 u74 u75 u76 u77 u78 u79 u80 u81 u82 u83 u84 u85 u86 u87 u88 u89 u90 u91 u92 u93 u94 u95 u96 u97 u98 u99 u100 u101 u102 u103 u104 u105 u106 u107 u108 u109 u110 u111 u112 u113 u114 u115 u116 u117 u118 u119 u120 u121 u122 u123 u124 u125 u126 u127 u128 u129 u130 u131 u132 u133 u134 u135 u136 u137 u138 u139 u140 u141 u142 u143 u144 u145 u146 u147 u148 u149 u150 u151 u152 u153 u154 u155 u156 u157 u158 u159 u160 u161 u162 u163 u164 u165 u166 u167 u168 u169 u170 u171 u172 u173 u174 u175 u176 u177 u178 u179 u180 u181 u182 u183 u184 u185 u186 u187 u188 u189 u190 u191 u192 u193 u194 u195 u196 u197 u198 : Value} :
    Code.wp Tryd.prog (dropS 5 (Tryd.f9.body.getD .skip)) (bodyPost Tryd.prog Tryd.f9 fun e w' => e = .returned (.bool true) ∧ Below w.heap.size w w') ⟨#[u0, u1, u2, u3, .pointer (some ⟨w.heap.size, 0, none⟩), .pointer (some ⟨w.heap.size + 1, 0, none⟩), .pointer (some ⟨w.heap.size + 1 + 1, 0, none⟩), .pointer (some ⟨w.heap.size + 1 + 1 + 1, 0, none⟩), u8, u9, .int .i64 1, u11, u12, u13, u14, u15, u16, u17, u18, u19, u20, u21, u22, u23, u24, u25, u26, u27, u28, u29, u30, u31, u32, u33, u34, u35, u36, u37, u38, u39, u40, u41, u42, u43, u44, u45, u46, u47, u48, u49, u50, u51, u52, u53, u54, u55, u56, u57, u58, u59, u60, u61, u62, u63, u64, u65, u66, u67, u68, u69, u70, u71, u72, u73, u74, u75, u76, u77, u78, u79, u80, u81, u82, u83, u84, u85, u86, u87, u88, u89, u90, u91, u92, u93, u94, u95, u96, u97, u98, u99, u100, u101, u102, u103, u104, u105, u106, u107, u108, u109, u110, u111, u112, u113, u114, u115, u116, u117, u118, u119, u120, u121, u122, u123, u124, u125, u126, u127, u128, u129, u130, u131, u132, u133, u134, u135, u136, u137, u138, u139, u140, u141, u142, u143, u144, u145, u146, u147, u148, u149, u150, u151, u152, u153, u154, u155, u156, u157, u158, u159, u160, u161, u162, u163, u164, u165, u166, u167, u168, u169, u170, u171, u172, u173, u174, u175, u176, u177, u178, u179, u180, u181, u182, u183, u184, u185, u186, u187, u188, u189, u190, u191, u192, u193, u194, u195, u196, u197, u198], []⟩ wc := by
  conv in (dropS _ _) => whnf
  refine wp_seq_k fun K hK => ?_
  have HK := Lib.hid hK
  clear hK
  have HR := Lib.hid hr
  clear hr
  have dd := fun W => Before_any a b W
  rw [hq] at dd
  clear hq
  have x0 := hF2.a.cell (k := 0) (by decide)
  have x1 := hF2.a.cell (k := 1) (by decide)
  have x2 := hF2.a.cell (k := 2) (by decide)
  have x3 := hF2.a.cell (k := 3) (by decide)
  have x4 := hF2.a.cell (k := 4) (by decide)
  have x5 := hF2.a.cell (k := 5) (by decide)
  have x6 := hF2.a.cell (k := 6) (by decide)
  have x7 := hF2.a.cell (k := 7) (by decide)
  have y0 := hF2.b.cell (k := 0) (by decide)
  have y1 := hF2.b.cell (k := 1) (by decide)
  have y2 := hF2.b.cell (k := 2) (by decide)
  have y3 := hF2.b.cell (k := 3) (by decide)
  have y4 := hF2.b.cell (k := 4) (by decide)
  have y5 := hF2.b.cell (k := 5) (by decide)
  have y6 := hF2.b.cell (k := 6) (by decide)
  have y7 := hF2.b.cell (k := 7) (by decide)
  go_wp2_with fail
  refine (dd _).mono ?_
  rintro e w' ⟨rfl, hb⟩
  clear x0 x1 x2 x3 x4 x5 x6 x7 y0 y1 y2 y3 y4 y5 y6 y7
  have hF3 := hF2.belowS hb
  clear hb hF2
  have hF2 := hF3
  clear hF3
  go_wp2_with fail
  exact HK.out _ _ (least_i66_1 hs ht h0 hF2 HR.out.1 HR.out.2)

theorem four_ways (a b : Ck) : eqB a b = true ∧ befB a b = false ∧ befB b a = false ∧ apB a b = false ∨ eqB a b = false ∧ (befB a b = true ∧ befB b a = false ∧ apB a b = false ∨ befB a b = false ∧ (befB b a = true ∧ apB a b = false ∨ befB b a = false ∧ apB a b = true)) := by
  unfold befB apB
  rw [eq_wi a b, eq_wi b a]
  cases wiB a b <;> cases wiB b a <;> decide

set_option maxRecDepth 100000 in
set_option maxHeartbeats 8000000 in
theorem least_i56 {w wc : World} {a b c : Ck} {n m : Int} {s : Option Addr} {len cap : Nat} (hs : Acts w s len) (ht : Tab w) (h0 : 0 < w.heap.size) (hF2 : Four w wc a b c n m (.slice s len cap))
    {u0 u1 u2 u3 u8 u9 u10 u11 u12 u13 u14 u15 u16 u17 u18 u19 u20 u21 u22 u23 u24 u25 u26 u27 u28 u29 u30 u31 u32 u33 u34 u35 u36 u37 u38 u39 u40 u41 u42 u43 u44 u45 u46 u47 u48 u49 u50 u51 u52 u53 u54 u55 u56 u57 u58 u59 u60 u61 u62 u63 u64 u65 u66 u67 u68 u69 u70 u71 u72 u73 u74 u75 u76 u77 u78 u79 u80 u81 u82 u83 u84 u85 u86 u87 u88 u89 u90 u91 u92 u93 u94 u95 u96 u97 u98 u99 u100 u101 u102 u103 u104 u105 u106 u107 u108 u109 u110 u111 u112 u113 u114 u115 u116 u117 u118 u119 u120 u121 u122 u123 u124 u125 u126 u127 u128 u129 u130 u131 u132 u133 u134 u135 u136 u137 u138 u139 u140 u141 u142 u143 u144 u145 u146 u147 u148 u149 u150 u151 u152 u153 u154 u155 u156 u157 u158 u159 u160 u161 u162 u163 u164 u165 u166 u167 u168 u169 u170 u171 u172 u173 u174 u175 u176 u177 u178 u179 u180 u181 u182 u183 u184 u185 u186 u187 u188 u189 u190 u191 u192 u193 u194 u195 u196 u197 u198 : Value} :
    Code.wp Tryd.prog (dropS 3 (Tryd.f9.body.getD .skip)) (bodyPost Tryd.prog Tryd.f9 fun e w' => e = .returned (.bool true) ∧ Below w.heap.size w w') ⟨#[u0, u1, u2, u3, .pointer (some ⟨w.heap.size, 0, none⟩), .pointer (some ⟨w.heap.size + 1, 0, none⟩), .pointer (some ⟨w.heap.size + 1 + 1, 0, none⟩), .pointer (some ⟨w.heap.size + 1 + 1 + 1, 0, none⟩), u8, u9, u10, u11, u12, u13, u14, u15, u16, u17, u18, u19, u20, u21, u22, u23, u24, u25, u26, u27, u28, u29, u30, u31, u32, u33, u34, u35, u36, u37, u38, u39, u40, u41, u42, u43, u44, u45, u46, u47, u48, u49, u50, u51, u52, u53, u54, u55, u56, u57, u58, u59, u60, u61, u62, u63, u64, u65, u66, u67, u68, u69, u70, u71, u72, u73, u74, u75, u76, u77, u78, u79, u80, u81, u82, u83, u84, u85, u86, u87, u88, u89, u90, u91, u92, u93, u94, u95, u96, u97, u98, u99, u100, u101, u102, u103, u104, u105, u106, u107, u108, u109, u110, u111, u112, u113, u114, u115, u116, u117, u118, u119, u120, u121, u122, u123, u124, u125, u126, u127, u128, u129, u130, u131, u132, u133, u134, u135, u136, u137, u138, u139, u140, u141, u142, u143, u144, u145, u146, u147, u148, u149, u150, u151, u152, u153, u154, u155, u156, u157, u158, u159, u160, u161, u162, u163, u164, u165, u166, u167, u168, u169, u170, u171, u172, u173, u174, u175, u176, u177, u178, u179, u180, u181, u182, u183, u184, u185, u186, u187, u188, u189, u190, u191, u192, u193, u194, u195, u196, u197, u198], []⟩ wc := by
  conv in (dropS _ _) => whnf
  refine wp_seq_k fun K hK => ?_
  have HK := Lib.hid hK
  clear hK
  go_wp2_with fail
  refine HK.out _ _ ?_
  clear HK K
  refine wp_seq_k fun K hK => ?_
  have HK := Lib.hid hK
  clear hK
  obtain ⟨q, hq⟩ : ∃ q, eqB a b = q := ⟨_, rfl⟩
  have hr := four_ways a b
  rw [hq] at hr
  have HR := Lib.hid hr
  clear hr
  have e1 := fun W => eqc_run Tryd.underlying23 a b W
  rw [hq] at e1
  clear hq
  have x0 := hF2.a.cell (k := 0) (by decide)
  have x1 := hF2.a.cell (k := 1) (by decide)
  have x2 := hF2.a.cell (k := 2) (by decide)
  have x3 := hF2.a.cell (k := 3) (by decide)
  have x4 := hF2.a.cell (k := 4) (by decide)
  have x5 := hF2.a.cell (k := 5) (by decide)
  have x6 := hF2.a.cell (k := 6) (by decide)
  have x7 := hF2.a.cell (k := 7) (by decide)
  have y0 := hF2.b.cell (k := 0) (by decide)
  have y1 := hF2.b.cell (k := 1) (by decide)
  have y2 := hF2.b.cell (k := 2) (by decide)
  have y3 := hF2.b.cell (k := 3) (by decide)
  have y4 := hF2.b.cell (k := 4) (by decide)
  have y5 := hF2.b.cell (k := 5) (by decide)
  have y6 := hF2.b.cell (k := 6) (by decide)
  have y7 := hF2.b.cell (k := 7) (by decide)
  cases q
  · have hr : befB a b = true ∧ befB b a = false ∧ apB a b = false ∨ befB a b = false ∧ (befB b a = true ∧ apB a b = false ∨ befB b a = false ∧ apB a b = true) := by
      rcases HR.out with ⟨h, _⟩ | ⟨_, h⟩
      · cases h
      · exact h
    have HR2 := Lib.hid hr
    clear hr HR
    go_wp2_with fail
    exact HK.out _ _ (least_i61_0 hs ht h0 hF2 HR2.out)
  · have hr : befB a b = false ∧ befB b a = false ∧ apB a b = false := by
      rcases HR.out with ⟨_, h⟩ | ⟨h, _⟩
      · exact h
      · cases h
    have HR2 := Lib.hid hr
    clear hr HR
    go_wp2_with fail
    exact HK.out _ _ (least_i61_1 hs ht h0 hF2 HR2.out.1 HR2.out.2)

set_option maxRecDepth 100000 in
set_option maxHeartbeats 8000000 in
theorem least_i53 {w wc : World} {a b c : Ck} {n m : Int} {s : Option Addr} {len cap : Nat} (hs : Acts w s len) (ht : Tab w) (h0 : 0 < w.heap.size) (hF2 : Four w wc a b c n m (.slice s len cap)) {j : Ck} {jb : Nat} (hj : jn a b = j) (hJ : Blk wc jb 23 j)
    {u0 u1 u2 u3 u8 u10 u11 u12 u13 u14 u15 u16 u17 u18 u19 u20 u21 u22 u23 u24 u25 u26 u27 u28 u29 u30 u31 u32 u33 u34 u35 u36 u37 u38 u39 u40 u41 u42 u43 u44 u45 u46 u47 u48 u49 u50 u51 u52 u53 u54 u55 u56 u57 u58 u59 u60 u61 u62 u63 u64 u65 u66 u67 u68 u69 u70 u71 u72 u73 u74 u75 u76 u77 u78 u79 u80 u81 u82 u83 u84 u85 u86 u87 u88 u89 u90 u91 u92 u93 u94 u95 u96 u97 u98 u99 u100 u101 u102 u103 u104 u105 u106 u107 u108 u109 u110 u111 u112 u113 u114 u115 u116 u117 u118 u119 u120 u121 u122 u123 u124 u125 u126 u127 u128 u129 u130 u131 u132 u133 u134 u135 u136 u137 u138 u139 u140 u141 u142 u143 u144 u145 u146 u147 u148 u149 u150 u151 u152 u153 u154 u155 u156 u157 u158 u159 u160 u161 u162 u163 u164 u165 u166 u167 u168 u169 u170 u171 u172 u173 u174 u175 u176 u177 u178 u179 u180 u181 u182 u183 u184 u185 u186 u187 u188 u189 u190 u191 u192 u193 u194 u195 u196 u197 u198 : Value} :
    Code.wp Tryd.prog (dropS 2 (Tryd.f9.body.getD .skip)) (bodyPost Tryd.prog Tryd.f9 fun e w' => e = .returned (.bool true) ∧ Below w.heap.size w w') ⟨#[u0, u1, u2, u3, .pointer (some ⟨w.heap.size, 0, none⟩), .pointer (some ⟨w.heap.size + 1, 0, none⟩), .pointer (some ⟨w.heap.size + 1 + 1, 0, none⟩), .pointer (some ⟨w.heap.size + 1 + 1 + 1, 0, none⟩), u8, .pointer (some ⟨jb, 0, none⟩), u10, u11, u12, u13, u14, u15, u16, u17, u18, u19, u20, u21, u22, u23, u24, u25, u26, u27, u28, u29, u30, u31, u32, u33, u34, u35, u36, u37, u38, u39, u40, u41, u42, u43, u44, u45, u46, u47, u48, u49, u50, u51, u52, u53, u54, u55, u56, u57, u58, u59, u60, u61, u62, u63, u64, u65, u66, u67, u68, u69, u70, u71, u72, u73, u74, u75, u76, u77, u78, u79, u80, u81, u82, u83, u84, u85, u86, u87, u88, u89, u90, u91, u92, u93, u94, u95, u96, u97, u98, u99, u100, u101, u102, u103, u104, u105, u106, u107, u108, u109, u110, u111, u112, u113, u114, u115, u116, u117, u118, u119, u120, u121, u122, u123, u124, u125, u126, u127, u128, u129, u130, u131, u132, u133, u134, u135, u136, u137, u138, u139, u140, u141, u142, u143, u144, u145, u146, u147, u148, u149, u150, u151, u152, u153, u154, u155, u156, u157, u158, u159, u160, u161, u162, u163, u164, u165, u166, u167, u168, u169, u170, u171, u172, u173, u174, u175, u176, u177, u178, u179, u180, u181, u182, u183, u184, u185, u186, u187, u188, u189, u190, u191, u192, u193, u194, u195, u196, u197, u198], []⟩ wc := by
  conv in (dropS _ _) => whnf
  refine wp_seq_k fun K hK => ?_
  have HK := Lib.hid hK
  clear hK
  obtain ⟨u, hu⟩ : ∃ u, wiB a c = u := ⟨_, rfl⟩
  obtain ⟨v, hv⟩ : ∃ v, wiB b c = v := ⟨_, rfl⟩
  have d1 := fun W => Within_any a j W
  have d2 := fun W => Within_any b j W
  have d3 := fun W => Within_any a c W
  have d4 := fun W => Within_any b c W
  have d5 := fun W => Within_any j c W
  rw [show wiB a j = true by rw [← hj]; exact wi_jl a b] at d1
  rw [show wiB b j = true by rw [← hj]; exact wi_jr a b] at d2
  rw [show wiB j c = (u && v) by rw [← hj, wi_jc, hu, hv]] at d5
  rw [hu] at d3
  rw [hv] at d4
  clear hu hv hj
  have x0 := hF2.a.cell (k := 0) (by decide)
  have x1 := hF2.a.cell (k := 1) (by decide)
  have x2 := hF2.a.cell (k := 2) (by decide)
  have x3 := hF2.a.cell (k := 3) (by decide)
  have x4 := hF2.a.cell (k := 4) (by decide)
  have x5 := hF2.a.cell (k := 5) (by decide)
  have x6 := hF2.a.cell (k := 6) (by decide)
  have x7 := hF2.a.cell (k := 7) (by decide)
  have z0 := hJ.cell (k := 0) (by decide)
  have z1 := hJ.cell (k := 1) (by decide)
  have z2 := hJ.cell (k := 2) (by decide)
  have z3 := hJ.cell (k := 3) (by decide)
  have z4 := hJ.cell (k := 4) (by decide)
  have z5 := hJ.cell (k := 5) (by decide)
  have z6 := hJ.cell (k := 6) (by decide)
  have z7 := hJ.cell (k := 7) (by decide)
  go_wp2_with fail
  refine (d1 _).mono ?_
  rintro e w' ⟨rfl, hb⟩
  clear x0 x1 x2 x3 x4 x5 x6 x7 z0 z1 z2 z3 z4 z5 z6 z7
  have hF3 := hF2.belowS hb
  have hJ3 := hJ.below hb hJ.lt
  clear hb hF2 hJ
  have hF2 := hF3
  have hJ := hJ3
  clear hF3 hJ3
  have y0 := hF2.b.cell (k := 0) (by decide)
  have y1 := hF2.b.cell (k := 1) (by decide)
  have y2 := hF2.b.cell (k := 2) (by decide)
  have y3 := hF2.b.cell (k := 3) (by decide)
  have y4 := hF2.b.cell (k := 4) (by decide)
  have y5 := hF2.b.cell (k := 5) (by decide)
  have y6 := hF2.b.cell (k := 6) (by decide)
  have y7 := hF2.b.cell (k := 7) (by decide)
  have z0 := hJ.cell (k := 0) (by decide)
  have z1 := hJ.cell (k := 1) (by decide)
  have z2 := hJ.cell (k := 2) (by decide)
  have z3 := hJ.cell (k := 3) (by decide)
  have z4 := hJ.cell (k := 4) (by decide)
  have z5 := hJ.cell (k := 5) (by decide)
  have z6 := hJ.cell (k := 6) (by decide)
  have z7 := hJ.cell (k := 7) (by decide)
  go_wp2_with fail
  refine (d2 _).mono ?_
  rintro e w' ⟨rfl, hb⟩
  clear y0 y1 y2 y3 y4 y5 y6 y7 z0 z1 z2 z3 z4 z5 z6 z7
  have hF3 := hF2.belowS hb
  have hJ3 := hJ.below hb hJ.lt
  clear hb hF2 hJ
  have hF2 := hF3
  have hJ := hJ3
  clear hF3 hJ3
  have x0 := hF2.a.cell (k := 0) (by decide)
  have x1 := hF2.a.cell (k := 1) (by decide)
  have x2 := hF2.a.cell (k := 2) (by decide)
  have x3 := hF2.a.cell (k := 3) (by decide)
  have x4 := hF2.a.cell (k := 4) (by decide)
  have x5 := hF2.a.cell (k := 5) (by decide)
  have x6 := hF2.a.cell (k := 6) (by decide)
  have x7 := hF2.a.cell (k := 7) (by decide)
  have z0 := hF2.c.cell (k := 0) (by decide)
  have z1 := hF2.c.cell (k := 1) (by decide)
  have z2 := hF2.c.cell (k := 2) (by decide)
  have z3 := hF2.c.cell (k := 3) (by decide)
  have z4 := hF2.c.cell (k := 4) (by decide)
  have z5 := hF2.c.cell (k := 5) (by decide)
  have z6 := hF2.c.cell (k := 6) (by decide)
  have z7 := hF2.c.cell (k := 7) (by decide)
  go_wp2_with fail
  refine (d3 _).mono ?_
  rintro e w' ⟨rfl, hb⟩
  clear x0 x1 x2 x3 x4 x5 x6 x7 z0 z1 z2 z3 z4 z5 z6 z7
  have hF3 := hF2.belowS hb
  have hJ3 := hJ.below hb hJ.lt
  clear hb hF2 hJ
  have hF2 := hF3
  have hJ := hJ3
  clear hF3 hJ3
  cases u
  · go_wp2_with fail
    exact HK.out _ _ (least_i56 hs ht h0 hF2)
  · have y0 := hF2.b.cell (k := 0) (by decide)
    have y1 := hF2.b.cell (k := 1) (by decide)
    have y2 := hF2.b.cell (k := 2) (by decide)
    have y3 := hF2.b.cell (k := 3) (by decide)
    have y4 := hF2.b.cell (k := 4) (by decide)
    have y5 := hF2.b.cell (k := 5) (by decide)
    have y6 := hF2.b.cell (k := 6) (by decide)
    have y7 := hF2.b.cell (k := 7) (by decide)
    have z0 := hF2.c.cell (k := 0) (by decide)
    have z1 := hF2.c.cell (k := 1) (by decide)
    have z2 := hF2.c.cell (k := 2) (by decide)
    have z3 := hF2.c.cell (k := 3) (by decide)
    have z4 := hF2.c.cell (k := 4) (by decide)
    have z5 := hF2.c.cell (k := 5) (by decide)
    have z6 := hF2.c.cell (k := 6) (by decide)
    have z7 := hF2.c.cell (k := 7) (by decide)
    go_wp2_with fail
    refine (d4 _).mono ?_
    rintro e w' ⟨rfl, hb⟩
    clear y0 y1 y2 y3 y4 y5 y6 y7 z0 z1 z2 z3 z4 z5 z6 z7
    have hF3 := hF2.belowS hb
    have hJ3 := hJ.below hb hJ.lt
    clear hb hF2 hJ
    have hF2 := hF3
    have hJ := hJ3
    clear hF3 hJ3
    cases v
    · go_wp2_with fail
      exact HK.out _ _ (least_i56 hs ht h0 hF2)
    · have z0 := hJ.cell (k := 0) (by decide)
      have z1 := hJ.cell (k := 1) (by decide)
      have z2 := hJ.cell (k := 2) (by decide)
      have z3 := hJ.cell (k := 3) (by decide)
      have z4 := hJ.cell (k := 4) (by decide)
      have z5 := hJ.cell (k := 5) (by decide)
      have z6 := hJ.cell (k := 6) (by decide)
      have z7 := hJ.cell (k := 7) (by decide)
      have x0 := hF2.c.cell (k := 0) (by decide)
      have x1 := hF2.c.cell (k := 1) (by decide)
      have x2 := hF2.c.cell (k := 2) (by decide)
      have x3 := hF2.c.cell (k := 3) (by decide)
      have x4 := hF2.c.cell (k := 4) (by decide)
      have x5 := hF2.c.cell (k := 5) (by decide)
      have x6 := hF2.c.cell (k := 6) (by decide)
      have x7 := hF2.c.cell (k := 7) (by decide)
      go_wp2_with fail
      refine (d5 _).mono ?_
      rintro e w' ⟨rfl, hb⟩
      clear z0 z1 z2 z3 z4 z5 z6 z7 x0 x1 x2 x3 x4 x5 x6 x7
      have hF3 := hF2.belowS hb
      have hJ3 := hJ.below hb hJ.lt
      clear hb hF2 hJ
      have hF2 := hF3
      have hJ := hJ3
      clear hF3 hJ3
      go_wp2_with fail
      exact HK.out _ _ (least_i56 hs ht h0 hF2)

set_option maxRecDepth 100000 in
set_option maxHeartbeats 8000000 in
theorem least_any {w : World} {a b c : Ck} {n m : Int} {s : Option Addr} {len cap : Nat} (hs : Acts w s len) (ht : Tab w) (h0 : 0 < w.heap.size) :
    Calls Tryd.prog 9 #[.agg (cl a), .agg (cl b), .agg (cl c), .agg #[.int .i64 n, .int .i64 m, .slice s len cap]] w fun e w' => e = .returned (.bool true) ∧ Below w.heap.size w w' := by
  have hF := Four.new w a b c n m (.slice s len cap)
  have cj := fun W => Join_any a b W
  go_enter Tryd.func9, Tryd.ntmps9
  refine wp_seq_k fun K hK => ?_
  have HK := Lib.hid hK
  clear hK
  go_wp2_with fail
  refine HK.out _ _ ?_
  clear HK K
  refine wp_seq_k fun K hK => ?_
  have HK := Lib.hid hK
  clear hK
  go_wp2_with fail
  change Calls _ _ _ ((((w.alloc (.cells (cl a) 23)).alloc (.cells (cl b) 23)).alloc (.cells (cl c) 23)).alloc (.cells #[.int .i64 n, .int .i64 m, .slice s len cap] 59)) _
  generalize (((w.alloc (.cells (cl a) 23)).alloc (.cells (cl b) 23)).alloc (.cells (cl c) 23)).alloc (.cells #[.int .i64 n, .int .i64 m, .slice s len cap] 59) = W0 at *
  refine (cj W0).mono ?_
  rintro e w1 ⟨rfl, hb⟩
  have hF2 := (hF.belowS hb).alloc (.cells (cl (jn a b)) 23)
  have hJ := Blk.new w1 23 (jn a b)
  clear hb hF cj
  go_wp2_with fail
  exact HK.out _ _ (least_i53 hs ht h0 hF2 rfl hJ)
end Go.Proofs.YtnalpladieoegaaDoor
