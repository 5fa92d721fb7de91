/- What the syntax texts share, part 36. No condition. -/
import Derived.Test.YtjmlmelcppbefaaGreatDoorT34
import Derived.Test.YtjmlmelcppbefaaGreatDoorT35
namespace Go.Proofs.YtjmlmelcppbefaaGreatDoor
open Go.RowKit Go.Maps
theorem stOf_mem (s : ByteArray) : stOf s = 0 ∨ stOf s = 1 ∨ stOf s = 4 ∨ stOf s = 5 ∨ stOf s = 6 ∨ stOf s = 7 ∨ stOf s = 8 ∨ stOf s = 9 ∨ stOf s = 10 ∨ stOf s = 11 ∨ stOf s = 12 ∨ stOf s = 13 ∨ stOf s = 14 ∨ stOf s = 15 := by
 unfold stOf
 rcases hf : (List.range 16).find? fun k => decide (stW.getD k noB ≠ noB) && decide (stW.getD k noB = s) with _ | j
 ·exact .inl rfl
 ·have hj := List.find?_some hf
  have hj2 : j < 16 := by simpa using List.mem_of_find?_eq_some hf
  simp only [Bool.and_eq_true, decide_eq_true_eq] at hj
  have hall : ∀ a, a < 16 → stW.getD a noB ≠ noB → a = 0 ∨ a = 1 ∨ a = 4 ∨ a = 5 ∨ a = 6 ∨ a = 7 ∨ a = 8 ∨ a = 9 ∨ a = 10 ∨ a = 11 ∨ a = 12 ∨ a = 13 ∨ a = 14 ∨ a = 15 := by decide
  exact hall j hj2 hj.1
theorem kwOf_mem (T : List Wd) (i : Nat) : kwOf T i = 0 ∨ kwOf T i = 1 ∨ kwOf T i = 4 ∨ kwOf T i = 5 ∨ kwOf T i = 6 ∨ kwOf T i = 7 ∨ kwOf T i = 8 ∨ kwOf T i = 9 ∨ kwOf T i = 10 ∨ kwOf T i = 11 ∨ kwOf T i = 12 ∨ kwOf T i = 13 ∨ kwOf T i = 14 ∨ kwOf T i = 15 := by
 unfold kwOf
 split
 ·exact stOf_mem _
 ·exact .inl rfl
theorem kwOf_lt {T : List Wd} {i : Nat} (h : kwOf T i ≠ 0) : i < T.length := by
 unfold kwOf at h
 split at h
 ·rename_i h3
  exact kind_lt T (i := i) (by rw [h3]; decide)
 ·exact absurd rfl h
set_option maxRecDepth 100000 in
set_option maxHeartbeats 4000000 in
theorem ds_tail {w V : World} {b sb k f : Nat} {S : Src} {li co : Int} (hB : ∀ bd, DB b S f bd) (hne : pS S.T (f + 1) k ≠ none) (hp : plOf S.T k = (li, co)) (h : Ds w b sb S V k false (mkSt (kwOf S.T k : Nat) (li, co) noB noB zEx zEx [] [])) {u1 u4 u5 u6 u7 u8 u9 u10 u11 u12 u13 u14 u15 u16 u17 u18 u19 u20 u21 u22 u23 u24 u25 u26 u27 u28 u29 u30 u31 u32 u33 u34 u35 u36 u37 u38 u39 u40 u41 u42 u43 u44 u45 u46 u47 u48 u49 u50 u51 u52 u53 u54 u55 u56 u57 u58 u59 u60 u61 u62 u63 u64 u65 u66 u67 u68 u69 u70 u71 u72 u73 u74 u75 u76 u77 u78 u79 u80 u81 u82 u83 u84 u85 u86 u87 u88 u89 u90 u91 u92 u93 u94 u95 u96 u97 u98 u99 u100 u101 u102 u103 u104 u105 u106 u107 u108 u109 u110 u111 u112 : Value} :
  Code.wp Tryz.prog (dropS 4 (Tryz.f124.body.getD .skip)) (bodyPost Tryz.prog Tryz.f124 (DSk w b S k (pS S.T (f + 1) k))) ⟨#[.pointer (some ⟨b, 0, none⟩), u1, .pointer (some ⟨w.heap.size, 0, none⟩), .pointer (some ⟨sb, 0, none⟩), u4, u5, u6, u7, u8, u9, u10, u11, u12, u13, u14, u15, u16, u17, u18, u19, u20, u21, u22, u23, u24, u25, u26, u27, u28, u29, u30, u31, u32, u33, u34, u35, u36, u37, u38, u39, u40, u41, u42, u43, u44, u45, u46, u47, u48, u49, u50, u51, u52, u53, u54, u55, u56, u57, u58, u59, u60, u61, u62, u63, u64, u65, u66, u67, u68, u69, u70, u71, u72, u73, u74, u75, u76, u77, u78, u79, u80, u81, u82, u83, u84, u85, u86, u87, u88, u89, u90, u91, u92, u93, u94, u95, u96, u97, u98, u99, u100, u101, u102, u103, u104, u105, u106, u107, u108, u109, u110, u111, u112], []⟩ V := by
 rw [pS_kw, hp] at hne ⊢
 have hlt := kwOf_lt (T := S.T) (i := k)
 rcases kwOf_mem S.T k with e | e | e | e | e | e | e | e | e | e | e | e | e | e <;> rw [e] at h hne hlt ⊢
 ·rw [if_pos rfl] at hne ⊢
  exact dsA h
 ·rw [if_neg (by decide), if_neg (by decide), if_neg (by decide)] at hne ⊢
  exact ds1 (hlt (by decide)) h
 ·rw [if_neg (by decide), if_neg (by decide), if_pos rfl] at hne ⊢
  exact ds4 (hlt (by decide)) hB hne h
 ·rw [if_neg (by decide), if_pos rfl] at hne ⊢
  exact ds5 (hlt (by decide)) hB hne h
 ·rw [if_neg (by decide), if_neg (by decide), if_neg (by decide)] at hne ⊢
  exact ds6 (hlt (by decide)) h
 ·rw [if_neg (by decide), if_neg (by decide), if_neg (by decide)] at hne ⊢
  exact ds7 (hlt (by decide)) h
 ·rw [if_neg (by decide), if_neg (by decide), if_neg (by decide)] at hne ⊢
  exact ds8 (hlt (by decide)) h
 ·rw [if_neg (by decide), if_neg (by decide), if_neg (by decide)] at hne ⊢
  exact ds9 (hlt (by decide)) h
 ·rw [if_neg (by decide), if_neg (by decide), if_neg (by decide)] at hne ⊢
  exact ds10 (hlt (by decide)) h
 ·rw [if_neg (by decide), if_neg (by decide), if_neg (by decide)] at hne ⊢
  exact ds11 (hlt (by decide)) h
 ·rw [if_neg (by decide), if_neg (by decide), if_neg (by decide)] at hne ⊢
  exact ds12 (hlt (by decide)) h
 ·rw [if_neg (by decide), if_neg (by decide), if_neg (by decide)] at hne ⊢
  exact ds13 (hlt (by decide)) h
 ·rw [if_neg (by decide), if_neg (by decide), if_neg (by decide)] at hne ⊢
  exact ds14 (hlt (by decide)) h
 ·rw [if_neg (by decide), if_neg (by decide), if_neg (by decide)] at hne ⊢
  exact ds15 (hlt (by decide)) h
theorem noB_list : noB.toList = [] := by
 unfold noB
 rw [ByteArray.toList_eq]
theorem stV_get {i : Nat} (h : i < 16) : stV[i]? = some (.string (stW.getD i noB)) := by
 have : ∀ i, i < 16 → stV[i]? = some (.string (stW.getD i noB)) := by
  intro i hi
  unfold stV
  rw [List.getElem?_map, List.getD_eq_getElem?_getD]
  have hl : i < stW.length := hi
  rw [List.getElem?_eq_getElem hl]
  rfl
 exact this i h
set_option maxRecDepth 100000 in
set_option maxHeartbeats 8000000 in
theorem ds_loop {w V : World} {b sb g k f : Nat} {S : Src} {li co : Int} (hB : ∀ bd, DB b S f bd) (hne : pS S.T (f + 1) k ≠ none) (hp : plOf S.T k = (li, co)) (hg : Blk V g 9 stV) (hgs : g ≠ sb)
  (h : Ds w b sb S V k false (mkSt 0 (li, co) noB noB zEx zEx [] [])) {u1 u5 u6 u7 u8 u9 u10 u11 u12 u13 u14 u15 u16 u17 u18 u19 u20 u21 u22 u23 u24 u25 u26 u27 u28 u29 u30 u31 u32 u33 u34 u35 u36 u37 u38 u39 u40 u41 u42 u43 u44 u45 u46 u47 u48 u49 u50 u51 u52 u53 u54 u55 u56 u57 u58 u59 u60 u61 u62 u63 u64 u65 u66 u67 u68 u69 u70 u71 u72 u73 u74 u75 u76 u77 u78 u79 u80 u81 u82 u83 u84 u85 u86 u87 u88 u89 u90 u91 u92 u93 u94 u95 u96 u97 u98 u99 u100 u101 u102 u103 u104 u105 u106 u107 u108 u109 u110 u111 u112 : Value} :
  Code.wp Tryz.prog (dropS 3 (Tryz.f124.body.getD .skip)) (bodyPost Tryz.prog Tryz.f124 (DSk w b S k (pS S.T (f + 1) k))) ⟨#[.pointer (some ⟨b, 0, none⟩), u1, .pointer (some ⟨w.heap.size, 0, none⟩), .pointer (some ⟨sb, 0, none⟩), .slice (some ⟨g, 0, none⟩) 16 16, u5, u6, u7, u8, u9, u10, u11, u12, u13, u14, u15, u16, u17, u18, u19, u20, u21, u22, u23, u24, u25, u26, u27, u28, u29, u30, u31, u32, u33, u34, u35, u36, u37, u38, u39, u40, u41, u42, u43, u44, u45, u46, u47, u48, u49, u50, u51, u52, u53, u54, u55, u56, u57, u58, u59, u60, u61, u62, u63, u64, u65, u66, u67, u68, u69, u70, u71, u72, u73, u74, u75, u76, u77, u78, u79, u80, u81, u82, u83, u84, u85, u86, u87, u88, u89, u90, u91, u92, u93, u94, u95, u96, u97, u98, u99, u100, u101, u102, u103, u104, u105, u106, u107, u108, u109, u110, u111, u112], []⟩ V := by
 conv in (dropS _ _) => whnf
 refine wp_seq_k fun K hK => ?_
 have HK := Lib.hid hK
 clear hK
 have HE : Hid (Ds w b sb S V k false (mkSt (if kwOf S.T k < 1 then kwOf S.T k else 0 : Nat) (li, co) noB noB zEx zEx [] []) ∧ Blk V g 9 stV) := Lib.hid (And.intro (by
  rw [show (if kwOf S.T k < 1 then kwOf S.T k else 0) = 0 by split <;> omega]
  exact h) hg)
 clear h hg
 go_wp2_with fail
 go_loopg [5] 15 (fun x iv wr => ∃ i : Nat, 1 ≤ i ∧ i ≤ 16 ∧ x = 16 - i ∧ iv = .int .i64 (i : Int) ∧ Hid (Ds w b sb S wr k false (mkSt (if kwOf S.T k < i then kwOf S.T k else 0 : Nat) (li, co) noB noB zEx zEx [] []) ∧ Blk wr g 9 stV))
 case atStart => exact ⟨1, Nat.le_refl _, by decide, rfl, rfl, HE⟩
 case round =>
  clear HE
  obtain ⟨i, h1i, hi, rfl, rfl, HE⟩ := hrel
  by_cases hiN : i < 16
  ·have hlt : (i : Int) < 16 := by omega
   have hp0 : (0 : Int) ≤ (i : Int) := by omega
   obtain ⟨hQ, hg⟩ := HE.out
   have gi := hg.cell i
   rw [stV_get hiN] at gi
   have hkw := kw_iff hQ.r.k5 hQ.r.le i hiN h1i
   obtain ⟨s, hs⟩ : ∃ s, stW.getD i noB = s := ⟨_, rfl⟩
   rw [hs] at gi hkw
   rcases neOr s noB with hsn | hsn
   ·have hs2 : ¬ s.toList = [] := fun e => hsn (toListInj (e.trans noB_list.symm))
    have hs3 : s.toList.isEmpty = false := by
     cases h : s.toList
     ·exact absurd h hs2
     ·rfl
    have hpi := ris_any hQ.r s
    obtain ⟨m, hm⟩ : ∃ m, isT S.T k s = m := ⟨_, rfl⟩
    rw [hm] at hpi hkw
    rw [decide_eq_true hsn, Bool.true_and] at hkw
    have HKW := Lib.hid hkw
    clear hQ hg hkw hm
    go_wp2_with fail
    refine hpi.mono ?_
    rintro e W2 ⟨rfl, hb2⟩
    obtain ⟨hQ, hg⟩ := HE.out
    have q2 := hQ.call (kp_same (b := b) hb2) (hQ.r.below hb2)
    have hg2 := hg.below hb2
    clear hQ hg hb2 hpi HE gi
    cases m
    ·have HE2 : Hid (Ds w b sb S W2 k false (mkSt (if kwOf S.T k < i + 1 then kwOf S.T k else 0 : Nat) (li, co) noB noB zEx zEx [] []) ∧ Blk W2 g 9 stV) := Lib.hid (And.intro (by
      have hne2 : kwOf S.T k ≠ i := by simpa using HKW.out.symm
      rw [show (if kwOf S.T k < i + 1 then kwOf S.T k else 0) = (if kwOf S.T k < i then kwOf S.T k else 0) by split <;> split <;> omega]
      exact q2) hg2)
     clear q2 hg2 HKW
     go_wp2_with fail
     go_roundg (16 - (i + 1))
     case measure => omega
     case rel => exact ⟨i + 1, by omega, by omega, rfl, rfl, HE2⟩
    ·have heq : kwOf S.T k = i := by simpa using HKW.out.symm
     obtain ⟨v0, c0⟩ := q2.s.cell (j := 0) (by decide)
     have f0 := q2.s.frozen 0
     have q3 := q2.kind (i : Int)
     have HE2 : Hid (Ds w b sb S (W2.setCell ⟨sb, 0, none⟩ (.int .i64 (i : Int))) k false (mkSt (if kwOf S.T k < i + 1 then kwOf S.T k else 0 : Nat) (li, co) noB noB zEx zEx [] []) ∧ Blk (W2.setCell ⟨sb, 0, none⟩ (.int .i64 (i : Int))) g 9 stV) := Lib.hid (And.intro (by
      rw [show (if kwOf S.T k < i + 1 then kwOf S.T k else 0) = i by rw [if_pos (by omega), heq]]
      exact q3) (hg2.of (Below.heap_setCell W2 ⟨sb, 0, none⟩ _ _ hgs)))
     clear q2 hg2 HKW q3 heq
     go_wp2_with fail
     go_roundg (16 - (i + 1))
     case measure => omega
     case rel => exact ⟨i + 1, by omega, by omega, rfl, rfl, HE2⟩
   ·have hs2 : s.toList.isEmpty = true := by rw [hsn, noB_list]; rfl
    have HE2 : Hid (Ds w b sb S wr k false (mkSt (if kwOf S.T k < i + 1 then kwOf S.T k else 0 : Nat) (li, co) noB noB zEx zEx [] []) ∧ Blk wr g 9 stV) := Lib.hid (And.intro (by
     have hne2 : kwOf S.T k ≠ i := by
      rw [hsn] at hkw
      simpa using hkw.symm
     rw [show (if kwOf S.T k < i + 1 then kwOf S.T k else 0) = (if kwOf S.T k < i then kwOf S.T k else 0) by split <;> split <;> omega]
     exact hQ) hg)
    clear hQ hg hkw HE hsn hs
    go_wp2_with fail
    go_roundg (16 - (i + 1))
    case measure => omega
    case rel => exact ⟨i + 1, by omega, by omega, rfl, rfl, HE2⟩
  ·obtain rfl : i = 16 := by omega
   have h16 : Ds w b sb S wr k false (mkSt (kwOf S.T k : Nat) (li, co) noB noB zEx zEx [] []) := by
    have := HE.out.1
    have hlt : kwOf S.T k < 16 := by rcases kwOf_mem S.T k with e | e | e | e | e | e | e | e | e | e | e | e | e | e <;> omega
    rwa [if_pos hlt] at this
   clear HE
   go_wp2_with fail
   exact HK.out _ _ (ds_tail hB hne hp h16)
set_option maxRecDepth 100000 in
set_option maxHeartbeats 8000000 in
theorem rstmt_step {b : Nat} {S : Src} {f : Nat} (hB : ∀ bd, DB b S f bd) : DS b S (f + 1) := by
 intro w k h hne
 have hbw := h.lt
 have h0 := h.alloc (.cells zSt 64)
 have hz0 : Blk (w.alloc (.cells zSt 64)) w.heap.size 64 zSt.toList := World.alloc_heap_new _ _
 have hk0 : Kp w (w.alloc (.cells zSt 64)) b b := (Kp.refl w b b).alloc _
 have hsz0 : (w.alloc (.cells zSt 64)).heap.size = w.heap.size + 1 := by simp
 have hp := rpos_any h0
 obtain ⟨⟨li, co⟩, hpl⟩ : ∃ p, plOf S.T k = p := ⟨_, rfl⟩
 rw [hpl] at hp
 have HH := Lib.hid h
 clear h
 go_enter Tryz.func124, Tryz.ntmps124
 refine wp_seq_k fun K0 hK0 => ?_
 have HK0 := Lib.hid hK0
 clear hK0
 go_wp2_with fail
 refine HK0.out _ _ ?_
 clear HK0 K0
 refine wp_seq_k fun K1 hK1 => ?_
 have HK1 := Lib.hid hK1
 clear hK1
 have HF := Lib.hid (And.intro h0 (And.intro hz0 hk0))
 clear h0 hz0 hk0
 go_wp2_with fail
 refine hp.mono ?_
 rintro e W1 ⟨rfl, hb1⟩
 obtain ⟨h0, hz0, hk0⟩ := HF.out
 have h1 := h0.below hb1
 have hz1 := hz0.below hb1
 have hK1 := hk0.trans (kp_same (b := b) hb1)
 have hs1 := hb1.size
 rw [hsz0] at hs1
 clear h0 hz0 hk0 hb1 hp hsz0 HF
 have h2 := h1.alloc (.cells (freshC li co).toArray 64)
 have hz2 := hz1.alloc (.cells (freshC li co).toArray 64)
 have hK2 := hK1.alloc (.cells (freshC li co).toArray 64)
 have hs2 := Sb.fresh (w.heap.size + 1) W1 li co
 have hsz2 : (W1.alloc (.cells (freshC li co).toArray 64)).heap.size = W1.heap.size + 1 := by simp
 have HE := Lib.hid (And.intro h2 (And.intro hz2 (And.intro hK2 (And.intro hs2 hsz2))))
 clear h2 hz2 hK2 hs2 h1 hz1 hK1 hsz2
 go_wp2_with ((with_reducible show wpList _ _ _ (Oper.mk none (.store 64 _ _) _ _ _ _ :: _) _ _); refine wpList_store_fresh info64 rfl (.tmp 3) (.tmp 9) rfl W1 zSt.toList (freshC li co) rfl rfl rfl (freshC_one li co) _ rfl rfl rfl ?_)
 obtain ⟨h2, hz2, hK2, hs2, hsz2⟩ := HE.out
 clear HE
 obtain ⟨sb, hsb⟩ : ∃ sb, W1.heap.size = sb := ⟨_, rfl⟩
 rw [hsb] at hs2 hsz2 ⊢
 generalize W1.alloc (.cells (freshC li co).toArray 64) = W2 at *
 have hQ : Ds w b sb S W2 k false (mkSt 0 (li, co) noB noB zEx zEx [] []) := ⟨hs2, h2, hK2, hz2, ⟨_, _, HH.out⟩, by omega⟩
 have HE := Lib.hid hQ
 clear h2 hz2 hK2 hs2 hQ
 refine HK1.out _ _ ?_
 clear HK1 K1
 refine wp_seq_k fun K2 hK2 => ?_
 have HK2 := Lib.hid hK2
 clear hK2
 go_wp2_with fail
 refine (rkinds_any W2).mono ?_
 rintro e W3 ⟨g, rfl, hg, hgb, hb3⟩
 have hQ := HE.out
 have hQ3 := hQ.call (kp_same (b := b) hb3) (hQ.r.below hb3)
 have hgs : g ≠ sb := by omega
 clear HE hQ hb3
 go_wp2_with fail
 exact HK2.out _ _ (ds_loop hB hne hpl hgb hgs hQ3)
theorem rstmt_all (b : Nat) (S : Src) (f : Nat) : DS b S f := by
 induction f using Nat.strongRecOn with
 | _ f ih =>
  cases f with
  | zero =>
   intro w k h hne
   exact absurd (pS_zero S.T k) hne
  | succ f => exact rstmt_step fun bd => rblock_step fun g hg => ih g (Nat.lt_succ_of_lt hg)
theorem rblock_any (b : Nat) (S : Src) (f : Nat) (bad : Bool) : DB b S f bad := rblock_step fun g _ => rstmt_all b S g
end Go.Proofs.YtjmlmelcppbefaaGreatDoor
