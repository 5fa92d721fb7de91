/- What the syntax texts share, part 41. No condition. -/
import Derived.Test.YtjmlmelcppbefaaGreatDoorT01
import Derived.Test.YtjmlmelcppbefaaGreatDoorT10
import Derived.Test.YtjmlmelcppbefaaGreatDoorX1
import Derived.Test.YtjmlmelcppbefaaGreatDoorT40
set_option maxRecDepth 100000
namespace Go.Proofs.YtjmlmelcppbefaaGreatDoor
open Go.RowKit Go.Maps
theorem isE_eq (s : ByteArray) : s.toList.isEmpty = decide (s = noB) := by
 by_cases h : s = noB
 ·subst h
  rw [noB_list]
  rfl
 ·rw [decide_eq_false h]
  cases h2 : s.toList
  ·exact absurd (toListInj (h2.trans noB_list.symm)) h
  ·rfl
theorem nameMay_any (s : ByteArray) (nd : Bool) (w : World) (hs : s.size ≤ 9223372036854775807) : Calls Tryz.prog 102 #[.string s, .bool nd] w fun e w' => e = .returned (.bool (if nd = true then isName s else decide (s = noB))) ∧ Below w.heap.size w w' := by
 cases nd
 ·rw [if_neg Bool.false_ne_true, ← isE_eq]
  go_enter Tryz.func102, Tryz.ntmps102
  go_wp2_with fail
  go_ret
  exact ⟨rfl, Below.refl _ w⟩
 ·rw [if_pos rfl]
  have hn := name_any s w hs
  go_enter Tryz.func102, Tryz.ntmps102
  go_wp2_with fail
  refine hn.mono ?_
  rintro e w1 ⟨rfl, hb⟩
  go_wp2_with fail
  go_ret
  exact ⟨rfl, hb⟩
theorem ExAt.below {w w' : World} {b off : Nat} {x : Ex} (h : ExAt w b off x) (hb : Below w.heap.size w w') : ExAt w' b off x := by
 obtain ⟨cs, h1, h2⟩ := h
 exact ⟨cs, fun j v hv => (by
  have := h1 j v hv
  rw [← this]
  simp [World.cell?, hb.block b (World.block_lt_of_cell? w _ this)]), h2.below hb⟩
theorem ExAt.all {w : World} {b off : Nat} {k n : Int} {s : ByteArray} {sl : Int} {lo : Bool} {op : Int} {args : List Ex} (h : ExAt w b off (.mk k n s sl lo op args)) :
  w.cell? ⟨b, off, none⟩ = some (.int .i64 k) ∧ w.cell? ⟨b, off + 1, none⟩ = some (.int .i64 n) ∧ w.cell? ⟨b, off + 2, none⟩ = some (.string s) ∧ w.cell? ⟨b, off + 5, none⟩ = some (.int .i64 op) := by
 obtain ⟨cs, h1, h2⟩ := h
 unfold ExL at h2
 obtain ⟨a, cap, rfl, -⟩ := h2
 exact ⟨h1 0 _ rfl, h1 1 _ rfl, h1 2 _ rfl, h1 5 _ rfl⟩
def EmOk (d : Nat) : Prop := ∀ (x : Ex) (b off : Nat) (w : World), ExAt w b off x → x.nb → Calls Tryz.prog 51 #[.pointer (some ⟨b, off, none⟩), .int .i64 (d : Int)] w fun e w' => e = .returned (.bool (exR isName x d)) ∧ Below w.heap.size w w'
set_option maxHeartbeats 8000000 in
theorem em_tail {w V : World} {b off d ar : Nat} {k n : Int} {s : ByteArray} {sl : Int} {lo : Bool} {op : Int} {args : List Ex} (hd : d ≤ 24) (har : ar ≤ 2) (ih : EmOk d) (hb : Below w.heap.size w V) (h : ExAt V b off (.mk k n s sl lo op args)) (hnb : Ex.nbs args) {u2 u3 u4 u6 u7 u8 u9 u10 u11 u12 u13 u14 u15 u16 u17 u18 u19 u20 u21 u22 u23 u24 u25 u26 u27 u28 u29 u30 u31 u32 u33 u34 u35 u36 u37 u38 u39 u40 u41 u42 u43 u44 u45 u46 u47 u48 u49 u50 u51 u52 u53 u54 u55 u56 u57 u58 u59 u60 u61 u62 u63 u64 u65 u66 u67 u68 u69 u70 u71 u72 u73 u74 u75 u76 u77 u78 u79 u80 u81 u82 u83 u84 u85 u86 u87 u88 u89 u90 u91 u92 u93 u94 u95 u96 u97 u98 u99 u100 u101 u102 u103 u104 u105 u106 u107 u108 u109 u110 u111 u112 u113 u114 u115 u116 u117 u118 : Value} :
  Code.wp Tryz.prog (dropS 5 (Tryz.f51.body.getD .skip)) (bodyPost Tryz.prog Tryz.f51 (fun e w' => e = .returned (.bool (decide (args.length = ar) && exsR isName args d)) ∧ Below w.heap.size w w')) ⟨#[.pointer (some ⟨b, off, none⟩), .int .i64 ((d + 1 : Nat) : Int), u2, u3, u4, .int .i64 (ar : Int), u6, u7, u8, u9, u10, u11, u12, u13, u14, u15, u16, u17, u18, u19, u20, u21, u22, u23, u24, u25, u26, u27, u28, u29, u30, u31, u32, u33, u34, u35, u36, u37, u38, u39, u40, u41, u42, u43, u44, u45, u46, u47, u48, u49, u50, u51, u52, u53, u54, u55, u56, u57, u58, u59, u60, u61, u62, u63, u64, u65, u66, u67, u68, u69, u70, u71, u72, u73, u74, u75, u76, u77, u78, u79, u80, u81, u82, u83, u84, u85, u86, u87, u88, u89, u90, u91, u92, u93, u94, u95, u96, u97, u98, u99, u100, u101, u102, u103, u104, u105, u106, u107, u108, u109, u110, u111, u112, u113, u114, u115, u116, u117, u118], []⟩ V := by
 obtain ⟨a, cap, c6, hcap, -⟩ := h.args
 obtain ⟨N, hN⟩ : ∃ N, args.length = N := ⟨_, rfl⟩
 obtain ⟨R, hR⟩ : ∃ R, exsR isName (args.drop 0) d = R := ⟨_, rfl⟩
 rw [show exsR isName args d = R from hR]
 rw [hN] at c6 hcap ⊢
 have HN := Lib.hid hN
 have HR := Lib.hid hR
 have HE := Lib.hid (And.intro hb h)
 have HB := Lib.hid hnb
 clear hN hR h hnb
 rcases neOr N ar with hk | hk
 ·rw [decide_eq_false hk, Bool.false_and]
  conv in (dropS _ _) => whnf
  have hk2 : ¬ (N : Int) = (ar : Int) := by omega
  go_wp2_with fail
  go_ret
  exact ⟨rfl, hb⟩
 subst hk
 rw [decide_eq_true rfl, Bool.true_and]
 conv in (dropS _ _) => whnf
 clear hb
 go_wp2_with fail
 clear c6
 go_loopg [105] N (fun x iv wr => ∃ i : Nat, i ≤ N ∧ x = N - i ∧ iv = .int .i64 (i : Int) ∧ Hid (Below w.heap.size w wr ∧ ExAt wr b off (.mk k n s sl lo op args)) ∧ Hid (exsR isName (args.drop i) d = R))
 case atStart => exact ⟨0, Nat.zero_le _, rfl, rfl, HE, HR⟩
 case round =>
  clear HE HR
  obtain ⟨i, hi, rfl, rfl, HE, HR⟩ := hrel
  obtain ⟨hb1, h1⟩ := HE.out
  obtain ⟨a1, cap1, c6, hcap1, hat⟩ := h1.args
  rw [HN.out] at c6 hcap1 hat
  by_cases hiN : i < N
  ·have hlt : (i : Int) < (N : Int) := by omega
   have hp0 : (0 : Int) ≤ (i : Int) := by omega
   have hroom : (i : Int) + 1 ≤ 9223372036854775807 := by omega
   obtain ⟨b2, off2, rfl, hx⟩ := hat i hiN
   have hxn := Ex.nbs_at HB.out (j := i) (by rw [HN.out]; exact hiN)
   have hcl := ih (args.getD i zEx) b2 (off2 + i * 7) wr hx hxn
   have hde : (((d + 1 : Nat) : Int) - 1) = (d : Int) := by omega
   have hR := HR.out
   rw [exsR_drop (by rw [HN.out]; exact hiN)] at hR
   obtain ⟨m, hm⟩ : ∃ m, exR isName (args.getD i zEx) d = m := ⟨_, rfl⟩
   rw [hm] at hcl hR
   have HR2 := Lib.hid hR
   clear hx hxn hat hm hR HR
   go_wp2_with fail
   refine hcl.mono ?_
   rintro e w2 ⟨rfl, hb2⟩
   have hb3 := hb1.trans (hb2.mono hb1.size)
   cases m
   ·have hRf : R = false := HR2.out.symm
    subst hRf
    clear HE hcl c6 h1 hb1 hb2
    go_wp2_with fail
    go_ret
    exact ⟨rfl, hb3⟩
   ·have HR3 : Hid (exsR isName (args.drop (i + 1)) d = R) := Lib.hid HR2.out
    have HE3 := Lib.hid (And.intro hb3 (h1.below hb2))
    clear HE hcl c6 h1 hb1 hb2 hb3 HR2
    go_wp2_with fail
    go_roundg (N - (i + 1))
    case measure => omega
    case rel => exact ⟨i + 1, by omega, rfl, rfl, HE3, HR3⟩
  ·obtain rfl : i = N := by omega
   have hlt : ¬ (i : Int) < (i : Int) := by omega
   have hRt : R = true := by
    rw [← HR.out, List.drop_eq_nil_of_le (by rw [HN.out]; exact Nat.le_refl _)]
    rfl
   subst hRt
   clear h1 HE hat c6
   go_wp2_with fail
   go_ret
   exact ⟨rfl, hb1⟩
set_option maxHeartbeats 8000000 in
theorem em_1 {w : World} {b off d : Nat} {n : Int} {s : ByteArray} {sl : Int} {lo : Bool} {op : Int} {args : List Ex} (hd : d ≤ 24) (ih : EmOk d) (h : ExAt w b off (.mk 1 n s sl lo op args)) (hs : s.size ≤ 9223372036854775807) (hnb : Ex.nbs args) :
  Calls Tryz.prog 51 #[.pointer (some ⟨b, off, none⟩), .int .i64 ((d + 1 : Nat) : Int)] w fun e w' => e = .returned (.bool (exR isName (.mk 1 n s sl lo op args) (d + 1))) ∧ Below w.heap.size w w' := by
 obtain ⟨R, hR⟩ : ∃ R, exR isName (.mk 1 n s sl lo op args) (d + 1) = R := ⟨_, rfl⟩
 rw [hR]
 rw [exR_eq] at hR
 have hd1 : ¬ ((d + 1 : Nat) : Int) < 1 := by omega
 obtain ⟨c0, c1, c2, c5⟩ := h.all
 rcases neOr op 0 with ho | ho
 ·have hRf : R = false := by
   rw [← hR]
   simp [ho]
  have ho2 : (op != 0) = true := by simpa using ho
  subst hRf
  go_enter Tryz.func51, Tryz.ntmps51
  go_wp2_with fail
  go_ret
  exact ⟨rfl, Below.refl _ w⟩
 subst ho
 obtain ⟨mn, hmn⟩ : ∃ mn, decide (s = noB) = mn := ⟨_, rfl⟩
 have HM := Lib.hid hmn
 cases mn
 ·have hRf : R = false := by
   rw [← hR]
   have hmn2 := of_decide_eq_false hmn
   simp [hmn2]
  subst hRf
  clear hmn
  have hcl := nameMay_any s false w.drew hs
  have hb0 : Below w.heap.size w w.drew := (Below.refl _ w).drew
  go_enter Tryz.func51, Tryz.ntmps51
  refine wp_seq_k fun K hK => ?_
  have HK := Lib.hid hK
  clear hK
  go_wp2_with fail
  refine HK.out _ _ ?_
  clear HK K
  refine wp_seq_k fun K hK => ?_
  have HK := Lib.hid hK
  clear hK
  go_wp2_with fail
  refine HK.out _ _ ?_
  clear HK K
  refine wp_seq_k fun K hK => ?_
  have HK := Lib.hid hK
  clear hK
  go_wp2_with fail
  refine wp_region_quiet_tail 16 (by kernel_rfl) (by kernel_rfl) ?_
  simp only [List.take_succ_cons, List.take_zero, List.drop_succ_cons, List.drop_zero]
  repeat (go_big_quiet_step (fail))
  refine wpQuiet_nil ?_
  go_wp2_with fail
  refine hcl.mono ?_
  rintro e w1 ⟨rfl, hb1⟩
  have hb2 : Below w.heap.size w w1 := hb0.trans (hb1.mono hb0.size)
  have h2 := h.below hb2
  clear hcl hb0 hb1 c0 c1 c2 c5
  simp only [Bool.false_eq_true, if_false, HM.out]
  go_wp2_with fail
  go_ret
  exact ⟨rfl, hb2⟩
 by_cases hr0 : n < 0
 ·have hRf : R = false := by
   rw [← hR]
   have hko : kindOk 1 n 0 = false := by
    unfold kindOk
    rw [if_pos rfl]
    rw [decide_eq_false (by omega), Bool.false_and]
   simp [hko]
  subst hRf
  clear hmn
  have hcl := nameMay_any s false w.drew hs
  have hb0 : Below w.heap.size w w.drew := (Below.refl _ w).drew
  go_enter Tryz.func51, Tryz.ntmps51
  refine wp_seq_k fun K hK => ?_
  have HK := Lib.hid hK
  clear hK
  go_wp2_with fail
  refine HK.out _ _ ?_
  clear HK K
  refine wp_seq_k fun K hK => ?_
  have HK := Lib.hid hK
  clear hK
  go_wp2_with fail
  refine HK.out _ _ ?_
  clear HK K
  refine wp_seq_k fun K hK => ?_
  have HK := Lib.hid hK
  clear hK
  go_wp2_with fail
  refine wp_region_quiet_tail 16 (by kernel_rfl) (by kernel_rfl) ?_
  simp only [List.take_succ_cons, List.take_zero, List.drop_succ_cons, List.drop_zero]
  repeat (go_big_quiet_step (fail))
  refine wpQuiet_nil ?_
  go_wp2_with fail
  refine hcl.mono ?_
  rintro e w1 ⟨rfl, hb1⟩
  have hb2 : Below w.heap.size w w1 := hb0.trans (hb1.mono hb0.size)
  have h2 := h.below hb2
  clear hcl hb0 hb1 c0 c1 c2 c5
  simp only [Bool.false_eq_true, if_false, HM.out]
  go_wp2_with fail
  refine HK.out _ _ ?_
  clear HK K
  refine wp_seq_k fun K hK => ?_
  have HK := Lib.hid hK
  clear hK
  go_wp2_with fail
  refine HK.out _ _ ?_
  clear HK K
  obtain ⟨c0, c1, c2, c5⟩ := h2.all
  clear h h2
  go_wp2_with fail
  go_ret
  exact ⟨rfl, hb2⟩
 by_cases hr1 : 2147483647 < n
 ·have hRf : R = false := by
   rw [← hR]
   have hko : kindOk 1 n 0 = false := by
    unfold kindOk
    rw [if_pos rfl]
    rw [decide_eq_false (p := n ≤ 2147483647) (by omega), Bool.and_false]
   simp [hko]
  subst hRf
  clear hmn
  have hcl := nameMay_any s false w.drew hs
  have hb0 : Below w.heap.size w w.drew := (Below.refl _ w).drew
  go_enter Tryz.func51, Tryz.ntmps51
  refine wp_seq_k fun K hK => ?_
  have HK := Lib.hid hK
  clear hK
  go_wp2_with fail
  refine HK.out _ _ ?_
  clear HK K
  refine wp_seq_k fun K hK => ?_
  have HK := Lib.hid hK
  clear hK
  go_wp2_with fail
  refine HK.out _ _ ?_
  clear HK K
  refine wp_seq_k fun K hK => ?_
  have HK := Lib.hid hK
  clear hK
  go_wp2_with fail
  refine wp_region_quiet_tail 16 (by kernel_rfl) (by kernel_rfl) ?_
  simp only [List.take_succ_cons, List.take_zero, List.drop_succ_cons, List.drop_zero]
  repeat (go_big_quiet_step (fail))
  refine wpQuiet_nil ?_
  go_wp2_with fail
  refine hcl.mono ?_
  rintro e w1 ⟨rfl, hb1⟩
  have hb2 : Below w.heap.size w w1 := hb0.trans (hb1.mono hb0.size)
  have h2 := h.below hb2
  clear hcl hb0 hb1 c0 c1 c2 c5
  simp only [Bool.false_eq_true, if_false, HM.out]
  go_wp2_with fail
  refine HK.out _ _ ?_
  clear HK K
  refine wp_seq_k fun K hK => ?_
  have HK := Lib.hid hK
  clear hK
  go_wp2_with fail
  refine HK.out _ _ ?_
  clear HK K
  obtain ⟨c0, c1, c2, c5⟩ := h2.all
  clear h h2
  go_wp2_with fail
  go_ret
  exact ⟨rfl, hb2⟩
 have hRt : R = (decide (args.length = 0) && exsR isName args d) := by
  rw [← hR]
  have hko : kindOk 1 n 0 = true := by
   unfold kindOk
   rw [if_pos rfl, decide_eq_true (p := 0 ≤ n) (by omega), decide_eq_true (p := n ≤ 2147483647) (by omega)]
   rfl
  have hmm := of_decide_eq_true hmn
  simp [hko, arity, hmm]
 subst hRt
 clear hmn hR
 have hcl := nameMay_any s false w.drew hs
 have hb0 : Below w.heap.size w w.drew := (Below.refl _ w).drew
 go_enter Tryz.func51, Tryz.ntmps51
 refine wp_seq_k fun K hK => ?_
 have HK := Lib.hid hK
 clear hK
 go_wp2_with fail
 refine HK.out _ _ ?_
 clear HK K
 refine wp_seq_k fun K hK => ?_
 have HK := Lib.hid hK
 clear hK
 go_wp2_with fail
 refine HK.out _ _ ?_
 clear HK K
 refine wp_seq_k fun K hK => ?_
 have HK := Lib.hid hK
 clear hK
 go_wp2_with fail
 refine wp_region_quiet_tail 16 (by kernel_rfl) (by kernel_rfl) ?_
 simp only [List.take_succ_cons, List.take_zero, List.drop_succ_cons, List.drop_zero]
 repeat (go_big_quiet_step (fail))
 refine wpQuiet_nil ?_
 go_wp2_with fail
 refine hcl.mono ?_
 rintro e w1 ⟨rfl, hb1⟩
 have hb2 : Below w.heap.size w w1 := hb0.trans (hb1.mono hb0.size)
 have h2 := h.below hb2
 clear hcl hb0 hb1 c0 c1 c2 c5
 simp only [Bool.false_eq_true, if_false, HM.out]
 go_wp2_with fail
 refine HK.out _ _ ?_
 clear HK K
 refine wp_seq_k fun K hK => ?_
 have HK := Lib.hid hK
 clear hK
 go_wp2_with fail
 refine HK.out _ _ ?_
 clear HK K
 obtain ⟨c0, c1, c2, c5⟩ := h2.all
 refine wp_seq_k fun K hK => ?_
 have HK := Lib.hid hK
 clear hK
 go_wp2_with fail
 exact HK.out _ _ (em_tail (ar := 0) hd (by decide) ih hb2 h2 hnb)
set_option maxHeartbeats 8000000 in
theorem em_2 {w : World} {b off d : Nat} {n : Int} {s : ByteArray} {sl : Int} {lo : Bool} {op : Int} {args : List Ex} (hd : d ≤ 24) (ih : EmOk d) (h : ExAt w b off (.mk 2 n s sl lo op args)) (hs : s.size ≤ 9223372036854775807) (hnb : Ex.nbs args) :
  Calls Tryz.prog 51 #[.pointer (some ⟨b, off, none⟩), .int .i64 ((d + 1 : Nat) : Int)] w fun e w' => e = .returned (.bool (exR isName (.mk 2 n s sl lo op args) (d + 1))) ∧ Below w.heap.size w w' := by
 obtain ⟨R, hR⟩ : ∃ R, exR isName (.mk 2 n s sl lo op args) (d + 1) = R := ⟨_, rfl⟩
 rw [hR]
 rw [exR_eq] at hR
 have hd1 : ¬ ((d + 1 : Nat) : Int) < 1 := by omega
 obtain ⟨c0, c1, c2, c5⟩ := h.all
 rcases neOr n 0 with hn | hn
 ·have hRf : R = false := by
   rw [← hR]
   simp [hn]
  have hn2 : (n != 0) = true := by simpa using hn
  subst hRf
  go_enter Tryz.func51, Tryz.ntmps51
  go_wp2_with fail
  go_ret
  exact ⟨rfl, Below.refl _ w⟩
 subst hn
 rcases neOr op 0 with ho | ho
 ·have hRf : R = false := by
   rw [← hR]
   simp [ho]
  have ho2 : (op != 0) = true := by simpa using ho
  subst hRf
  go_enter Tryz.func51, Tryz.ntmps51
  go_wp2_with fail
  go_ret
  exact ⟨rfl, Below.refl _ w⟩
 subst ho
 obtain ⟨mn, hmn⟩ : ∃ mn, isName s = mn := ⟨_, rfl⟩
 have HM := Lib.hid hmn
 cases mn
 ·have hRf : R = false := by
   rw [← hR]
   simp [hmn]
  subst hRf
  clear hmn
  have hcl := nameMay_any s true w.drew hs
  have hb0 : Below w.heap.size w w.drew := (Below.refl _ w).drew
  go_enter Tryz.func51, Tryz.ntmps51
  refine wp_seq_k fun K hK => ?_
  have HK := Lib.hid hK
  clear hK
  go_wp2_with fail
  refine HK.out _ _ ?_
  clear HK K
  refine wp_seq_k fun K hK => ?_
  have HK := Lib.hid hK
  clear hK
  go_wp2_with fail
  refine HK.out _ _ ?_
  clear HK K
  refine wp_seq_k fun K hK => ?_
  have HK := Lib.hid hK
  clear hK
  go_wp2_with fail
  refine wp_region_quiet_tail 16 (by kernel_rfl) (by kernel_rfl) ?_
  simp only [List.take_succ_cons, List.take_zero, List.drop_succ_cons, List.drop_zero]
  repeat (go_big_quiet_step (fail))
  refine wpQuiet_nil ?_
  go_wp2_with fail
  refine hcl.mono ?_
  rintro e w1 ⟨rfl, hb1⟩
  have hb2 : Below w.heap.size w w1 := hb0.trans (hb1.mono hb0.size)
  have h2 := h.below hb2
  clear hcl hb0 hb1 c0 c1 c2 c5
  simp only [if_true, HM.out]
  go_wp2_with fail
  go_ret
  exact ⟨rfl, hb2⟩
 have hRt : R = (decide (args.length = 0) && exsR isName args d) := by
  rw [← hR]
  have hko : kindOk 2 0 0 = true := by
   unfold kindOk
   decide
  have hmm := hmn
  simp [hko, arity, hmm]
 subst hRt
 clear hmn hR
 have hcl := nameMay_any s true w.drew hs
 have hb0 : Below w.heap.size w w.drew := (Below.refl _ w).drew
 go_enter Tryz.func51, Tryz.ntmps51
 refine wp_seq_k fun K hK => ?_
 have HK := Lib.hid hK
 clear hK
 go_wp2_with fail
 refine HK.out _ _ ?_
 clear HK K
 refine wp_seq_k fun K hK => ?_
 have HK := Lib.hid hK
 clear hK
 go_wp2_with fail
 refine HK.out _ _ ?_
 clear HK K
 refine wp_seq_k fun K hK => ?_
 have HK := Lib.hid hK
 clear hK
 go_wp2_with fail
 refine wp_region_quiet_tail 16 (by kernel_rfl) (by kernel_rfl) ?_
 simp only [List.take_succ_cons, List.take_zero, List.drop_succ_cons, List.drop_zero]
 repeat (go_big_quiet_step (fail))
 refine wpQuiet_nil ?_
 go_wp2_with fail
 refine hcl.mono ?_
 rintro e w1 ⟨rfl, hb1⟩
 have hb2 : Below w.heap.size w w1 := hb0.trans (hb1.mono hb0.size)
 have h2 := h.below hb2
 clear hcl hb0 hb1 c0 c1 c2 c5
 simp only [if_true, HM.out]
 go_wp2_with fail
 refine HK.out _ _ ?_
 clear HK K
 refine wp_seq_k fun K hK => ?_
 have HK := Lib.hid hK
 clear hK
 go_wp2_with fail
 refine HK.out _ _ ?_
 clear HK K
 obtain ⟨c0, c1, c2, c5⟩ := h2.all
 refine wp_seq_k fun K hK => ?_
 have HK := Lib.hid hK
 clear hK
 go_wp2_with fail
 exact HK.out _ _ (em_tail (ar := 0) hd (by decide) ih hb2 h2 hnb)
set_option maxHeartbeats 8000000 in
theorem em_3 {w : World} {b off d : Nat} {n : Int} {s : ByteArray} {sl : Int} {lo : Bool} {op : Int} {args : List Ex} (hd : d ≤ 24) (ih : EmOk d) (h : ExAt w b off (.mk 3 n s sl lo op args)) (hs : s.size ≤ 9223372036854775807) (hnb : Ex.nbs args) :
  Calls Tryz.prog 51 #[.pointer (some ⟨b, off, none⟩), .int .i64 ((d + 1 : Nat) : Int)] w fun e w' => e = .returned (.bool (exR isName (.mk 3 n s sl lo op args) (d + 1))) ∧ Below w.heap.size w w' := by
 obtain ⟨R, hR⟩ : ∃ R, exR isName (.mk 3 n s sl lo op args) (d + 1) = R := ⟨_, rfl⟩
 rw [hR]
 rw [exR_eq] at hR
 have hd1 : ¬ ((d + 1 : Nat) : Int) < 1 := by omega
 obtain ⟨c0, c1, c2, c5⟩ := h.all
 rcases neOr n 0 with hn | hn
 ·have hRf : R = false := by
   rw [← hR]
   simp [hn]
  have hn2 : (n != 0) = true := by simpa using hn
  subst hRf
  go_enter Tryz.func51, Tryz.ntmps51
  go_wp2_with fail
  go_ret
  exact ⟨rfl, Below.refl _ w⟩
 subst hn
 rcases neOr op 0 with ho | ho
 ·have hRf : R = false := by
   rw [← hR]
   simp [ho]
  have ho2 : (op != 0) = true := by simpa using ho
  subst hRf
  go_enter Tryz.func51, Tryz.ntmps51
  go_wp2_with fail
  go_ret
  exact ⟨rfl, Below.refl _ w⟩
 subst ho
 obtain ⟨mn, hmn⟩ : ∃ mn, isName s = mn := ⟨_, rfl⟩
 have HM := Lib.hid hmn
 cases mn
 ·have hRf : R = false := by
   rw [← hR]
   simp [hmn]
  subst hRf
  clear hmn
  have hcl := nameMay_any s true w.drew hs
  have hb0 : Below w.heap.size w w.drew := (Below.refl _ w).drew
  go_enter Tryz.func51, Tryz.ntmps51
  refine wp_seq_k fun K hK => ?_
  have HK := Lib.hid hK
  clear hK
  go_wp2_with fail
  refine HK.out _ _ ?_
  clear HK K
  refine wp_seq_k fun K hK => ?_
  have HK := Lib.hid hK
  clear hK
  go_wp2_with fail
  refine HK.out _ _ ?_
  clear HK K
  refine wp_seq_k fun K hK => ?_
  have HK := Lib.hid hK
  clear hK
  go_wp2_with fail
  refine wp_region_quiet_tail 16 (by kernel_rfl) (by kernel_rfl) ?_
  simp only [List.take_succ_cons, List.take_zero, List.drop_succ_cons, List.drop_zero]
  repeat (go_big_quiet_step (fail))
  refine wpQuiet_nil ?_
  go_wp2_with fail
  refine hcl.mono ?_
  rintro e w1 ⟨rfl, hb1⟩
  have hb2 : Below w.heap.size w w1 := hb0.trans (hb1.mono hb0.size)
  have h2 := h.below hb2
  clear hcl hb0 hb1 c0 c1 c2 c5
  simp only [if_true, HM.out]
  go_wp2_with fail
  go_ret
  exact ⟨rfl, hb2⟩
 have hRt : R = (decide (args.length = 1) && exsR isName args d) := by
  rw [← hR]
  have hko : kindOk 3 0 0 = true := by
   unfold kindOk
   decide
  have hmm := hmn
  simp [hko, arity, hmm]
 subst hRt
 clear hmn hR
 have hcl := nameMay_any s true w.drew hs
 have hb0 : Below w.heap.size w w.drew := (Below.refl _ w).drew
 go_enter Tryz.func51, Tryz.ntmps51
 refine wp_seq_k fun K hK => ?_
 have HK := Lib.hid hK
 clear hK
 go_wp2_with fail
 refine HK.out _ _ ?_
 clear HK K
 refine wp_seq_k fun K hK => ?_
 have HK := Lib.hid hK
 clear hK
 go_wp2_with fail
 refine HK.out _ _ ?_
 clear HK K
 refine wp_seq_k fun K hK => ?_
 have HK := Lib.hid hK
 clear hK
 go_wp2_with fail
 refine wp_region_quiet_tail 16 (by kernel_rfl) (by kernel_rfl) ?_
 simp only [List.take_succ_cons, List.take_zero, List.drop_succ_cons, List.drop_zero]
 repeat (go_big_quiet_step (fail))
 refine wpQuiet_nil ?_
 go_wp2_with fail
 refine hcl.mono ?_
 rintro e w1 ⟨rfl, hb1⟩
 have hb2 : Below w.heap.size w w1 := hb0.trans (hb1.mono hb0.size)
 have h2 := h.below hb2
 clear hcl hb0 hb1 c0 c1 c2 c5
 simp only [if_true, HM.out]
 go_wp2_with fail
 refine HK.out _ _ ?_
 clear HK K
 refine wp_seq_k fun K hK => ?_
 have HK := Lib.hid hK
 clear hK
 go_wp2_with fail
 refine HK.out _ _ ?_
 clear HK K
 obtain ⟨c0, c1, c2, c5⟩ := h2.all
 refine wp_seq_k fun K hK => ?_
 have HK := Lib.hid hK
 clear hK
 go_wp2_with fail
 exact HK.out _ _ (em_tail (ar := 1) hd (by decide) ih hb2 h2 hnb)
set_option maxHeartbeats 8000000 in
theorem em_4 {w : World} {b off d : Nat} {n : Int} {s : ByteArray} {sl : Int} {lo : Bool} {op : Int} {args : List Ex} (hd : d ≤ 24) (ih : EmOk d) (h : ExAt w b off (.mk 4 n s sl lo op args)) (hs : s.size ≤ 9223372036854775807) (hnb : Ex.nbs args) :
  Calls Tryz.prog 51 #[.pointer (some ⟨b, off, none⟩), .int .i64 ((d + 1 : Nat) : Int)] w fun e w' => e = .returned (.bool (exR isName (.mk 4 n s sl lo op args) (d + 1))) ∧ Below w.heap.size w w' := by
 obtain ⟨R, hR⟩ : ∃ R, exR isName (.mk 4 n s sl lo op args) (d + 1) = R := ⟨_, rfl⟩
 rw [hR]
 rw [exR_eq] at hR
 have hd1 : ¬ ((d + 1 : Nat) : Int) < 1 := by omega
 obtain ⟨c0, c1, c2, c5⟩ := h.all
 rcases neOr n 0 with hn | hn
 ·have hRf : R = false := by
   rw [← hR]
   simp [hn]
  have hn2 : (n != 0) = true := by simpa using hn
  subst hRf
  go_enter Tryz.func51, Tryz.ntmps51
  go_wp2_with fail
  go_ret
  exact ⟨rfl, Below.refl _ w⟩
 subst hn
 rcases neOr op 0 with ho | ho
 ·have hRf : R = false := by
   rw [← hR]
   simp [ho]
  have ho2 : (op != 0) = true := by simpa using ho
  subst hRf
  go_enter Tryz.func51, Tryz.ntmps51
  go_wp2_with fail
  go_ret
  exact ⟨rfl, Below.refl _ w⟩
 subst ho
 obtain ⟨mn, hmn⟩ : ∃ mn, decide (s = noB) = mn := ⟨_, rfl⟩
 have HM := Lib.hid hmn
 cases mn
 ·have hRf : R = false := by
   rw [← hR]
   have hmn2 := of_decide_eq_false hmn
   simp [hmn2]
  subst hRf
  clear hmn
  have hcl := nameMay_any s false w.drew hs
  have hb0 : Below w.heap.size w w.drew := (Below.refl _ w).drew
  go_enter Tryz.func51, Tryz.ntmps51
  refine wp_seq_k fun K hK => ?_
  have HK := Lib.hid hK
  clear hK
  go_wp2_with fail
  refine HK.out _ _ ?_
  clear HK K
  refine wp_seq_k fun K hK => ?_
  have HK := Lib.hid hK
  clear hK
  go_wp2_with fail
  refine HK.out _ _ ?_
  clear HK K
  refine wp_seq_k fun K hK => ?_
  have HK := Lib.hid hK
  clear hK
  go_wp2_with fail
  refine wp_region_quiet_tail 16 (by kernel_rfl) (by kernel_rfl) ?_
  simp only [List.take_succ_cons, List.take_zero, List.drop_succ_cons, List.drop_zero]
  repeat (go_big_quiet_step (fail))
  refine wpQuiet_nil ?_
  go_wp2_with fail
  refine hcl.mono ?_
  rintro e w1 ⟨rfl, hb1⟩
  have hb2 : Below w.heap.size w w1 := hb0.trans (hb1.mono hb0.size)
  have h2 := h.below hb2
  clear hcl hb0 hb1 c0 c1 c2 c5
  simp only [Bool.false_eq_true, if_false, HM.out]
  go_wp2_with fail
  go_ret
  exact ⟨rfl, hb2⟩
 have hRt : R = (decide (args.length = 1) && exsR isName args d) := by
  rw [← hR]
  have hko : kindOk 4 0 0 = true := by
   unfold kindOk
   decide
  have hmm := of_decide_eq_true hmn
  simp [hko, arity, hmm]
 subst hRt
 clear hmn hR
 have hcl := nameMay_any s false w.drew hs
 have hb0 : Below w.heap.size w w.drew := (Below.refl _ w).drew
 go_enter Tryz.func51, Tryz.ntmps51
 refine wp_seq_k fun K hK => ?_
 have HK := Lib.hid hK
 clear hK
 go_wp2_with fail
 refine HK.out _ _ ?_
 clear HK K
 refine wp_seq_k fun K hK => ?_
 have HK := Lib.hid hK
 clear hK
 go_wp2_with fail
 refine HK.out _ _ ?_
 clear HK K
 refine wp_seq_k fun K hK => ?_
 have HK := Lib.hid hK
 clear hK
 go_wp2_with fail
 refine wp_region_quiet_tail 16 (by kernel_rfl) (by kernel_rfl) ?_
 simp only [List.take_succ_cons, List.take_zero, List.drop_succ_cons, List.drop_zero]
 repeat (go_big_quiet_step (fail))
 refine wpQuiet_nil ?_
 go_wp2_with fail
 refine hcl.mono ?_
 rintro e w1 ⟨rfl, hb1⟩
 have hb2 : Below w.heap.size w w1 := hb0.trans (hb1.mono hb0.size)
 have h2 := h.below hb2
 clear hcl hb0 hb1 c0 c1 c2 c5
 simp only [Bool.false_eq_true, if_false, HM.out]
 go_wp2_with fail
 refine HK.out _ _ ?_
 clear HK K
 refine wp_seq_k fun K hK => ?_
 have HK := Lib.hid hK
 clear hK
 go_wp2_with fail
 refine HK.out _ _ ?_
 clear HK K
 obtain ⟨c0, c1, c2, c5⟩ := h2.all
 refine wp_seq_k fun K hK => ?_
 have HK := Lib.hid hK
 clear hK
 go_wp2_with fail
 exact HK.out _ _ (em_tail (ar := 1) hd (by decide) ih hb2 h2 hnb)
set_option maxHeartbeats 8000000 in
theorem em_5 {w : World} {b off d : Nat} {n : Int} {s : ByteArray} {sl : Int} {lo : Bool} {op : Int} {args : List Ex} (hd : d ≤ 24) (ih : EmOk d) (h : ExAt w b off (.mk 5 n s sl lo op args)) (hs : s.size ≤ 9223372036854775807) (hnb : Ex.nbs args) :
  Calls Tryz.prog 51 #[.pointer (some ⟨b, off, none⟩), .int .i64 ((d + 1 : Nat) : Int)] w fun e w' => e = .returned (.bool (exR isName (.mk 5 n s sl lo op args) (d + 1))) ∧ Below w.heap.size w w' := by
 obtain ⟨R, hR⟩ : ∃ R, exR isName (.mk 5 n s sl lo op args) (d + 1) = R := ⟨_, rfl⟩
 rw [hR]
 rw [exR_eq] at hR
 have hd1 : ¬ ((d + 1 : Nat) : Int) < 1 := by omega
 obtain ⟨c0, c1, c2, c5⟩ := h.all
 rcases neOr n 0 with hn | hn
 ·have hRf : R = false := by
   rw [← hR]
   simp [hn]
  have hn2 : (n != 0) = true := by simpa using hn
  subst hRf
  go_enter Tryz.func51, Tryz.ntmps51
  go_wp2_with fail
  go_ret
  exact ⟨rfl, Below.refl _ w⟩
 subst hn
 rcases neOr op 0 with ho | ho
 ·have hRf : R = false := by
   rw [← hR]
   simp [ho]
  have ho2 : (op != 0) = true := by simpa using ho
  subst hRf
  go_enter Tryz.func51, Tryz.ntmps51
  go_wp2_with fail
  go_ret
  exact ⟨rfl, Below.refl _ w⟩
 subst ho
 obtain ⟨mn, hmn⟩ : ∃ mn, decide (s = noB) = mn := ⟨_, rfl⟩
 have HM := Lib.hid hmn
 cases mn
 ·have hRf : R = false := by
   rw [← hR]
   have hmn2 := of_decide_eq_false hmn
   simp [hmn2]
  subst hRf
  clear hmn
  have hcl := nameMay_any s false w.drew hs
  have hb0 : Below w.heap.size w w.drew := (Below.refl _ w).drew
  go_enter Tryz.func51, Tryz.ntmps51
  refine wp_seq_k fun K hK => ?_
  have HK := Lib.hid hK
  clear hK
  go_wp2_with fail
  refine HK.out _ _ ?_
  clear HK K
  refine wp_seq_k fun K hK => ?_
  have HK := Lib.hid hK
  clear hK
  go_wp2_with fail
  refine HK.out _ _ ?_
  clear HK K
  refine wp_seq_k fun K hK => ?_
  have HK := Lib.hid hK
  clear hK
  go_wp2_with fail
  refine wp_region_quiet_tail 16 (by kernel_rfl) (by kernel_rfl) ?_
  simp only [List.take_succ_cons, List.take_zero, List.drop_succ_cons, List.drop_zero]
  repeat (go_big_quiet_step (fail))
  refine wpQuiet_nil ?_
  go_wp2_with fail
  refine hcl.mono ?_
  rintro e w1 ⟨rfl, hb1⟩
  have hb2 : Below w.heap.size w w1 := hb0.trans (hb1.mono hb0.size)
  have h2 := h.below hb2
  clear hcl hb0 hb1 c0 c1 c2 c5
  simp only [Bool.false_eq_true, if_false, HM.out]
  go_wp2_with fail
  go_ret
  exact ⟨rfl, hb2⟩
 have hRt : R = (decide (args.length = 1) && exsR isName args d) := by
  rw [← hR]
  have hko : kindOk 5 0 0 = true := by
   unfold kindOk
   decide
  have hmm := of_decide_eq_true hmn
  simp [hko, arity, hmm]
 subst hRt
 clear hmn hR
 have hcl := nameMay_any s false w.drew hs
 have hb0 : Below w.heap.size w w.drew := (Below.refl _ w).drew
 go_enter Tryz.func51, Tryz.ntmps51
 refine wp_seq_k fun K hK => ?_
 have HK := Lib.hid hK
 clear hK
 go_wp2_with fail
 refine HK.out _ _ ?_
 clear HK K
 refine wp_seq_k fun K hK => ?_
 have HK := Lib.hid hK
 clear hK
 go_wp2_with fail
 refine HK.out _ _ ?_
 clear HK K
 refine wp_seq_k fun K hK => ?_
 have HK := Lib.hid hK
 clear hK
 go_wp2_with fail
 refine wp_region_quiet_tail 16 (by kernel_rfl) (by kernel_rfl) ?_
 simp only [List.take_succ_cons, List.take_zero, List.drop_succ_cons, List.drop_zero]
 repeat (go_big_quiet_step (fail))
 refine wpQuiet_nil ?_
 go_wp2_with fail
 refine hcl.mono ?_
 rintro e w1 ⟨rfl, hb1⟩
 have hb2 : Below w.heap.size w w1 := hb0.trans (hb1.mono hb0.size)
 have h2 := h.below hb2
 clear hcl hb0 hb1 c0 c1 c2 c5
 simp only [Bool.false_eq_true, if_false, HM.out]
 go_wp2_with fail
 refine HK.out _ _ ?_
 clear HK K
 refine wp_seq_k fun K hK => ?_
 have HK := Lib.hid hK
 clear hK
 go_wp2_with fail
 refine HK.out _ _ ?_
 clear HK K
 obtain ⟨c0, c1, c2, c5⟩ := h2.all
 refine wp_seq_k fun K hK => ?_
 have HK := Lib.hid hK
 clear hK
 go_wp2_with fail
 exact HK.out _ _ (em_tail (ar := 1) hd (by decide) ih hb2 h2 hnb)
set_option maxHeartbeats 8000000 in
theorem em_6 {w : World} {b off d : Nat} {n : Int} {s : ByteArray} {sl : Int} {lo : Bool} {op : Int} {args : List Ex} (hd : d ≤ 24) (ih : EmOk d) (h : ExAt w b off (.mk 6 n s sl lo op args)) (hs : s.size ≤ 9223372036854775807) (hnb : Ex.nbs args) :
  Calls Tryz.prog 51 #[.pointer (some ⟨b, off, none⟩), .int .i64 ((d + 1 : Nat) : Int)] w fun e w' => e = .returned (.bool (exR isName (.mk 6 n s sl lo op args) (d + 1))) ∧ Below w.heap.size w w' := by
 obtain ⟨R, hR⟩ : ∃ R, exR isName (.mk 6 n s sl lo op args) (d + 1) = R := ⟨_, rfl⟩
 rw [hR]
 rw [exR_eq] at hR
 have hd1 : ¬ ((d + 1 : Nat) : Int) < 1 := by omega
 obtain ⟨c0, c1, c2, c5⟩ := h.all
 rcases neOr n 0 with hn | hn
 ·have hRf : R = false := by
   rw [← hR]
   simp [hn]
  have hn2 : (n != 0) = true := by simpa using hn
  subst hRf
  go_enter Tryz.func51, Tryz.ntmps51
  go_wp2_with fail
  go_ret
  exact ⟨rfl, Below.refl _ w⟩
 subst hn
 obtain ⟨mn, hmn⟩ : ∃ mn, decide (s = noB) = mn := ⟨_, rfl⟩
 have HM := Lib.hid hmn
 cases mn
 ·have hRf : R = false := by
   rw [← hR]
   have hmn2 := of_decide_eq_false hmn
   simp [hmn2]
  subst hRf
  clear hmn
  have hcl := nameMay_any s false w.drew hs
  have hb0 : Below w.heap.size w w.drew := (Below.refl _ w).drew
  go_enter Tryz.func51, Tryz.ntmps51
  refine wp_seq_k fun K hK => ?_
  have HK := Lib.hid hK
  clear hK
  go_wp2_with fail
  refine HK.out _ _ ?_
  clear HK K
  refine wp_seq_k fun K hK => ?_
  have HK := Lib.hid hK
  clear hK
  go_wp2_with fail
  refine HK.out _ _ ?_
  clear HK K
  refine wp_seq_k fun K hK => ?_
  have HK := Lib.hid hK
  clear hK
  go_wp2_with fail
  refine wp_region_quiet_tail 16 (by kernel_rfl) (by kernel_rfl) ?_
  simp only [List.take_succ_cons, List.take_zero, List.drop_succ_cons, List.drop_zero]
  repeat (go_big_quiet_step (fail))
  refine wpQuiet_nil ?_
  go_wp2_with fail
  refine hcl.mono ?_
  rintro e w1 ⟨rfl, hb1⟩
  have hb2 : Below w.heap.size w w1 := hb0.trans (hb1.mono hb0.size)
  have h2 := h.below hb2
  clear hcl hb0 hb1 c0 c1 c2 c5
  simp only [Bool.false_eq_true, if_false, HM.out]
  go_wp2_with fail
  go_ret
  exact ⟨rfl, hb2⟩
 by_cases hr0 : op < 1
 ·have hRf : R = false := by
   rw [← hR]
   have hko : kindOk 6 0 op = false := by
    unfold kindOk
    rw [if_neg (by decide), if_pos rfl]
    rw [decide_eq_false (by omega), Bool.false_and]
   simp [hko]
  subst hRf
  clear hmn
  have hcl := nameMay_any s false w.drew hs
  have hb0 : Below w.heap.size w w.drew := (Below.refl _ w).drew
  go_enter Tryz.func51, Tryz.ntmps51
  refine wp_seq_k fun K hK => ?_
  have HK := Lib.hid hK
  clear hK
  go_wp2_with fail
  refine HK.out _ _ ?_
  clear HK K
  refine wp_seq_k fun K hK => ?_
  have HK := Lib.hid hK
  clear hK
  go_wp2_with fail
  refine HK.out _ _ ?_
  clear HK K
  refine wp_seq_k fun K hK => ?_
  have HK := Lib.hid hK
  clear hK
  go_wp2_with fail
  refine wp_region_quiet_tail 16 (by kernel_rfl) (by kernel_rfl) ?_
  simp only [List.take_succ_cons, List.take_zero, List.drop_succ_cons, List.drop_zero]
  repeat (go_big_quiet_step (fail))
  refine wpQuiet_nil ?_
  go_wp2_with fail
  refine hcl.mono ?_
  rintro e w1 ⟨rfl, hb1⟩
  have hb2 : Below w.heap.size w w1 := hb0.trans (hb1.mono hb0.size)
  have h2 := h.below hb2
  clear hcl hb0 hb1 c0 c1 c2 c5
  simp only [Bool.false_eq_true, if_false, HM.out]
  go_wp2_with fail
  refine HK.out _ _ ?_
  clear HK K
  refine wp_seq_k fun K hK => ?_
  have HK := Lib.hid hK
  clear hK
  go_wp2_with fail
  refine HK.out _ _ ?_
  clear HK K
  obtain ⟨c0, c1, c2, c5⟩ := h2.all
  clear h h2
  go_wp2_with fail
  go_ret
  exact ⟨rfl, hb2⟩
 by_cases hr1 : 11 < op
 ·have hRf : R = false := by
   rw [← hR]
   have hko : kindOk 6 0 op = false := by
    unfold kindOk
    rw [if_neg (by decide), if_pos rfl]
    rw [decide_eq_false (p := op ≤ 11) (by omega), Bool.and_false]
   simp [hko]
  subst hRf
  clear hmn
  have hcl := nameMay_any s false w.drew hs
  have hb0 : Below w.heap.size w w.drew := (Below.refl _ w).drew
  go_enter Tryz.func51, Tryz.ntmps51
  refine wp_seq_k fun K hK => ?_
  have HK := Lib.hid hK
  clear hK
  go_wp2_with fail
  refine HK.out _ _ ?_
  clear HK K
  refine wp_seq_k fun K hK => ?_
  have HK := Lib.hid hK
  clear hK
  go_wp2_with fail
  refine HK.out _ _ ?_
  clear HK K
  refine wp_seq_k fun K hK => ?_
  have HK := Lib.hid hK
  clear hK
  go_wp2_with fail
  refine wp_region_quiet_tail 16 (by kernel_rfl) (by kernel_rfl) ?_
  simp only [List.take_succ_cons, List.take_zero, List.drop_succ_cons, List.drop_zero]
  repeat (go_big_quiet_step (fail))
  refine wpQuiet_nil ?_
  go_wp2_with fail
  refine hcl.mono ?_
  rintro e w1 ⟨rfl, hb1⟩
  have hb2 : Below w.heap.size w w1 := hb0.trans (hb1.mono hb0.size)
  have h2 := h.below hb2
  clear hcl hb0 hb1 c0 c1 c2 c5
  simp only [Bool.false_eq_true, if_false, HM.out]
  go_wp2_with fail
  refine HK.out _ _ ?_
  clear HK K
  refine wp_seq_k fun K hK => ?_
  have HK := Lib.hid hK
  clear hK
  go_wp2_with fail
  refine HK.out _ _ ?_
  clear HK K
  obtain ⟨c0, c1, c2, c5⟩ := h2.all
  clear h h2
  go_wp2_with fail
  go_ret
  exact ⟨rfl, hb2⟩
 have hRt : R = (decide (args.length = 2) && exsR isName args d) := by
  rw [← hR]
  have hko : kindOk 6 0 op = true := by
   unfold kindOk
   rw [if_neg (by decide), if_pos rfl, decide_eq_true (p := 1 ≤ op) (by omega), decide_eq_true (p := op ≤ 11) (by omega)]
   rfl
  have hmm := of_decide_eq_true hmn
  simp [hko, arity, hmm]
 subst hRt
 clear hmn hR
 have hcl := nameMay_any s false w.drew hs
 have hb0 : Below w.heap.size w w.drew := (Below.refl _ w).drew
 go_enter Tryz.func51, Tryz.ntmps51
 refine wp_seq_k fun K hK => ?_
 have HK := Lib.hid hK
 clear hK
 go_wp2_with fail
 refine HK.out _ _ ?_
 clear HK K
 refine wp_seq_k fun K hK => ?_
 have HK := Lib.hid hK
 clear hK
 go_wp2_with fail
 refine HK.out _ _ ?_
 clear HK K
 refine wp_seq_k fun K hK => ?_
 have HK := Lib.hid hK
 clear hK
 go_wp2_with fail
 refine wp_region_quiet_tail 16 (by kernel_rfl) (by kernel_rfl) ?_
 simp only [List.take_succ_cons, List.take_zero, List.drop_succ_cons, List.drop_zero]
 repeat (go_big_quiet_step (fail))
 refine wpQuiet_nil ?_
 go_wp2_with fail
 refine hcl.mono ?_
 rintro e w1 ⟨rfl, hb1⟩
 have hb2 : Below w.heap.size w w1 := hb0.trans (hb1.mono hb0.size)
 have h2 := h.below hb2
 clear hcl hb0 hb1 c0 c1 c2 c5
 simp only [Bool.false_eq_true, if_false, HM.out]
 go_wp2_with fail
 refine HK.out _ _ ?_
 clear HK K
 refine wp_seq_k fun K hK => ?_
 have HK := Lib.hid hK
 clear hK
 go_wp2_with fail
 refine HK.out _ _ ?_
 clear HK K
 obtain ⟨c0, c1, c2, c5⟩ := h2.all
 refine wp_seq_k fun K hK => ?_
 have HK := Lib.hid hK
 clear hK
 go_wp2_with fail
 exact HK.out _ _ (em_tail (ar := 2) hd (by decide) ih hb2 h2 hnb)
set_option maxHeartbeats 8000000 in
theorem em_other {w : World} {b off d : Nat} {k n : Int} {s : ByteArray} {sl : Int} {lo : Bool} {op : Int} {args : List Ex} (hd : d ≤ 24) (_ih : EmOk d) (h1 : k ≠ 1) (h2 : k ≠ 2) (h3 : k ≠ 3) (h4 : k ≠ 4) (h5 : k ≠ 5) (h6 : k ≠ 6) (h : ExAt w b off (.mk k n s sl lo op args)) (hs : s.size ≤ 9223372036854775807) (_hnb : Ex.nbs args) :
  Calls Tryz.prog 51 #[.pointer (some ⟨b, off, none⟩), .int .i64 ((d + 1 : Nat) : Int)] w fun e w' => e = .returned (.bool (exR isName (.mk k n s sl lo op args) (d + 1))) ∧ Below w.heap.size w w' := by
 obtain ⟨R, hR⟩ : ∃ R, exR isName (.mk k n s sl lo op args) (d + 1) = R := ⟨_, rfl⟩
 rw [hR]
 rw [exR_eq] at hR
 have hd1 : ¬ ((d + 1 : Nat) : Int) < 1 := by omega
 obtain ⟨c0, c1, c2, c5⟩ := h.all
 have k1 : (k != 1) = true := by simpa using h1
 have k6 : (k != 6) = true := by simpa using h6
 have e1 : (k == 1) = false := by simpa using h1
 have e2 : (k == 2) = false := by simpa using h2
 have e3 : (k == 3) = false := by simpa using h3
 have e4 : (k == 4) = false := by simpa using h4
 have e5 : (k == 5) = false := by simpa using h5
 have e6 : (k == 6) = false := by simpa using h6
 rcases neOr n 0 with hn | hn
 ·have hRf : R = false := by
   rw [← hR]
   simp [h1, h2, h3, h6, hn]
  have hn2 : (n != 0) = true := by simpa using hn
  subst hRf
  go_enter Tryz.func51, Tryz.ntmps51
  go_wp2_with fail
  go_ret
  exact ⟨rfl, Below.refl _ w⟩
 subst hn
 rcases neOr op 0 with ho | ho
 ·have hRf : R = false := by
   rw [← hR]
   simp [h1, h2, h3, h6, ho]
  have ho2 : (op != 0) = true := by simpa using ho
  subst hRf
  go_enter Tryz.func51, Tryz.ntmps51
  go_wp2_with fail
  go_ret
  exact ⟨rfl, Below.refl _ w⟩
 subst ho
 obtain ⟨mn, hmn⟩ : ∃ mn, decide (s = noB) = mn := ⟨_, rfl⟩
 have HM := Lib.hid hmn
 cases mn
 ·have hRf : R = false := by
   rw [← hR]
   have hmn2 := of_decide_eq_false hmn
   simp [h1, h2, h3, h6, hmn2]
  subst hRf
  clear hmn
  have hcl := nameMay_any s false w.drew hs
  have hb0 : Below w.heap.size w w.drew := (Below.refl _ w).drew
  go_enter Tryz.func51, Tryz.ntmps51
  refine wp_seq_k fun K hK => ?_
  have HK := Lib.hid hK
  clear hK
  go_wp2_with fail
  refine HK.out _ _ ?_
  clear HK K
  refine wp_seq_k fun K hK => ?_
  have HK := Lib.hid hK
  clear hK
  go_wp2_with fail
  refine HK.out _ _ ?_
  clear HK K
  refine wp_seq_k fun K hK => ?_
  have HK := Lib.hid hK
  clear hK
  go_wp2_with fail
  refine wp_region_quiet_tail 16 (by kernel_rfl) (by kernel_rfl) ?_
  simp only [List.take_succ_cons, List.take_zero, List.drop_succ_cons, List.drop_zero]
  repeat (go_big_quiet_step (fail))
  refine wpQuiet_nil ?_
  go_wp2_with fail
  refine hcl.mono ?_
  rintro e w1 ⟨rfl, hb1⟩
  have hb2 : Below w.heap.size w w1 := hb0.trans (hb1.mono hb0.size)
  have h2 := h.below hb2
  clear hcl hb0 hb1 c0 c1 c2 c5
  simp only [Bool.false_eq_true, if_false, HM.out]
  go_wp2_with fail
  go_ret
  exact ⟨rfl, hb2⟩
 have hRf : R = false := by
  have hko : kindOk k 0 0 = false := by
   unfold kindOk
   rw [if_neg h1, if_neg h6]
   have : ¬ (2 ≤ k ∧ k ≤ 5) := by omega
   rw [← Bool.not_eq_true, Bool.and_eq_true, decide_eq_true_eq, decide_eq_true_eq]
   exact this
  rw [← hR]
  simp [hko]
 subst hRf
 clear hmn hR
 have hcl := nameMay_any s false w.drew hs
 have hb0 : Below w.heap.size w w.drew := (Below.refl _ w).drew
 go_enter Tryz.func51, Tryz.ntmps51
 refine wp_seq_k fun K hK => ?_
 have HK := Lib.hid hK
 clear hK
 go_wp2_with fail
 refine HK.out _ _ ?_
 clear HK K
 refine wp_seq_k fun K hK => ?_
 have HK := Lib.hid hK
 clear hK
 go_wp2_with fail
 refine HK.out _ _ ?_
 clear HK K
 refine wp_seq_k fun K hK => ?_
 have HK := Lib.hid hK
 clear hK
 go_wp2_with fail
 refine wp_region_quiet_tail 16 (by kernel_rfl) (by kernel_rfl) ?_
 simp only [List.take_succ_cons, List.take_zero, List.drop_succ_cons, List.drop_zero]
 repeat (go_big_quiet_step (fail))
 refine wpQuiet_nil ?_
 go_wp2_with fail
 refine hcl.mono ?_
 rintro e w1 ⟨rfl, hb1⟩
 have hb2 : Below w.heap.size w w1 := hb0.trans (hb1.mono hb0.size)
 have h2 := h.below hb2
 clear hcl hb0 hb1 c0 c1 c2 c5
 simp only [Bool.false_eq_true, if_false, HM.out]
 go_wp2_with fail
 refine HK.out _ _ ?_
 clear HK K
 obtain ⟨c0, -⟩ := h2.all
 clear h h2
 go_wp2_with fail
 go_ret
 exact ⟨rfl, hb2⟩
theorem exMay_any : ∀ (d : Nat), d ≤ 24 → EmOk d := by
 intro d
 induction d with
 | zero =>
  intro _ x b off w h hnb
  have hx : exR isName x 0 = false := by
   obtain ⟨k, n, s, sl, lo, o, args⟩ := x
   rw [exR_eq]
   simp
  rw [hx]
  go_enter Tryz.func51, Tryz.ntmps51
  go_wp2_with fail
  go_ret
  exact ⟨rfl, Below.refl _ w⟩
 | succ d ih =>
  intro hd x b off w h hnb
  have ih := ih (by omega)
  obtain ⟨k, n, s, sl, lo, o, args⟩ := x
  unfold Ex.nb at hnb
  have hd2 : d ≤ 24 := by omega
  by_cases h1 : k = 1
  ·subst h1
   exact em_1 hd2 ih h hnb.1 hnb.2
  by_cases h2 : k = 2
  ·subst h2
   exact em_2 hd2 ih h hnb.1 hnb.2
  by_cases h3 : k = 3
  ·subst h3
   exact em_3 hd2 ih h hnb.1 hnb.2
  by_cases h4 : k = 4
  ·subst h4
   exact em_4 hd2 ih h hnb.1 hnb.2
  by_cases h5 : k = 5
  ·subst h5
   exact em_5 hd2 ih h hnb.1 hnb.2
  by_cases h6 : k = 6
  ·subst h6
   exact em_6 hd2 ih h hnb.1 hnb.2
  exact em_other hd2 ih h1 h2 h3 h4 h5 h6 h hnb.1 hnb.2
set_option maxHeartbeats 8000000 in
theorem partMay_any (x : Ex) (nd : Bool) (b off : Nat) (w : World) (h : ExAt w b off x) (hnb : x.nb) : Calls Tryz.prog 157 #[.pointer (some ⟨b, off, none⟩), .bool nd] w fun e w' => e = .returned (.bool (if nd = true then exR isName x 24 else exZ x)) ∧ Below w.heap.size w w' := by
 cases nd
 ·rw [if_neg Bool.false_ne_true]
  obtain ⟨k, n, s, sl, lo, o, args⟩ := x
  obtain ⟨c0, c1, c2, c5⟩ := h.all
  obtain ⟨a, cap, c6, hcap, -⟩ := h.args
  obtain ⟨R, hR⟩ : ∃ R, exZ (.mk k n s sl lo o args) = R := ⟨_, rfl⟩
  rw [hR]
  unfold exZ at hR
  clear h hnb
  rcases neOr k 0 with hk | hk
  ·have hRf : R = false := by rw [← hR]; simp [hk]
   subst hRf
   go_enter Tryz.func157, Tryz.ntmps157
   go_wp2_with fail
   go_ret
   exact ⟨rfl, Below.refl _ w⟩
  subst hk
  rcases neOr n 0 with hk | hk
  ·have hRf : R = false := by rw [← hR]; simp [hk]
   subst hRf
   go_enter Tryz.func157, Tryz.ntmps157
   go_wp2_with fail
   go_ret
   exact ⟨rfl, Below.refl _ w⟩
  subst hk
  rcases neOr s noB with hk | hk
  ·have hRf : R = false := by rw [← hR]; simp [hk]
   subst hRf
   have hs2 : s.toList.isEmpty = false := by rw [isE_eq]; exact decide_eq_false hk
   go_enter Tryz.func157, Tryz.ntmps157
   go_wp2_with fail
   go_ret
   exact ⟨rfl, Below.refl _ w⟩
  have hs2 : s.toList.isEmpty = true := by rw [isE_eq]; exact decide_eq_true hk
  rcases neOr o 0 with hk2 | hk2
  ·have hRf : R = false := by rw [← hR]; simp [hk2]
   subst hRf
   clear hk
   go_enter Tryz.func157, Tryz.ntmps157
   go_wp2_with fail
   go_ret
   exact ⟨rfl, Below.refl _ w⟩
  subst hk2
  rcases neOr args.length 0 with hk2 | hk2
  ·have hRf : R = false := by rw [← hR]; simp; intro _ e; subst e; simp at hk2
   subst hRf
   have hl2 : (((args.length : Nat) : Int) == 0) = false := by
    rw [beq_eq_false_iff_ne]
    omega
   clear hk hR
   go_enter Tryz.func157, Tryz.ntmps157
   go_wp2_with fail
   go_ret
   exact ⟨rfl, Below.refl _ w⟩
  have hRt : R = true := by rw [← hR]; simp [hk, hk2]
  subst hRt
  rw [hk2] at c6
  clear hk hR hk2
  go_enter Tryz.func157, Tryz.ntmps157
  go_wp2_with fail
  go_ret
  exact ⟨rfl, Below.refl _ w⟩
 ·rw [if_pos rfl]
  have hcl := exMay_any 24 (Nat.le_refl _) x b off w h hnb
  have e24 : ((24 : Nat) : Int) = 24 := rfl
  rw [e24] at hcl
  clear e24
  go_enter Tryz.func157, Tryz.ntmps157
  go_wp2_with fail
  refine hcl.mono ?_
  rintro e w1 ⟨rfl, hb⟩
  go_wp2_with fail
  go_ret
  exact ⟨rfl, hb⟩
def shC (k : Nat) : List Value := [.bool (nName k), .bool (nWith k), .bool (nExpr k), .bool (decide ((k : Int) = 3)), .bool (decide ((k : Int) = 4) || decide ((k : Int) = 5)), .bool (decide ((k : Int) = 4))]
def Shs (w : World) : Prop := ∀ k : Nat, 1 ≤ k → k < 16 → w.rangeAt 1 (k * 6) (shC k)
theorem Shs.below {w w' : World} (h : Shs w) (hb : Below w.heap.size w w') : Shs w' := fun k h1 h2 j v hv => by
 have := h k h1 h2 j v hv
 rw [← this]
 simp [World.cell?, hb.block 1 (World.block_lt_of_cell? w _ this)]
def SmOk (d : Nat) : Prop := ∀ (s : St) (b off : Nat) (w : World), Shs w → StAt w b off s → s.nb → Calls Tryz.prog 133 #[.pointer (some ⟨b, off, none⟩), .int .i64 (d : Int)] w fun e w' => e = .returned (.bool (stR isName s d)) ∧ Below w.heap.size w w'
def BmOk (d : Nat) : Prop := ∀ (l : List St) (a : Option Addr) (cap : Nat) (w : World), Shs w → SlAt w a cap l → St.nbs l → Calls Tryz.prog 98 #[.slice a l.length cap, .int .i64 (d : Int)] w fun e w' => e = .returned (.bool (stsR isName l d)) ∧ Below w.heap.size w w'
theorem stR_deep (s : St) (d : Nat) (h : 24 < d) : stR isName s d = false := by
 obtain ⟨sk, sl, sc, sn, sw, sx, sy, sb, se, sid, ssl, sot, slo⟩ := s
 unfold stR
 rw [decide_eq_false (p := d ≤ 24) (by omega), Bool.false_and, Bool.and_false]
set_option maxHeartbeats 8000000 in
theorem bm_loop {w : World} {d N cap : Nat} {a : Option Addr} {l : List St} {R : Bool} (hroom : Roomy N cap) (HN : Hid (l.length = N)) (HR : Hid (stsR isName (l.drop 0) d = R)) (HB : Hid (St.nbs l)) (HE : Hid (Below w.heap.size w w ∧ SlAt w a cap l)) (HSM : Hid (0 < N → SmOk d)) (hSh : Shs w) {u2 u3 u4 u5 u6 u7 u8 u9 u10 u11 u12 u13 u14 u15 u16 u17 u18 u19 u20 u21 u22 u23 u24 : Value} :
  Code.wp Tryz.prog (dropS 2 (Tryz.f98.body.getD .skip)) (bodyPost Tryz.prog Tryz.f98 (fun e w' => e = .returned (.bool R) ∧ Below w.heap.size w w')) ⟨#[.slice a N cap, .int .i64 (d : Int), u2, u3, u4, u5, u6, u7, u8, u9, u10, u11, u12, u13, u14, u15, u16, u17, u18, u19, u20, u21, u22, u23, u24], []⟩ w := by
 conv in (dropS _ _) => whnf
 go_wp2_with fail
 go_loopg [15] N (fun x iv wr => ∃ i : Nat, i ≤ N ∧ x = N - i ∧ iv = .int .i64 (i : Int) ∧ Hid (Below w.heap.size w wr ∧ SlAt wr a cap l) ∧ Hid (stsR isName (l.drop i) d = R))
 case atStart => exact ⟨0, Nat.zero_le _, rfl, rfl, HE, HR⟩
 case round =>
  clear HE HR
  obtain ⟨i, hi, rfl, rfl, HE, HR⟩ := hrel
  obtain ⟨hb1, h1⟩ := HE.out
  by_cases hiN : i < N
  ·have hlt : (i : Int) < (N : Int) := by omega
   have hp0 : (0 : Int) ≤ (i : Int) := by omega
   have hroom2 : (i : Int) + 1 ≤ 9223372036854775807 := by
    have h1 := hroom.1
    have h2 := hroom.2
    omega
   obtain ⟨s, hs⟩ : ∃ s, l[i]? = some s := ⟨_, List.getElem?_eq_getElem (by rw [HN.out]; exact hiN)⟩
   have hR := HR.out
   rw [stsR_drop hs] at hR
   obtain ⟨b2, off2, rfl, hst⟩ := h1.at hs
   have hcl := HSM.out (by omega) s b2 (off2 + i * 25) wr (hSh.below hb1) hst (St.nbs_at HB.out hs)
   obtain ⟨m, hm⟩ : ∃ m, stR isName s d = m := ⟨_, rfl⟩
   rw [hm] at hcl hR
   have HR2 := Lib.hid hR
   clear hst hs hm hR HR
   go_wp2_with fail
   refine hcl.mono ?_
   rintro e w2 ⟨rfl, hb2⟩
   have hb3 := hb1.trans (hb2.mono hb1.size)
   cases m
   ·have hRf : R = false := HR2.out.symm
    subst hRf
    clear HE hcl h1 hb1 hb2
    go_wp2_with fail
    go_ret
    exact ⟨rfl, hb3⟩
   ·have HR3 : Hid (stsR isName (l.drop (i + 1)) d = R) := Lib.hid HR2.out
    have HE3 := Lib.hid (And.intro hb3 (h1.below hb2))
    clear HE hcl h1 hb1 hb2 hb3 HR2
    go_wp2_with fail
    go_roundg (N - (i + 1))
    case measure => omega
    case rel => exact ⟨i + 1, by omega, rfl, rfl, HE3, HR3⟩
  ·obtain rfl : i = N := by omega
   have hlt : ¬ (i : Int) < (i : Int) := by omega
   have hRt : R = true := by
    rw [← HR.out, List.drop_eq_nil_of_le (by rw [HN.out]; exact Nat.le_refl _)]
    unfold stsR
    rfl
   subst hRt
   clear h1 HE
   go_wp2_with fail
   go_ret
   exact ⟨rfl, hb1⟩
set_option maxHeartbeats 8000000 in
theorem bm_of_sm {d : Nat} (hd : d ≤ 25) (hS : d ≤ 24 → SmOk d) : BmOk d := by
 intro l a cap w hSh h hnb
 obtain ⟨R, hR⟩ : ∃ R, stsR isName (l.drop 0) d = R := ⟨_, rfl⟩
 rw [show stsR isName l d = R from hR]
 obtain ⟨N, hN⟩ : ∃ N, l.length = N := ⟨_, rfl⟩
 have hroom := h.1
 rw [hN] at hroom ⊢
 have HN := Lib.hid hN
 have HR := Lib.hid hR
 have HB := Lib.hid hnb
 have HE := Lib.hid (And.intro (Below.refl w.heap.size w) h)
 clear hN hR hnb h
 by_cases hbig : 24 < d ∧ 0 < N
 ·have hRf : R = false := by
   have h0 : 0 < l.length := by rw [HN.out]; exact hbig.2
   have hs : l[0]? = some (l[0]'h0) := List.getElem?_eq_getElem h0
   rw [← HR.out, stsR_drop hs, stR_deep _ _ hbig.1]
   rfl
  subst hRf
  have h1 : (24 : Int) < (d : Int) := by omega
  have h2 : (0 : Int) < (N : Int) := by omega
  clear HE
  go_enter Tryz.func98, Tryz.ntmps98
  go_wp2_with fail
  go_ret
  exact ⟨rfl, Below.refl _ w⟩
 have HSM : Hid (0 < N → SmOk d) := Lib.hid (fun h => hS (by omega))
 go_enter Tryz.func98, Tryz.ntmps98
 refine wp_seq_k fun K hK => ?_
 have HK := Lib.hid hK
 clear hK
 go_wp2_with fail
 refine HK.out _ _ ?_
 clear HK K
 refine wp_seq_k fun K hK => ?_
 have HK := Lib.hid hK
 clear hK
 by_cases h24 : (24 : Int) < (d : Int)
 ·have h2 : ¬ (0 : Int) < (N : Int) := by omega
  go_wp2_with fail
  exact HK.out _ _ (bm_loop hroom HN HR HB HE HSM hSh)
 ·go_wp2_with fail
  exact HK.out _ _ (bm_loop hroom HN HR HB HE HSM hSh)
set_option maxHeartbeats 16000000 in
theorem sm_b {w W : World} {q b off d : Nat} {k sl sc : Int} {sn sw : ByteArray} {sx sy : Ex} {sb se : List St} {sid ssl sot : Int} {slo : Bool} {b0 b1 b2 b3 b4 b5 : Bool} {mb me : Bool} (hd : d ≤ 24) (hB : BmOk (d + 1)) (hs : StAt W b off (.mk k sl sc sn sw sx sy sb se sid ssl sot slo)) (hq : Blk W q 210 [.bool b0, .bool b1, .bool b2, .bool b3, .bool b4, .bool b5]) (hSh : Shs W) (hb : Below w.heap.size w W) (hnb : St.nbs sb) (hnb2 : St.nbs se)
  (hmb : stsR isName sb (d + 1) = mb) (hme : stsR isName se (d + 1) = me) {u2 u3 u4 u6 u7 u8 u9 u10 u11 u12 u13 u14 u15 u16 u17 u18 u19 u20 u21 u22 u23 u24 u25 u26 u27 u28 u29 u30 u31 u32 u33 u34 u35 u36 u37 u38 u39 u40 u41 u42 u43 u44 u45 u46 u47 u48 u49 u50 u51 u52 u53 u54 u55 u56 u57 u58 u59 u60 u61 u62 u63 u64 u65 u66 u67 u68 u69 u70 u71 u72 u73 u74 u75 u76 u77 u78 u79 u80 u81 u82 u83 u84 u85 u86 u87 u88 u89 u90 u91 u92 u93 u94 u95 u96 u97 : Value} :
  Code.wp Tryz.prog (dropS 5 (Tryz.f133.body.getD .skip)) (bodyPost Tryz.prog Tryz.f133 (fun e w' => e = .returned (.bool ((b4 || decide (sb.length = 0)) && ((b5 || decide (se.length = 0)) && (mb && me)))) ∧ Below w.heap.size w w')) ⟨#[.pointer (some ⟨b, off, none⟩), .int .i64 (d : Int), u2, u3, u4, .pointer (some ⟨q, 0, none⟩), u6, u7, u8, u9, u10, u11, u12, u13, u14, u15, u16, u17, u18, u19, u20, u21, u22, u23, u24, u25, u26, u27, u28, u29, u30, u31, u32, u33, u34, u35, u36, u37, u38, u39, u40, u41, u42, u43, u44, u45, u46, u47, u48, u49, u50, u51, u52, u53, u54, u55, u56, u57, u58, u59, u60, u61, u62, u63, u64, u65, u66, u67, u68, u69, u70, u71, u72, u73, u74, u75, u76, u77, u78, u79, u80, u81, u82, u83, u84, u85, u86, u87, u88, u89, u90, u91, u92, u93, u94, u95, u96, u97], []⟩ W := by
 conv in (dropS _ _) => whnf
 obtain ⟨-, -, -, -, -, -, -, ⟨ab, capb, p19, hbody⟩, ae, cape, p20, hels⟩ := hs.parts
 have q4 := hq.cell 4
 have q5 := hq.cell 5
 simp only [List.getElem?_cons_succ, List.getElem?_cons_zero] at q4 q5
 have hc1 := hB sb ab capb W hSh hbody hnb
 rw [hmb] at hc1
 have hcast : ((d : Int) + 1) = ((d + 1 : Nat) : Int) := by omega
 rw [← hcast] at hc1
 have hdr : (d : Int) + 1 ≤ 9223372036854775807 := by omega
 have hd0 : (0 : Int) ≤ (d : Int) := by omega
 obtain ⟨nB, hnB⟩ : ∃ n, sb.length = n := ⟨_, rfl⟩
 obtain ⟨nE, hnE⟩ : ∃ n, se.length = n := ⟨_, rfl⟩
 rw [hnB] at p19 hc1 ⊢
 rw [hnE] at p20 ⊢
 have HLE := Lib.hid hnE
 clear hnB hnE
 obtain ⟨R, hR⟩ : ∃ R, ((b4 || decide (nB = 0)) && ((b5 || decide (nE = 0)) && (mb && me))) = R := ⟨_, rfl⟩
 rw [hR]
 have HR := Lib.hid hR
 have HH := Lib.hid (And.intro hs (And.intro hSh hb))
 have HB := Lib.hid hB
 have HM := Lib.hid (And.intro hme hnb2)
 clear hR hs hSh hb hB hmb hme hnb hnb2 hbody hels hq hcast
 cases b4
 ·cases b5
  ·skip
   rcases neOr nB 0 with hNb | hNb
   ·have hRf : R = false := by rw [← HR.out]; simp [hNb]
    subst hRf
    have hi0 : ¬ nB = 0 := hNb
    have hbf := HH.out.2.2
    clear HH
    go_wp2_with fail
    go_ret
    exact ⟨rfl, hbf⟩
   subst hNb
   rcases neOr nE 0 with hNe | hNe
   ·have hRf : R = false := by rw [← HR.out]; simp [hNe]
    subst hRf
    have hi0 : ¬ nE = 0 := hNe
    have hi3 : 0 < nE := by omega
    have hi4 : (0 : Int) < (nE : Int) := by omega
    have hbf := HH.out.2.2
    clear HH
    go_wp2_with fail
    go_ret
    exact ⟨rfl, hbf⟩
   subst hNe
   have hRt : R = (mb && me) := by
    rw [← HR.out]
    simp
   have HRT := Lib.hid hRt
   clear hRt
   go_wp2_with fail
   refine hc1.mono ?_
   rintro e w1 ⟨rfl, hb1⟩
   obtain ⟨hs, hSh, hb⟩ := HH.out
   have hs1 := hs.below hb1
   have hSh1 := hSh.below hb1
   have hb2 := hb.trans (hb1.mono hb.size)
   clear hc1 hs hSh hb hb1 p19 p20 q4 q5
   cases mb
   ·have hRf : R = false := by rw [← HR.out]; simp
    subst hRf
    clear hs1 hSh1
    go_wp2_with fail
    go_ret
    exact ⟨rfl, hb2⟩
   obtain ⟨-, -, -, -, -, -, -, -, ae, cape, p20, hels⟩ := hs1.parts
   have hc2 := HB.out se ae cape w1 hSh1 hels HM.out.2
   rw [HM.out.1, HLE.out] at hc2
   rw [HLE.out] at p20
   have hcast : ((d : Int) + 1) = ((d + 1 : Nat) : Int) := by omega
   rw [← hcast] at hc2
   clear hs1 hSh1 hels hcast
   go_wp2_with fail
   refine hc2.mono ?_
   rintro e w3 ⟨rfl, hb3⟩
   have hb4 := hb2.trans (hb3.mono hb2.size)
   clear hc2 hb3 hb2 p20
   have hRt := HRT.out
   subst hRt
   go_wp2_with fail
   go_ret
   exact ⟨rfl, hb4⟩
  ·skip
   rcases neOr nB 0 with hNb | hNb
   ·have hRf : R = false := by rw [← HR.out]; simp [hNb]
    subst hRf
    have hi0 : ¬ nB = 0 := hNb
    have hbf := HH.out.2.2
    clear HH
    go_wp2_with fail
    go_ret
    exact ⟨rfl, hbf⟩
   subst hNb
   have hRt : R = (mb && me) := by
    rw [← HR.out]
    simp
   have HRT := Lib.hid hRt
   clear hRt
   go_wp2_with fail
   refine hc1.mono ?_
   rintro e w1 ⟨rfl, hb1⟩
   obtain ⟨hs, hSh, hb⟩ := HH.out
   have hs1 := hs.below hb1
   have hSh1 := hSh.below hb1
   have hb2 := hb.trans (hb1.mono hb.size)
   clear hc1 hs hSh hb hb1 p19 p20 q4 q5
   cases mb
   ·have hRf : R = false := by rw [← HR.out]; simp
    subst hRf
    clear hs1 hSh1
    go_wp2_with fail
    go_ret
    exact ⟨rfl, hb2⟩
   obtain ⟨-, -, -, -, -, -, -, -, ae, cape, p20, hels⟩ := hs1.parts
   have hc2 := HB.out se ae cape w1 hSh1 hels HM.out.2
   rw [HM.out.1, HLE.out] at hc2
   rw [HLE.out] at p20
   have hcast : ((d : Int) + 1) = ((d + 1 : Nat) : Int) := by omega
   rw [← hcast] at hc2
   clear hs1 hSh1 hels hcast
   go_wp2_with fail
   refine hc2.mono ?_
   rintro e w3 ⟨rfl, hb3⟩
   have hb4 := hb2.trans (hb3.mono hb2.size)
   clear hc2 hb3 hb2 p20
   have hRt := HRT.out
   subst hRt
   go_wp2_with fail
   go_ret
   exact ⟨rfl, hb4⟩
 ·cases b5
  ·skip
   rcases neOr nE 0 with hNe | hNe
   ·have hRf : R = false := by rw [← HR.out]; simp [hNe]
    subst hRf
    have hi0 : ¬ nE = 0 := hNe
    have hi3 : 0 < nE := by omega
    have hi4 : (0 : Int) < (nE : Int) := by omega
    have hbf := HH.out.2.2
    clear HH
    go_wp2_with fail
    go_ret
    exact ⟨rfl, hbf⟩
   subst hNe
   have hRt : R = (mb && me) := by
    rw [← HR.out]
    simp
   have HRT := Lib.hid hRt
   clear hRt
   go_wp2_with fail
   refine hc1.mono ?_
   rintro e w1 ⟨rfl, hb1⟩
   obtain ⟨hs, hSh, hb⟩ := HH.out
   have hs1 := hs.below hb1
   have hSh1 := hSh.below hb1
   have hb2 := hb.trans (hb1.mono hb.size)
   clear hc1 hs hSh hb hb1 p19 p20 q4 q5
   cases mb
   ·have hRf : R = false := by rw [← HR.out]; simp
    subst hRf
    clear hs1 hSh1
    go_wp2_with fail
    go_ret
    exact ⟨rfl, hb2⟩
   obtain ⟨-, -, -, -, -, -, -, -, ae, cape, p20, hels⟩ := hs1.parts
   have hc2 := HB.out se ae cape w1 hSh1 hels HM.out.2
   rw [HM.out.1, HLE.out] at hc2
   rw [HLE.out] at p20
   have hcast : ((d : Int) + 1) = ((d + 1 : Nat) : Int) := by omega
   rw [← hcast] at hc2
   clear hs1 hSh1 hels hcast
   go_wp2_with fail
   refine hc2.mono ?_
   rintro e w3 ⟨rfl, hb3⟩
   have hb4 := hb2.trans (hb3.mono hb2.size)
   clear hc2 hb3 hb2 p20
   have hRt := HRT.out
   subst hRt
   go_wp2_with fail
   go_ret
   exact ⟨rfl, hb4⟩
  ·skip
   have hRt : R = (mb && me) := by
    rw [← HR.out]
    simp
   have HRT := Lib.hid hRt
   clear hRt
   go_wp2_with fail
   refine hc1.mono ?_
   rintro e w1 ⟨rfl, hb1⟩
   obtain ⟨hs, hSh, hb⟩ := HH.out
   have hs1 := hs.below hb1
   have hSh1 := hSh.below hb1
   have hb2 := hb.trans (hb1.mono hb.size)
   clear hc1 hs hSh hb hb1 p19 p20 q4 q5
   cases mb
   ·have hRf : R = false := by rw [← HR.out]; simp
    subst hRf
    clear hs1 hSh1
    go_wp2_with fail
    go_ret
    exact ⟨rfl, hb2⟩
   obtain ⟨-, -, -, -, -, -, -, -, ae, cape, p20, hels⟩ := hs1.parts
   have hc2 := HB.out se ae cape w1 hSh1 hels HM.out.2
   rw [HM.out.1, HLE.out] at hc2
   rw [HLE.out] at p20
   have hcast : ((d : Int) + 1) = ((d + 1 : Nat) : Int) := by omega
   rw [← hcast] at hc2
   clear hs1 hSh1 hels hcast
   go_wp2_with fail
   refine hc2.mono ?_
   rintro e w3 ⟨rfl, hb3⟩
   have hb4 := hb2.trans (hb3.mono hb2.size)
   clear hc2 hb3 hb2 p20
   have hRt := HRT.out
   subst hRt
   go_wp2_with fail
   go_ret
   exact ⟨rfl, hb4⟩
set_option maxHeartbeats 16000000 in
theorem sm_a {w W : World} {q b off d : Nat} {k sl sc : Int} {sn sw : ByteArray} {sx sy : Ex} {sb se : List St} {sid ssl sot : Int} {slo : Bool} {b0 b1 b2 b3 b4 b5 : Bool} {m3 m4 mb me : Bool} (hd : d ≤ 24) (hB : BmOk (d + 1)) (hs : StAt W b off (.mk k sl sc sn sw sx sy sb se sid ssl sot slo)) (hq : Blk W q 210 [.bool b0, .bool b1, .bool b2, .bool b3, .bool b4, .bool b5]) (hSh : Shs W) (hb : Below w.heap.size w W) (hnb : St.nbs sb) (hnb2 : St.nbs se)
  (hmb : stsR isName sb (d + 1) = mb) (hme : stsR isName se (d + 1) = me)
  (c3 : ∀ W, ExAt W b (off + 12) sy → Calls Tryz.prog 157 #[.pointer (some ⟨b, off + 12, none⟩), .bool b3] W fun e w' => e = .returned (.bool m3) ∧ Below W.heap.size W w')
  (c4 : ∀ W, ExAt W b (off + 5) sx → Calls Tryz.prog 157 #[.pointer (some ⟨b, off + 5, none⟩), .bool b2] W fun e w' => e = .returned (.bool m4) ∧ Below W.heap.size W w') {u2 u3 u4 u6 u7 u8 u9 u10 u11 u12 u13 u14 u15 u16 u17 u18 u19 u20 u21 u22 u23 u24 u25 u26 u27 u28 u29 u30 u31 u32 u33 u34 u35 u36 u37 u38 u39 u40 u41 u42 u43 u44 u45 u46 u47 u48 u49 u50 u51 u52 u53 u54 u55 u56 u57 u58 u59 u60 u61 u62 u63 u64 u65 u66 u67 u68 u69 u70 u71 u72 u73 u74 u75 u76 u77 u78 u79 u80 u81 u82 u83 u84 u85 u86 u87 u88 u89 u90 u91 u92 u93 u94 u95 u96 u97 : Value} :
  Code.wp Tryz.prog (dropS 4 (Tryz.f133.body.getD .skip)) (bodyPost Tryz.prog Tryz.f133 (fun e w' => e = .returned (.bool (m3 && (m4 && ((b4 || decide (sb.length = 0)) && ((b5 || decide (se.length = 0)) && (mb && me)))))) ∧ Below w.heap.size w w')) ⟨#[.pointer (some ⟨b, off, none⟩), .int .i64 (d : Int), u2, u3, u4, .pointer (some ⟨q, 0, none⟩), u6, u7, u8, u9, u10, u11, u12, u13, u14, u15, u16, u17, u18, u19, u20, u21, u22, u23, u24, u25, u26, u27, u28, u29, u30, u31, u32, u33, u34, u35, u36, u37, u38, u39, u40, u41, u42, u43, u44, u45, u46, u47, u48, u49, u50, u51, u52, u53, u54, u55, u56, u57, u58, u59, u60, u61, u62, u63, u64, u65, u66, u67, u68, u69, u70, u71, u72, u73, u74, u75, u76, u77, u78, u79, u80, u81, u82, u83, u84, u85, u86, u87, u88, u89, u90, u91, u92, u93, u94, u95, u96, u97], []⟩ W := by
 have hmx : Tryz.prog.follows .mixedOrders = true := by kernel_rfl
 conv in (dropS _ _) => whnf
 have hC : ∀ V, Below W.heap.size W V → StAt V b off (.mk k sl sc sn sw sx sy sb se sid ssl sot slo) ∧ Blk V q 210 [.bool b0, .bool b1, .bool b2, .bool b3, .bool b4, .bool b5] ∧ Shs V ∧ Below w.heap.size w V := fun V hv => ⟨hs.below hv, hq.below hv, hSh.below hv, hb.trans (hv.mono hb.size)⟩
 have HCC := Lib.hid hC
 have HC := Lib.hid (And.intro c3 c4)
 have HBM := Lib.hid (And.intro hB (And.intro hnb (And.intro hnb2 (And.intro hmb hme))))
 clear hs hq hSh hb hC c3 c4 hB hnb hnb2 hmb hme
 refine wp_seq_k fun K hK => ?_
 have HK := Lib.hid hK
 clear hK
 go_wp2_with fail
 refine wp_region_x [] (fun V => Below W.heap.size W V) hmx ?_
 have HS : Hid (Below W.heap.size W W.drew) := Lib.hid ((Below.refl _ W).drew)
 refine wpX_take2 0 (v := ?v0) rfl (by kernel_rfl) (by kernel_rfl) (by kernel_rfl) (by kernel_rfl) (by kernel_rfl) (fun _ _ _ h => h) HS.out (Or.inl ⟨by rfl, ?h0⟩) ?_
 case h0 =>
  intro V1 hS1
  clear hS1
  go_simp
  with_reducible rfl
 refine wpX_take2 1 (v := ?v1) rfl (by kernel_rfl) (by kernel_rfl) (by kernel_rfl) (by kernel_rfl) (by kernel_rfl) (fun _ _ _ h => h) HS.out (Or.inl ⟨by rfl, ?h1⟩) ?_
 case h1 =>
  intro V1 hS1
  clear hS1
  go_simp
  with_reducible rfl
 refine wpX_take2 2 (v := ?v2) rfl (by kernel_rfl) (by kernel_rfl) (by kernel_rfl) (by kernel_rfl) (by kernel_rfl) (fun _ _ _ h => h) HS.out (Or.inl ⟨by rfl, ?h2⟩) ?_
 case h2 =>
  intro V1 hS1
  clear hS1
  go_simp
  with_reducible rfl
 refine wpX_take2 3 (v := ?v3) rfl (by kernel_rfl) (by kernel_rfl) (by kernel_rfl) (by kernel_rfl) (by kernel_rfl) (fun _ _ _ h => h) HS.out (Or.inl ⟨by rfl, ?h3⟩) ?_
 case h3 =>
  intro V1 hS1
  clear hS1
  go_simp
  with_reducible rfl
 refine wpX_take2 4 (v := ?v4) rfl (by kernel_rfl) (by kernel_rfl) (by kernel_rfl) (by kernel_rfl) (by kernel_rfl) (fun _ _ _ h => h) HS.out (Or.inl ⟨by rfl, ?h4⟩) ?_
 case h4 =>
  intro V1 hS1
  have q3 := (HCC.out V1 hS1).2.1.cell 3
  simp only [List.getElem?_cons_succ, List.getElem?_cons_zero] at q3
  clear hS1
  go_simp
  with_reducible rfl
 have hpx := (HCC.out _ HS.out).1.parts
 refine wpX_one 5 (by kernel_rfl) rfl (fun K hK => ?_)
 go_simp
 refine (HC.out.1 _ hpx.2.2.2.2.2.2.1).mono ?_
 rintro e V1 ⟨rfl, hbV1⟩
 have HS : Hid (Below W.heap.size W V1) := Lib.hid (HS.out.trans (hbV1.mono HS.out.size))
 clear hbV1 hpx
 cases m3
 ·skip
  refine hK _ _ (fun _ => HS.out) ?_
  clear hK K
  refine wpX_one 6 (by kernel_rfl) rfl (fun K hK => ?_)
  go_simp
  refine hK _ _ (fun _ => HS.out) ?_
  clear hK K
  refine wpX_one 7 (by kernel_rfl) rfl (fun K hK => ?_)
  go_simp
  refine hK _ _ (fun _ => HS.out) ?_
  clear hK K
  refine wpX_take2 8 (v := undef) rfl (by kernel_rfl) (by kernel_rfl) (by kernel_rfl) (by kernel_rfl) (by kernel_rfl) (fun _ _ _ h => h) HS.out (Or.inr ⟨by rfl, rfl⟩) ?_
  refine wpX_take2 9 (v := undef) rfl (by kernel_rfl) (by kernel_rfl) (by kernel_rfl) (by kernel_rfl) (by kernel_rfl) (fun _ _ _ h => h) HS.out (Or.inr ⟨by rfl, rfl⟩) ?_
  refine wpX_take2 10 (v := undef) rfl (by kernel_rfl) (by kernel_rfl) (by kernel_rfl) (by kernel_rfl) (by kernel_rfl) (fun _ _ _ h => h) HS.out (Or.inr ⟨by rfl, rfl⟩) ?_
  refine wpX_take2 11 (v := undef) rfl (by kernel_rfl) (by kernel_rfl) (by kernel_rfl) (by kernel_rfl) (by kernel_rfl) (fun _ _ _ h => h) HS.out (Or.inr ⟨by rfl, rfl⟩) ?_
  refine wpX_take2 12 (v := undef) rfl (by kernel_rfl) (by kernel_rfl) (by kernel_rfl) (by kernel_rfl) (by kernel_rfl) (fun _ _ _ h => h) HS.out (Or.inr ⟨by rfl, rfl⟩) ?_
  refine wpX_take2 13 (v := undef) rfl (by kernel_rfl) (by kernel_rfl) (by kernel_rfl) (by kernel_rfl) (by kernel_rfl) (fun _ _ _ h => h) HS.out (Or.inr ⟨by rfl, rfl⟩) ?_
  refine wpX_take2 14 (v := undef) rfl (by kernel_rfl) (by kernel_rfl) (by kernel_rfl) (by kernel_rfl) (by kernel_rfl) (fun _ _ _ h => h) HS.out (Or.inr ⟨by rfl, rfl⟩) ?_
  refine wpX_one 15 (by kernel_rfl) rfl (fun K hK => ?_)
  go_simp
  refine hK _ _ (fun _ => HS.out) ?_
  clear hK K
  refine wpX_done (by kernel_rfl) ?_ _
  try simp only [Bool.false_and, Bool.true_and]
  have hbf := (HCC.out V1 HS.out).2.2.2
  go_wp2_with fail
  go_ret
  exact ⟨rfl, hbf⟩
 refine hK _ _ (fun _ => HS.out) ?_
 clear hK K
 refine wpX_one 6 (by kernel_rfl) rfl (fun K hK => ?_)
 go_simp
 refine hK _ _ (fun _ => HS.out) ?_
 clear hK K
 refine wpX_one 7 (by kernel_rfl) rfl (fun K hK => ?_)
 go_simp
 refine hK _ _ (fun _ => HS.out) ?_
 clear hK K
 refine wpX_take2 8 (v := ?v8) rfl (by kernel_rfl) (by kernel_rfl) (by kernel_rfl) (by kernel_rfl) (by kernel_rfl) (fun _ _ _ h => h) HS.out (Or.inl ⟨by rfl, ?h8⟩) ?_
 case h8 =>
  intro V1 hS1
  clear hS1
  go_simp
  with_reducible rfl
 refine wpX_take2 9 (v := ?v9) rfl (by kernel_rfl) (by kernel_rfl) (by kernel_rfl) (by kernel_rfl) (by kernel_rfl) (fun _ _ _ h => h) HS.out (Or.inl ⟨by rfl, ?h9⟩) ?_
 case h9 =>
  intro V1 hS1
  clear hS1
  go_simp
  with_reducible rfl
 refine wpX_take2 10 (v := ?v10) rfl (by kernel_rfl) (by kernel_rfl) (by kernel_rfl) (by kernel_rfl) (by kernel_rfl) (fun _ _ _ h => h) HS.out (Or.inl ⟨by rfl, ?h10⟩) ?_
 case h10 =>
  intro V1 hS1
  clear hS1
  go_simp
  with_reducible rfl
 refine wpX_take2 11 (v := ?v11) rfl (by kernel_rfl) (by kernel_rfl) (by kernel_rfl) (by kernel_rfl) (by kernel_rfl) (fun _ _ _ h => h) HS.out (Or.inl ⟨by rfl, ?h11⟩) ?_
 case h11 =>
  intro V1 hS1
  clear hS1
  go_simp
  with_reducible rfl
 refine wpX_take2 12 (v := ?v12) rfl (by kernel_rfl) (by kernel_rfl) (by kernel_rfl) (by kernel_rfl) (by kernel_rfl) (fun _ _ _ h => h) HS.out (Or.inl ⟨by rfl, ?h12⟩) ?_
 case h12 =>
  intro V1 hS1
  have q2 := (HCC.out V1 hS1).2.1.cell 2
  simp only [List.getElem?_cons_succ, List.getElem?_cons_zero] at q2
  clear hS1
  go_simp
  with_reducible rfl
 have hpx := (HCC.out _ HS.out).1.parts
 refine wpX_one 13 (by kernel_rfl) rfl (fun K hK => ?_)
 go_simp
 refine (HC.out.2 _ hpx.2.2.2.2.2.1).mono ?_
 rintro e V2 ⟨rfl, hbV2⟩
 have HS : Hid (Below W.heap.size W V2) := Lib.hid (HS.out.trans (hbV2.mono HS.out.size))
 clear hbV2 hpx
 cases m4
 ·skip
  refine hK _ _ (fun _ => HS.out) ?_
  clear hK K
  refine wpX_one 14 (by kernel_rfl) rfl (fun K hK => ?_)
  go_simp
  refine hK _ _ (fun _ => HS.out) ?_
  clear hK K
  refine wpX_one 15 (by kernel_rfl) rfl (fun K hK => ?_)
  go_simp
  refine hK _ _ (fun _ => HS.out) ?_
  clear hK K
  refine wpX_done (by kernel_rfl) ?_ _
  try simp only [Bool.false_and, Bool.true_and]
  have hbf := (HCC.out V2 HS.out).2.2.2
  go_wp2_with fail
  go_ret
  exact ⟨rfl, hbf⟩
 refine hK _ _ (fun _ => HS.out) ?_
 clear hK K
 refine wpX_one 14 (by kernel_rfl) rfl (fun K hK => ?_)
 go_simp
 refine hK _ _ (fun _ => HS.out) ?_
 clear hK K
 refine wpX_one 15 (by kernel_rfl) rfl (fun K hK => ?_)
 go_simp
 refine hK _ _ (fun _ => HS.out) ?_
 clear hK K
 refine wpX_done (by kernel_rfl) ?_ _
 try simp only [Bool.true_and]
 obtain ⟨hs, hq, hSh, hb⟩ := HCC.out V2 HS.out
 go_wp2_with fail
 exact HK.out _ _ (sm_b hd HBM.out.1 hs hq hSh hb HBM.out.2.1 HBM.out.2.2.1 HBM.out.2.2.2.1 HBM.out.2.2.2.2)
end Go.Proofs.YtjmlmelcppbefaaGreatDoor
