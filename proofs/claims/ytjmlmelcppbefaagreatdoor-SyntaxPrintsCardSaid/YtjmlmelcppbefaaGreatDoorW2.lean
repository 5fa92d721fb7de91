/- W2: texts of one kind, one behind the other. No condition but what each law says. -/
import Derived.Test.YtjmlmelcppbefaaGreatDoorT40
import Derived.Test.YtjmlmelcppbefaaGreatDoorT42
namespace Go.Proofs.YtjmlmelcppbefaaGreatDoor
open Go.RowKit
set_option maxRecDepth 100000 in
set_option maxHeartbeats 4000000 in
theorem rname_any (s : ByteArray) (w : World) (_hs : s.size ≤ 9223372036854775807) : Calls Tryz.prog 46 #[.string s] w fun e w' => e = .returned (.bool (isName s)) ∧ Below w.heap.size w w' := by
  by_cases h0 : s.size = 0
  · have h0i : (s.size : Int) < 1 := by omega
    rw [show isName s = false by unfold isName; rw [decide_eq_false (by omega)]; rfl]
    clear h0
    go_enter Tryz.func46, Tryz.ntmps46
    go_wp2
    go_ret
    exact ⟨rfl, Below.refl _ _⟩
  · have hpos : 0 < s.size := by omega
    have h0i : ¬ (s.size : Int) < 1 := by omega
    by_cases h16 : s.size ≤ 16
    · have h16i : ¬ (16 : Int) < (s.size : Int) := by omega
      have hz0 : (0 : Int) < (s.size : Int) := by omega
      have hb0 := byte_at hpos
      obtain ⟨c, hc⟩ : ∃ c, byte s 0 = c := ⟨_, rfl⟩
      rw [hc] at hb0
      obtain ⟨q, hq⟩ : ∃ q, isLet c = q := ⟨_, rfl⟩
      obtain ⟨kw, hkw⟩ : ∃ kw, isKw s.data.toList = kw := ⟨_, rfl⟩
      obtain ⟨R, hR⟩ : ∃ R, isName s = R := ⟨_, rfl⟩
      rw [hR]
      have hR2 : R = (q && (s.data.toList.all isAny && !kw)) := by
        rw [← hR]
        unfold isName
        rw [decide_eq_true hpos, decide_eq_true h16, hc, hq, hkw]
        rfl
      have HR := Lib.hid hR2
      have cl := rletter_any c w
      rw [hq] at cl
      have ck := rkeyword_any s w
      rw [hkw] at ck
      clear hR hR2 hc hq h0 hkw
      go_enter Tryz.func46, Tryz.ntmps46
      go_wp2_with fail
      refine cl.mono ?_
      rintro e w' ⟨rfl, rfl⟩
      cases q
      · obtain rfl : R = false := HR.out
        go_wp2
        go_ret
        exact ⟨rfl, Below.refl _ _⟩
      · clear cl hb0
        go_wp2_with fail
        refine ck.mono ?_
        rintro e w1 ⟨rfl, hb1⟩
        clear ck
        cases kw
        · go_wp2_with fail
          go_loopw [3] (fun i wr => ∃ k : Nat, k ≤ s.size ∧ i = .int .i64 k ∧ w1 = wr ∧ Hid ((s.data.toList.drop k).all isAny = R)) (fun i _ => s.size - (intOf i).toNat)
          case atStart => exact ⟨0, by omega, rfl, rfl, Lib.hid (by rw [HR.out]; simp)⟩
          case round =>
            obtain ⟨k, hk, rfl, rfl, HJ⟩ := hrel
            by_cases hks : k < s.size
            · have hz : (k : Int) < (s.size : Int) := by omega
              have hbt := byte_at hks
              obtain ⟨d, hd⟩ : ∃ d, byte s k = d := ⟨_, rfl⟩
              have hdr := drop_byte hks
              rw [hd] at hbt hdr
              obtain ⟨q1, h1⟩ : ∃ q, isLet d = q := ⟨_, rfl⟩
              obtain ⟨q2, h2⟩ : ∃ q, isDig d = q := ⟨_, rfl⟩
              have c1 := rletter_any d w1
              have c2 := rdigit_any d w1
              rw [h1] at c1
              rw [h2] at c2
              have hJ2 : ((q1 || q2) && (s.data.toList.drop (k + 1)).all isAny) = R := by
                rw [← HJ.out, hdr, List.all_cons]
                unfold isAny
                rw [h1, h2]
              have HJ2 := Lib.hid hJ2
              clear h1 h2 hd hdr hJ2
              go_wp2_with fail
              refine c1.mono ?_
              rintro e w' ⟨rfl, rfl⟩
              cases q1
              · go_wp2_with fail
                refine c2.mono ?_
                rintro e w' ⟨rfl, rfl⟩
                cases q2
                · obtain rfl : R = false := by rw [← HJ2.out]; rfl
                  go_wp2
                  go_ret
                  exact ⟨rfl, hb1⟩
                · have HJ3 := Lib.hid (show (s.data.toList.drop (k + 1)).all isAny = R by rw [← HJ2.out]; rfl)
                  go_wp2
                  go_roundw
                  case rel => exact ⟨k + 1, by omega, by go_num, trivial, HJ3⟩
                  case measure => simp [intOf]; omega
              · have HJ3 := Lib.hid (show (s.data.toList.drop (k + 1)).all isAny = R by rw [← HJ2.out]; rfl)
                go_wp2
                go_roundw
                case rel => exact ⟨k + 1, by omega, by go_num, trivial, HJ3⟩
                case measure => simp [intOf]; omega
            · obtain rfl : k = s.size := by omega
              obtain rfl : R = true := by
                rw [← HJ.out, List.drop_eq_nil_of_le (by rw [size_list]; exact Nat.le_refl _)]
                rfl
              go_wp2
              go_ret
              exact ⟨rfl, hb1⟩
        · obtain rfl : R = false := by rw [HR.out]; simp
          go_wp2
          go_ret
          exact ⟨rfl, hb1⟩
    · have h16i : (16 : Int) < (s.size : Int) := by omega
      rw [show isName s = false by unfold isName; rw [decide_eq_true hpos, decide_eq_false h16]; rfl]
      clear h0 h16 hpos
      go_enter Tryz.func46, Tryz.ntmps46
      go_wp2
      go_ret
      exact ⟨rfl, Below.refl _ _⟩
end Go.Proofs.YtjmlmelcppbefaaGreatDoor
namespace Go.Proofs.YtjmlmelcppbefaaGreatDoor
open Go.RowKit Go.Maps
def RgOk (d : Nat) : Prop := ∀ (x : Ex) (cs : List Value) (w : World), x.nb → ExL (fun _ => True) w cs x → Calls Tryz.prog 27 #[.agg cs.toArray, .int .i64 (d : Int)] w fun e w' => e = .returned (.bool (exR isName x d)) ∧ Below w.heap.size w w'
set_option maxRecDepth 100000 in
set_option maxHeartbeats 4000000 in
theorem rg_tail {w V : World} {z d ar : Nat} {ok : Bool} {k n : Int} {s : ByteArray} {sl : Int} {lo : Bool} {op : Int} {a : Option Addr} {cap : Nat} {args : List Ex} (hd : d ≤ 24) (har : ar ≤ 2) (ih : RgOk d) (hb : Below w.heap.size w V) (hz : Blk V z 46 [.int .i64 k, .int .i64 n, .string s, .int .i64 sl, .bool lo, .int .i64 op, .slice a args.length cap]) (hat : XlAt V a args) (hroom : Roomy args.length cap) (hnb : Ex.nbs args) {u0 u3 u4 u7 u8 u9 u10 u11 u12 u13 u14 u15 u16 u17 u18 u19 u20 u21 u22 u23 u24 u25 u26 u27 u28 u29 u30 u31 u32 u33 u34 u35 u36 u37 u38 u39 u40 u41 u42 u43 u44 u45 u46 u47 u48 u49 u50 u51 u52 u53 u54 u55 u56 u57 u58 u59 u60 u61 u62 u63 u64 u65 u66 u67 u68 u69 u70 u71 u72 u73 u74 u75 u76 u77 u78 u79 u80 u81 u82 u83 u84 u85 u86 u87 u88 u89 u90 u91 u92 u93 u94 u95 u96 u97 u98 u99 u100 u101 u102 : Value} :
    Code.wp Tryz.prog (dropS 4 (Tryz.f27.body.getD .skip)) (bodyPost Tryz.prog Tryz.f27 (fun e w' => e = .returned (.bool (ok && (decide (args.length = ar) && exsR isName args d))) ∧ Below w.heap.size w w')) ⟨#[u0, .int .i64 ((d + 1 : Nat) : Int), .pointer (some ⟨z, 0, none⟩), u3, u4, .int .i64 (ar : Int), .bool ok, u7, u8, u9, u10, u11, u12, u13, u14, u15, u16, u17, u18, u19, u20, u21, u22, u23, u24, u25, u26, u27, u28, u29, u30, u31, u32, u33, u34, u35, u36, u37, u38, u39, u40, u41, u42, u43, u44, u45, u46, u47, u48, u49, u50, u51, u52, u53, u54, u55, u56, u57, u58, u59, u60, u61, u62, u63, u64, u65, u66, u67, u68, u69, u70, u71, u72, u73, u74, u75, u76, u77, u78, u79, u80, u81, u82, u83, u84, u85, u86, u87, u88, u89, u90, u91, u92, u93, u94, u95, u96, u97, u98, u99, u100, u101, u102], []⟩ V := by
  obtain ⟨d46, hu46, hr46⟩ := under46
  obtain ⟨N, hN⟩ : ∃ N, args.length = N := ⟨_, rfl⟩
  obtain ⟨R, hR⟩ : ∃ R, exsR isName (args.drop 0) d = R := ⟨_, rfl⟩
  rw [show exsR isName args d = R from hR]
  rw [hN] at hz hroom ⊢
  have HN := Lib.hid hN
  have HR := Lib.hid hR
  have HE := Lib.hid (And.intro hb (And.intro hz hat))
  have HNB := Lib.hid hnb
  have z6 := hz.cell 6
  simp only [List.getElem?_cons_succ, List.getElem?_cons_zero] at z6
  clear hN hR hz hat hnb
  cases ok
  · rw [Bool.false_and]
    conv in (dropS _ _) => whnf
    clear HE z6
    go_wp2_with fail
    go_ret
    exact ⟨rfl, hb⟩
  rw [Bool.true_and]
  rcases neOr N ar with hk | hk
  · rw [decide_eq_false hk, Bool.false_and]
    conv in (dropS _ _) => whnf
    have hk2 : ¬ (N : Int) = (ar : Int) := by omega
    clear HE
    go_wp2_with fail
    go_ret
    exact ⟨rfl, hb⟩
  subst hk
  rw [decide_eq_true rfl, Bool.true_and]
  conv in (dropS _ _) => whnf
  clear hb
  go_wp2_with fail
  clear z6
  go_loopg [7] N (fun x iv wr => ∃ i : Nat, i ≤ N ∧ x = N - i ∧ iv = .int .i64 (i : Int) ∧ Hid (Below w.heap.size w wr ∧ Blk wr z 46 [.int .i64 k, .int .i64 n, .string s, .int .i64 sl, .bool lo, .int .i64 op, .slice a N cap] ∧ XlAt wr a args) ∧ Hid (exsR isName (args.drop i) d = R))
  case atStart => exact ⟨0, Nat.zero_le _, rfl, rfl, HE, HR⟩
  case round =>
    clear HE HR
    obtain ⟨i, hi, rfl, rfl, HE, HR⟩ := hrel
    obtain ⟨hb1, hz1, h1⟩ := HE.out
    have z6 := hz1.cell 6
    simp only [List.getElem?_cons_succ, List.getElem?_cons_zero] at z6
    by_cases hiN : i < N
    · have hlt : (i : Int) < (N : Int) := by omega
      have hp0 : (0 : Int) ≤ (i : Int) := by omega
      have hrm : (i : Int) + 1 ≤ 9223372036854775807 := by omega
      obtain ⟨b2, off2, cs, rfl, hr, hx⟩ := h1.at (j := i) (by rw [HN.out]; exact hiN)
      have hxn := Ex.nbs_at HNB.out (j := i) (by rw [HN.out]; exact hiN)
      have hcl := ih (args.getD i zEx) cs wr hxn hx
      have hl := hx.cells.1
      have hde : (((d + 1 : Nat) : Int) - 1) = (d : Int) := by omega
      have hR := HR.out
      rw [exsR_drop (by rw [HN.out]; exact hiN)] at hR
      obtain ⟨m, hm⟩ : ∃ m, exR isName (args.getD i zEx) d = m := ⟨_, rfl⟩
      rw [hm] at hcl hR
      have HR2 := Lib.hid hR
      have HRg := Lib.hid hr
      have HL := Lib.hid hl
      clear hx hxn hr hl hm hR HR
      go_wp2_with ((with_reducible show wpList _ _ _ (Oper.mk _ (.load 46 _) _ _ _ _ :: _) _ _); refine wpList_load_mid rfl 46 (.tmp 97) rfl b2 (off2 + i * 7) rfl cs d46 HRg.out hu46 hr46 (by rw [HL.out]; exact info46) ?_)
      refine hcl.mono ?_
      rintro e w2 ⟨rfl, hb2⟩
      have hb3 := hb1.trans (hb2.mono hb1.size)
      cases m
      · have hRf : R = false := HR2.out.symm
        subst hRf
        clear HE hcl z6 h1 hz1 hb1 hb2
        go_wp2_with fail
        go_ret
        exact ⟨rfl, hb3⟩
      · have HR3 : Hid (exsR isName (args.drop (i + 1)) d = R) := Lib.hid HR2.out
        have HE3 := Lib.hid (And.intro hb3 (And.intro (hz1.below hb2) (h1.below hb2)))
        clear HE hcl z6 h1 hz1 hb1 hb2 hb3 HR2
        go_wp2_with fail
        go_roundg (N - (i + 1))
        case measure => omega
        case rel => exact ⟨i + 1, by omega, rfl, rfl, HE3, HR3⟩
    · obtain rfl : i = N := by omega
      have hlt : ¬ (i : Int) < (i : Int) := by omega
      have hRt : R = true := by
        rw [← HR.out, List.drop_eq_nil_of_le (by rw [HN.out]; exact Nat.le_refl _)]
        rfl
      subst hRt
      clear h1 hz1 HE z6
      go_wp2_with fail
      go_ret
      exact ⟨rfl, hb1⟩
set_option maxRecDepth 100000 in
set_option maxHeartbeats 4000000 in
theorem rg_1 {w : World} {d : Nat} {n : Int} {s : ByteArray} {sl : Int} {lo : Bool} {op : Int} {a : Option Addr} {cap : Nat} {args : List Ex} (hd : d ≤ 24) (ih : RgOk d) (hat : XlAt w a args) (hroom : Roomy args.length cap) (hs : s.size ≤ 9223372036854775807) (hnb : Ex.nbs args) :
    Calls Tryz.prog 27 #[.agg #[.int .i64 1, .int .i64 n, .string s, .int .i64 sl, .bool lo, .int .i64 op, .slice a args.length cap], .int .i64 ((d + 1 : Nat) : Int)] w fun e w' => e = .returned (.bool (exR isName (.mk 1 n s sl lo op args) (d + 1))) ∧ Below w.heap.size w w' := by
  obtain ⟨R, hR⟩ : ∃ R, exR isName (.mk 1 n s sl lo op args) (d + 1) = R := ⟨_, rfl⟩
  rw [hR]
  rw [exR_eq] at hR
  have hd1 : ¬ ((d + 1 : Nat) : Int) < 1 := by omega
  have hb0 : Below w.heap.size w (w.alloc (.cells #[.int .i64 1, .int .i64 n, .string s, .int .i64 sl, .bool lo, .int .i64 op, .slice a args.length cap] 46)) := (Below.refl _ w).alloc (Nat.le_refl _) _
  have hz0 := Blk.new w 46 [.int .i64 1, .int .i64 n, .string s, .int .i64 sl, .bool lo, .int .i64 op, .slice a args.length cap]
  have hat0 := hat.below hb0
  have HB := Lib.hid hb0
  have HZ := Lib.hid (And.intro hz0 hat0)
  clear hb0 hz0 hat0 hat
  go_enter Tryz.func27, Tryz.ntmps27
  refine wp_seq_k fun K hK => ?_
  have HK := Lib.hid hK
  clear hK
  go_wp2_with fail
  refine HK.out _ _ ?_
  clear HK K
  obtain ⟨z, hzz⟩ : ∃ z, w.heap.size = z := ⟨_, rfl⟩
  rw [hzz] at HZ
  generalize w.alloc (.cells #[.int .i64 1, .int .i64 n, .string s, .int .i64 sl, .bool lo, .int .i64 op, .slice a args.length cap] 46) = V0 at *
  rw [hzz]
  have c0 := HZ.out.1.cell 0
  have c1 := HZ.out.1.cell 1
  have c2 := HZ.out.1.cell 2
  have c5 := HZ.out.1.cell 5
  simp only [List.getElem?_cons_succ, List.getElem?_cons_zero] at c0 c1 c2 c5
  rcases neOr s noB with hse | hse
  · have hRf : R = false := by
      rw [← hR]
      simp [hse]
    subst hRf
    have hs2 : ¬ s.toList = [] := fun e => hse (toListInj (e.trans noB_list.symm))
    have hs3 : s.toList.isEmpty = false := by rw [isE_eq]; exact decide_eq_false hse
    clear hR
    go_wp2_with fail
    go_ret
    exact ⟨rfl, by rw [← hzz]; exact HB.out⟩
  subst hse
  have hnl : noB.toList = [] := noB_list
  have hnl2 : noB.toList.isEmpty = true := by rw [noB_list]; rfl
  rcases neOr op 0 with ho | ho
  · have hRf : R = false := by
      rw [← hR]
      simp [ho]
    subst hRf
    have ho2 : (op != 0) = true := by simpa using ho
    clear hR
    go_wp2_with fail
    go_ret
    exact ⟨rfl, by rw [← hzz]; exact HB.out⟩
  subst ho
  have HC := Lib.hid hR
  clear hR
  have hcs : (0 ≤ n ∧ n ≤ 2147483647) ∨ ¬ 0 ≤ n ∨ (0 ≤ n ∧ ¬ n ≤ 2147483647) := by omega
  rcases hcs with ⟨g1, g2⟩ | g1 | ⟨g1, g2⟩
  · skip
    have hRe : R = (true && (decide (args.length = 0) && exsR isName args d)) := by
      rw [← HC.out]
      simp [kindOk, arity, g1, g2]
    subst hRe
    clear HC
    refine wp_seq_k fun K hK => ?_
    have HK := Lib.hid hK
    clear hK
    go_wp2_with fail
    refine HK.out _ _ ?_
    clear HK K
    refine wp_seq_k fun K hK => ?_
    have HK := Lib.hid hK
    clear hK
    go_wp2_with fail
    refine HK.out _ _ ?_
    clear HK K
    refine wp_seq_k fun K hK => ?_
    have HK := Lib.hid hK
    clear hK
    go_wp2_with fail
    refine HK.out _ _ ?_
    clear HK K
    have hbx := Below.refl V0.heap.size V0
    have hz2 := HZ.out.1.below hbx
    have hat2 := HZ.out.2.below hbx
    have hb2 := HB.out.trans (hbx.mono HB.out.size)
    subst hzz
    exact rg_tail (ok := true) (ar := 0) hd (by decide) ih hb2 hz2 hat2 hroom hnb
  · skip
    have hRe : R = (false && (decide (args.length = 0) && exsR isName args d)) := by
      rw [← HC.out]
      simp [kindOk, arity, g1]
    subst hRe
    clear HC
    refine wp_seq_k fun K hK => ?_
    have HK := Lib.hid hK
    clear hK
    go_wp2_with fail
    refine HK.out _ _ ?_
    clear HK K
    refine wp_seq_k fun K hK => ?_
    have HK := Lib.hid hK
    clear hK
    go_wp2_with fail
    refine HK.out _ _ ?_
    clear HK K
    refine wp_seq_k fun K hK => ?_
    have HK := Lib.hid hK
    clear hK
    go_wp2_with fail
    refine HK.out _ _ ?_
    clear HK K
    have hbx := Below.refl V0.heap.size V0
    have hz2 := HZ.out.1.below hbx
    have hat2 := HZ.out.2.below hbx
    have hb2 := HB.out.trans (hbx.mono HB.out.size)
    subst hzz
    exact rg_tail (ok := false) (ar := 0) hd (by decide) ih hb2 hz2 hat2 hroom hnb
  · skip
    have hRe : R = (false && (decide (args.length = 0) && exsR isName args d)) := by
      rw [← HC.out]
      simp [kindOk, arity, g1, g2]
    subst hRe
    clear HC
    have g3 : 2147483647 < n := by omega
    have g4 : decide (n ≤ 2147483647) = false := decide_eq_false g2
    refine wp_seq_k fun K hK => ?_
    have HK := Lib.hid hK
    clear hK
    go_wp2_with fail
    refine HK.out _ _ ?_
    clear HK K
    refine wp_seq_k fun K hK => ?_
    have HK := Lib.hid hK
    clear hK
    go_wp2_with fail
    refine HK.out _ _ ?_
    clear HK K
    refine wp_seq_k fun K hK => ?_
    have HK := Lib.hid hK
    clear hK
    go_wp2_with fail
    refine HK.out _ _ ?_
    clear HK K
    have hbx := Below.refl V0.heap.size V0
    have hz2 := HZ.out.1.below hbx
    have hat2 := HZ.out.2.below hbx
    have hb2 := HB.out.trans (hbx.mono HB.out.size)
    subst hzz
    exact rg_tail (ok := false) (ar := 0) hd (by decide) ih hb2 hz2 hat2 hroom hnb
set_option maxRecDepth 100000 in
set_option maxHeartbeats 4000000 in
theorem rg_2 {w : World} {d : Nat} {n : Int} {s : ByteArray} {sl : Int} {lo : Bool} {op : Int} {a : Option Addr} {cap : Nat} {args : List Ex} (hd : d ≤ 24) (ih : RgOk d) (hat : XlAt w a args) (hroom : Roomy args.length cap) (hs : s.size ≤ 9223372036854775807) (hnb : Ex.nbs args) :
    Calls Tryz.prog 27 #[.agg #[.int .i64 2, .int .i64 n, .string s, .int .i64 sl, .bool lo, .int .i64 op, .slice a args.length cap], .int .i64 ((d + 1 : Nat) : Int)] w fun e w' => e = .returned (.bool (exR isName (.mk 2 n s sl lo op args) (d + 1))) ∧ Below w.heap.size w w' := by
  obtain ⟨R, hR⟩ : ∃ R, exR isName (.mk 2 n s sl lo op args) (d + 1) = R := ⟨_, rfl⟩
  rw [hR]
  rw [exR_eq] at hR
  have hd1 : ¬ ((d + 1 : Nat) : Int) < 1 := by omega
  have hb0 : Below w.heap.size w (w.alloc (.cells #[.int .i64 2, .int .i64 n, .string s, .int .i64 sl, .bool lo, .int .i64 op, .slice a args.length cap] 46)) := (Below.refl _ w).alloc (Nat.le_refl _) _
  have hz0 := Blk.new w 46 [.int .i64 2, .int .i64 n, .string s, .int .i64 sl, .bool lo, .int .i64 op, .slice a args.length cap]
  have hat0 := hat.below hb0
  have HB := Lib.hid hb0
  have HZ := Lib.hid (And.intro hz0 hat0)
  clear hb0 hz0 hat0 hat
  go_enter Tryz.func27, Tryz.ntmps27
  refine wp_seq_k fun K hK => ?_
  have HK := Lib.hid hK
  clear hK
  go_wp2_with fail
  refine HK.out _ _ ?_
  clear HK K
  obtain ⟨z, hzz⟩ : ∃ z, w.heap.size = z := ⟨_, rfl⟩
  rw [hzz] at HZ
  generalize w.alloc (.cells #[.int .i64 2, .int .i64 n, .string s, .int .i64 sl, .bool lo, .int .i64 op, .slice a args.length cap] 46) = V0 at *
  rw [hzz]
  have c0 := HZ.out.1.cell 0
  have c1 := HZ.out.1.cell 1
  have c2 := HZ.out.1.cell 2
  have c5 := HZ.out.1.cell 5
  simp only [List.getElem?_cons_succ, List.getElem?_cons_zero] at c0 c1 c2 c5
  rcases neOr n 0 with hn | hn
  · have hRf : R = false := by
      rw [← hR]
      simp [hn]
    subst hRf
    have hn2 : (n != 0) = true := by simpa using hn
    clear hR
    go_wp2_with fail
    go_ret
    exact ⟨rfl, by rw [← hzz]; exact HB.out⟩
  subst hn
  rcases neOr op 0 with ho | ho
  · have hRf : R = false := by
      rw [← hR]
      simp [ho]
    subst hRf
    have ho2 : (op != 0) = true := by simpa using ho
    clear hR
    go_wp2_with fail
    go_ret
    exact ⟨rfl, by rw [← hzz]; exact HB.out⟩
  subst ho
  have HC := Lib.hid hR
  clear hR
  have hRe : R = (isName s && (decide (args.length = 0) && exsR isName args d)) := by
    rw [← HC.out]
    simp [kindOk, arity]
  subst hRe
  clear HC
  have hnm := fun V => rname_any s V hs
  refine wp_seq_k fun K hK => ?_
  have HK := Lib.hid hK
  clear hK
  go_wp2_with fail
  refine HK.out _ _ ?_
  clear HK K
  refine wp_seq_k fun K hK => ?_
  have HK := Lib.hid hK
  clear hK
  go_wp2_with fail
  refine HK.out _ _ ?_
  clear HK K
  refine wp_seq_k fun K hK => ?_
  have HK := Lib.hid hK
  clear hK
  go_wp2_with fail
  refine (hnm _).mono ?_
  rintro e V1 ⟨rfl, hbn⟩
  have HBN := Lib.hid hbn
  clear hbn hnm
  go_wp2_with fail
  refine HK.out _ _ ?_
  clear HK K
  have hbx := HBN.out
  have hz2 := HZ.out.1.below hbx
  have hat2 := HZ.out.2.below hbx
  have hb2 := HB.out.trans (hbx.mono HB.out.size)
  subst hzz
  exact rg_tail (ok := isName s) (ar := 0) hd (by decide) ih hb2 hz2 hat2 hroom hnb
set_option maxRecDepth 100000 in
set_option maxHeartbeats 4000000 in
theorem rg_3 {w : World} {d : Nat} {n : Int} {s : ByteArray} {sl : Int} {lo : Bool} {op : Int} {a : Option Addr} {cap : Nat} {args : List Ex} (hd : d ≤ 24) (ih : RgOk d) (hat : XlAt w a args) (hroom : Roomy args.length cap) (hs : s.size ≤ 9223372036854775807) (hnb : Ex.nbs args) :
    Calls Tryz.prog 27 #[.agg #[.int .i64 3, .int .i64 n, .string s, .int .i64 sl, .bool lo, .int .i64 op, .slice a args.length cap], .int .i64 ((d + 1 : Nat) : Int)] w fun e w' => e = .returned (.bool (exR isName (.mk 3 n s sl lo op args) (d + 1))) ∧ Below w.heap.size w w' := by
  obtain ⟨R, hR⟩ : ∃ R, exR isName (.mk 3 n s sl lo op args) (d + 1) = R := ⟨_, rfl⟩
  rw [hR]
  rw [exR_eq] at hR
  have hd1 : ¬ ((d + 1 : Nat) : Int) < 1 := by omega
  have hb0 : Below w.heap.size w (w.alloc (.cells #[.int .i64 3, .int .i64 n, .string s, .int .i64 sl, .bool lo, .int .i64 op, .slice a args.length cap] 46)) := (Below.refl _ w).alloc (Nat.le_refl _) _
  have hz0 := Blk.new w 46 [.int .i64 3, .int .i64 n, .string s, .int .i64 sl, .bool lo, .int .i64 op, .slice a args.length cap]
  have hat0 := hat.below hb0
  have HB := Lib.hid hb0
  have HZ := Lib.hid (And.intro hz0 hat0)
  clear hb0 hz0 hat0 hat
  go_enter Tryz.func27, Tryz.ntmps27
  refine wp_seq_k fun K hK => ?_
  have HK := Lib.hid hK
  clear hK
  go_wp2_with fail
  refine HK.out _ _ ?_
  clear HK K
  obtain ⟨z, hzz⟩ : ∃ z, w.heap.size = z := ⟨_, rfl⟩
  rw [hzz] at HZ
  generalize w.alloc (.cells #[.int .i64 3, .int .i64 n, .string s, .int .i64 sl, .bool lo, .int .i64 op, .slice a args.length cap] 46) = V0 at *
  rw [hzz]
  have c0 := HZ.out.1.cell 0
  have c1 := HZ.out.1.cell 1
  have c2 := HZ.out.1.cell 2
  have c5 := HZ.out.1.cell 5
  simp only [List.getElem?_cons_succ, List.getElem?_cons_zero] at c0 c1 c2 c5
  rcases neOr n 0 with hn | hn
  · have hRf : R = false := by
      rw [← hR]
      simp [hn]
    subst hRf
    have hn2 : (n != 0) = true := by simpa using hn
    clear hR
    go_wp2_with fail
    go_ret
    exact ⟨rfl, by rw [← hzz]; exact HB.out⟩
  subst hn
  rcases neOr op 0 with ho | ho
  · have hRf : R = false := by
      rw [← hR]
      simp [ho]
    subst hRf
    have ho2 : (op != 0) = true := by simpa using ho
    clear hR
    go_wp2_with fail
    go_ret
    exact ⟨rfl, by rw [← hzz]; exact HB.out⟩
  subst ho
  have HC := Lib.hid hR
  clear hR
  have hRe : R = (isName s && (decide (args.length = 1) && exsR isName args d)) := by
    rw [← HC.out]
    simp [kindOk, arity]
  subst hRe
  clear HC
  have hnm := fun V => rname_any s V hs
  refine wp_seq_k fun K hK => ?_
  have HK := Lib.hid hK
  clear hK
  go_wp2_with fail
  refine HK.out _ _ ?_
  clear HK K
  refine wp_seq_k fun K hK => ?_
  have HK := Lib.hid hK
  clear hK
  go_wp2_with fail
  refine HK.out _ _ ?_
  clear HK K
  refine wp_seq_k fun K hK => ?_
  have HK := Lib.hid hK
  clear hK
  go_wp2_with fail
  refine (hnm _).mono ?_
  rintro e V1 ⟨rfl, hbn⟩
  have HBN := Lib.hid hbn
  clear hbn hnm
  go_wp2_with fail
  refine HK.out _ _ ?_
  clear HK K
  have hbx := HBN.out
  have hz2 := HZ.out.1.below hbx
  have hat2 := HZ.out.2.below hbx
  have hb2 := HB.out.trans (hbx.mono HB.out.size)
  subst hzz
  exact rg_tail (ok := isName s) (ar := 1) hd (by decide) ih hb2 hz2 hat2 hroom hnb
set_option maxRecDepth 100000 in
set_option maxHeartbeats 4000000 in
theorem rg_4 {w : World} {d : Nat} {n : Int} {s : ByteArray} {sl : Int} {lo : Bool} {op : Int} {a : Option Addr} {cap : Nat} {args : List Ex} (hd : d ≤ 24) (ih : RgOk d) (hat : XlAt w a args) (hroom : Roomy args.length cap) (hs : s.size ≤ 9223372036854775807) (hnb : Ex.nbs args) :
    Calls Tryz.prog 27 #[.agg #[.int .i64 4, .int .i64 n, .string s, .int .i64 sl, .bool lo, .int .i64 op, .slice a args.length cap], .int .i64 ((d + 1 : Nat) : Int)] w fun e w' => e = .returned (.bool (exR isName (.mk 4 n s sl lo op args) (d + 1))) ∧ Below w.heap.size w w' := by
  obtain ⟨R, hR⟩ : ∃ R, exR isName (.mk 4 n s sl lo op args) (d + 1) = R := ⟨_, rfl⟩
  rw [hR]
  rw [exR_eq] at hR
  have hd1 : ¬ ((d + 1 : Nat) : Int) < 1 := by omega
  have hb0 : Below w.heap.size w (w.alloc (.cells #[.int .i64 4, .int .i64 n, .string s, .int .i64 sl, .bool lo, .int .i64 op, .slice a args.length cap] 46)) := (Below.refl _ w).alloc (Nat.le_refl _) _
  have hz0 := Blk.new w 46 [.int .i64 4, .int .i64 n, .string s, .int .i64 sl, .bool lo, .int .i64 op, .slice a args.length cap]
  have hat0 := hat.below hb0
  have HB := Lib.hid hb0
  have HZ := Lib.hid (And.intro hz0 hat0)
  clear hb0 hz0 hat0 hat
  go_enter Tryz.func27, Tryz.ntmps27
  refine wp_seq_k fun K hK => ?_
  have HK := Lib.hid hK
  clear hK
  go_wp2_with fail
  refine HK.out _ _ ?_
  clear HK K
  obtain ⟨z, hzz⟩ : ∃ z, w.heap.size = z := ⟨_, rfl⟩
  rw [hzz] at HZ
  generalize w.alloc (.cells #[.int .i64 4, .int .i64 n, .string s, .int .i64 sl, .bool lo, .int .i64 op, .slice a args.length cap] 46) = V0 at *
  rw [hzz]
  have c0 := HZ.out.1.cell 0
  have c1 := HZ.out.1.cell 1
  have c2 := HZ.out.1.cell 2
  have c5 := HZ.out.1.cell 5
  simp only [List.getElem?_cons_succ, List.getElem?_cons_zero] at c0 c1 c2 c5
  rcases neOr n 0 with hn | hn
  · have hRf : R = false := by
      rw [← hR]
      simp [hn]
    subst hRf
    have hn2 : (n != 0) = true := by simpa using hn
    clear hR
    go_wp2_with fail
    go_ret
    exact ⟨rfl, by rw [← hzz]; exact HB.out⟩
  subst hn
  rcases neOr s noB with hse | hse
  · have hRf : R = false := by
      rw [← hR]
      simp [hse]
    subst hRf
    have hs2 : ¬ s.toList = [] := fun e => hse (toListInj (e.trans noB_list.symm))
    have hs3 : s.toList.isEmpty = false := by rw [isE_eq]; exact decide_eq_false hse
    clear hR
    go_wp2_with fail
    go_ret
    exact ⟨rfl, by rw [← hzz]; exact HB.out⟩
  subst hse
  have hnl : noB.toList = [] := noB_list
  have hnl2 : noB.toList.isEmpty = true := by rw [noB_list]; rfl
  rcases neOr op 0 with ho | ho
  · have hRf : R = false := by
      rw [← hR]
      simp [ho]
    subst hRf
    have ho2 : (op != 0) = true := by simpa using ho
    clear hR
    go_wp2_with fail
    go_ret
    exact ⟨rfl, by rw [← hzz]; exact HB.out⟩
  subst ho
  have HC := Lib.hid hR
  clear hR
  have hRe : R = (true && (decide (args.length = 1) && exsR isName args d)) := by
    rw [← HC.out]
    simp [kindOk, arity]
  subst hRe
  clear HC
  refine wp_seq_k fun K hK => ?_
  have HK := Lib.hid hK
  clear hK
  go_wp2_with fail
  refine HK.out _ _ ?_
  clear HK K
  refine wp_seq_k fun K hK => ?_
  have HK := Lib.hid hK
  clear hK
  go_wp2_with fail
  refine HK.out _ _ ?_
  clear HK K
  refine wp_seq_k fun K hK => ?_
  have HK := Lib.hid hK
  clear hK
  go_wp2_with fail
  refine HK.out _ _ ?_
  clear HK K
  have hbx := Below.refl V0.heap.size V0
  have hz2 := HZ.out.1.below hbx
  have hat2 := HZ.out.2.below hbx
  have hb2 := HB.out.trans (hbx.mono HB.out.size)
  subst hzz
  exact rg_tail (ok := true) (ar := 1) hd (by decide) ih hb2 hz2 hat2 hroom hnb
set_option maxRecDepth 100000 in
set_option maxHeartbeats 4000000 in
theorem rg_5 {w : World} {d : Nat} {n : Int} {s : ByteArray} {sl : Int} {lo : Bool} {op : Int} {a : Option Addr} {cap : Nat} {args : List Ex} (hd : d ≤ 24) (ih : RgOk d) (hat : XlAt w a args) (hroom : Roomy args.length cap) (hs : s.size ≤ 9223372036854775807) (hnb : Ex.nbs args) :
    Calls Tryz.prog 27 #[.agg #[.int .i64 5, .int .i64 n, .string s, .int .i64 sl, .bool lo, .int .i64 op, .slice a args.length cap], .int .i64 ((d + 1 : Nat) : Int)] w fun e w' => e = .returned (.bool (exR isName (.mk 5 n s sl lo op args) (d + 1))) ∧ Below w.heap.size w w' := by
  obtain ⟨R, hR⟩ : ∃ R, exR isName (.mk 5 n s sl lo op args) (d + 1) = R := ⟨_, rfl⟩
  rw [hR]
  rw [exR_eq] at hR
  have hd1 : ¬ ((d + 1 : Nat) : Int) < 1 := by omega
  have hb0 : Below w.heap.size w (w.alloc (.cells #[.int .i64 5, .int .i64 n, .string s, .int .i64 sl, .bool lo, .int .i64 op, .slice a args.length cap] 46)) := (Below.refl _ w).alloc (Nat.le_refl _) _
  have hz0 := Blk.new w 46 [.int .i64 5, .int .i64 n, .string s, .int .i64 sl, .bool lo, .int .i64 op, .slice a args.length cap]
  have hat0 := hat.below hb0
  have HB := Lib.hid hb0
  have HZ := Lib.hid (And.intro hz0 hat0)
  clear hb0 hz0 hat0 hat
  go_enter Tryz.func27, Tryz.ntmps27
  refine wp_seq_k fun K hK => ?_
  have HK := Lib.hid hK
  clear hK
  go_wp2_with fail
  refine HK.out _ _ ?_
  clear HK K
  obtain ⟨z, hzz⟩ : ∃ z, w.heap.size = z := ⟨_, rfl⟩
  rw [hzz] at HZ
  generalize w.alloc (.cells #[.int .i64 5, .int .i64 n, .string s, .int .i64 sl, .bool lo, .int .i64 op, .slice a args.length cap] 46) = V0 at *
  rw [hzz]
  have c0 := HZ.out.1.cell 0
  have c1 := HZ.out.1.cell 1
  have c2 := HZ.out.1.cell 2
  have c5 := HZ.out.1.cell 5
  simp only [List.getElem?_cons_succ, List.getElem?_cons_zero] at c0 c1 c2 c5
  rcases neOr n 0 with hn | hn
  · have hRf : R = false := by
      rw [← hR]
      simp [hn]
    subst hRf
    have hn2 : (n != 0) = true := by simpa using hn
    clear hR
    go_wp2_with fail
    go_ret
    exact ⟨rfl, by rw [← hzz]; exact HB.out⟩
  subst hn
  rcases neOr s noB with hse | hse
  · have hRf : R = false := by
      rw [← hR]
      simp [hse]
    subst hRf
    have hs2 : ¬ s.toList = [] := fun e => hse (toListInj (e.trans noB_list.symm))
    have hs3 : s.toList.isEmpty = false := by rw [isE_eq]; exact decide_eq_false hse
    clear hR
    go_wp2_with fail
    go_ret
    exact ⟨rfl, by rw [← hzz]; exact HB.out⟩
  subst hse
  have hnl : noB.toList = [] := noB_list
  have hnl2 : noB.toList.isEmpty = true := by rw [noB_list]; rfl
  rcases neOr op 0 with ho | ho
  · have hRf : R = false := by
      rw [← hR]
      simp [ho]
    subst hRf
    have ho2 : (op != 0) = true := by simpa using ho
    clear hR
    go_wp2_with fail
    go_ret
    exact ⟨rfl, by rw [← hzz]; exact HB.out⟩
  subst ho
  have HC := Lib.hid hR
  clear hR
  have hRe : R = (true && (decide (args.length = 1) && exsR isName args d)) := by
    rw [← HC.out]
    simp [kindOk, arity]
  subst hRe
  clear HC
  refine wp_seq_k fun K hK => ?_
  have HK := Lib.hid hK
  clear hK
  go_wp2_with fail
  refine HK.out _ _ ?_
  clear HK K
  refine wp_seq_k fun K hK => ?_
  have HK := Lib.hid hK
  clear hK
  go_wp2_with fail
  refine HK.out _ _ ?_
  clear HK K
  refine wp_seq_k fun K hK => ?_
  have HK := Lib.hid hK
  clear hK
  go_wp2_with fail
  refine HK.out _ _ ?_
  clear HK K
  have hbx := Below.refl V0.heap.size V0
  have hz2 := HZ.out.1.below hbx
  have hat2 := HZ.out.2.below hbx
  have hb2 := HB.out.trans (hbx.mono HB.out.size)
  subst hzz
  exact rg_tail (ok := true) (ar := 1) hd (by decide) ih hb2 hz2 hat2 hroom hnb
set_option maxRecDepth 100000 in
set_option maxHeartbeats 4000000 in
theorem rg_6 {w : World} {d : Nat} {n : Int} {s : ByteArray} {sl : Int} {lo : Bool} {op : Int} {a : Option Addr} {cap : Nat} {args : List Ex} (hd : d ≤ 24) (ih : RgOk d) (hat : XlAt w a args) (hroom : Roomy args.length cap) (hs : s.size ≤ 9223372036854775807) (hnb : Ex.nbs args) :
    Calls Tryz.prog 27 #[.agg #[.int .i64 6, .int .i64 n, .string s, .int .i64 sl, .bool lo, .int .i64 op, .slice a args.length cap], .int .i64 ((d + 1 : Nat) : Int)] w fun e w' => e = .returned (.bool (exR isName (.mk 6 n s sl lo op args) (d + 1))) ∧ Below w.heap.size w w' := by
  obtain ⟨R, hR⟩ : ∃ R, exR isName (.mk 6 n s sl lo op args) (d + 1) = R := ⟨_, rfl⟩
  rw [hR]
  rw [exR_eq] at hR
  have hd1 : ¬ ((d + 1 : Nat) : Int) < 1 := by omega
  have hb0 : Below w.heap.size w (w.alloc (.cells #[.int .i64 6, .int .i64 n, .string s, .int .i64 sl, .bool lo, .int .i64 op, .slice a args.length cap] 46)) := (Below.refl _ w).alloc (Nat.le_refl _) _
  have hz0 := Blk.new w 46 [.int .i64 6, .int .i64 n, .string s, .int .i64 sl, .bool lo, .int .i64 op, .slice a args.length cap]
  have hat0 := hat.below hb0
  have HB := Lib.hid hb0
  have HZ := Lib.hid (And.intro hz0 hat0)
  clear hb0 hz0 hat0 hat
  go_enter Tryz.func27, Tryz.ntmps27
  refine wp_seq_k fun K hK => ?_
  have HK := Lib.hid hK
  clear hK
  go_wp2_with fail
  refine HK.out _ _ ?_
  clear HK K
  obtain ⟨z, hzz⟩ : ∃ z, w.heap.size = z := ⟨_, rfl⟩
  rw [hzz] at HZ
  generalize w.alloc (.cells #[.int .i64 6, .int .i64 n, .string s, .int .i64 sl, .bool lo, .int .i64 op, .slice a args.length cap] 46) = V0 at *
  rw [hzz]
  have c0 := HZ.out.1.cell 0
  have c1 := HZ.out.1.cell 1
  have c2 := HZ.out.1.cell 2
  have c5 := HZ.out.1.cell 5
  simp only [List.getElem?_cons_succ, List.getElem?_cons_zero] at c0 c1 c2 c5
  rcases neOr n 0 with hn | hn
  · have hRf : R = false := by
      rw [← hR]
      simp [hn]
    subst hRf
    have hn2 : (n != 0) = true := by simpa using hn
    clear hR
    go_wp2_with fail
    go_ret
    exact ⟨rfl, by rw [← hzz]; exact HB.out⟩
  subst hn
  rcases neOr s noB with hse | hse
  · have hRf : R = false := by
      rw [← hR]
      simp [hse]
    subst hRf
    have hs2 : ¬ s.toList = [] := fun e => hse (toListInj (e.trans noB_list.symm))
    have hs3 : s.toList.isEmpty = false := by rw [isE_eq]; exact decide_eq_false hse
    clear hR
    go_wp2_with fail
    go_ret
    exact ⟨rfl, by rw [← hzz]; exact HB.out⟩
  subst hse
  have hnl : noB.toList = [] := noB_list
  have hnl2 : noB.toList.isEmpty = true := by rw [noB_list]; rfl
  have HC := Lib.hid hR
  clear hR
  have hcs : (1 ≤ op ∧ op ≤ 11) ∨ ¬ 1 ≤ op ∨ (1 ≤ op ∧ ¬ op ≤ 11) := by omega
  rcases hcs with ⟨g1, g2⟩ | g1 | ⟨g1, g2⟩
  · skip
    have hRe : R = (true && (decide (args.length = 2) && exsR isName args d)) := by
      rw [← HC.out]
      simp [kindOk, arity, g1, g2]
    subst hRe
    clear HC
    refine wp_seq_k fun K hK => ?_
    have HK := Lib.hid hK
    clear hK
    go_wp2_with fail
    refine HK.out _ _ ?_
    clear HK K
    refine wp_seq_k fun K hK => ?_
    have HK := Lib.hid hK
    clear hK
    go_wp2_with fail
    refine HK.out _ _ ?_
    clear HK K
    refine wp_seq_k fun K hK => ?_
    have HK := Lib.hid hK
    clear hK
    go_wp2_with fail
    go_quiet (fail)
    rename_i nq
    refine HK.out _ _ ?_
    clear HK
    have hbx := (⟨rfl, rfl, rfl, Nat.le_refl _, fun _ _ => rfl⟩ : Below V0.heap.size V0 (V0.drewN nq))
    have hz2 := HZ.out.1.below hbx
    have hat2 := HZ.out.2.below hbx
    have hb2 := HB.out.trans (hbx.mono HB.out.size)
    subst hzz
    exact rg_tail (ok := true) (ar := 2) hd (by decide) ih hb2 hz2 hat2 hroom hnb
  · skip
    have hRe : R = (false && (decide (args.length = 2) && exsR isName args d)) := by
      rw [← HC.out]
      simp [kindOk, arity, g1]
    subst hRe
    clear HC
    have g3 : op < 1 := by omega
    have g4 : decide (1 ≤ op) = false := decide_eq_false g1
    refine wp_seq_k fun K hK => ?_
    have HK := Lib.hid hK
    clear hK
    go_wp2_with fail
    refine HK.out _ _ ?_
    clear HK K
    refine wp_seq_k fun K hK => ?_
    have HK := Lib.hid hK
    clear hK
    go_wp2_with fail
    refine HK.out _ _ ?_
    clear HK K
    refine wp_seq_k fun K hK => ?_
    have HK := Lib.hid hK
    clear hK
    go_wp2_with fail
    go_quiet (fail)
    rename_i nq
    refine HK.out _ _ ?_
    clear HK
    have hbx := (⟨rfl, rfl, rfl, Nat.le_refl _, fun _ _ => rfl⟩ : Below V0.heap.size V0 (V0.drewN nq))
    have hz2 := HZ.out.1.below hbx
    have hat2 := HZ.out.2.below hbx
    have hb2 := HB.out.trans (hbx.mono HB.out.size)
    subst hzz
    exact rg_tail (ok := false) (ar := 2) hd (by decide) ih hb2 hz2 hat2 hroom hnb
  · skip
    have hRe : R = (false && (decide (args.length = 2) && exsR isName args d)) := by
      rw [← HC.out]
      simp [kindOk, arity, g1, g2]
    subst hRe
    clear HC
    have g3 : 11 < op := by omega
    have g4 : decide (op ≤ 11) = false := decide_eq_false g2
    refine wp_seq_k fun K hK => ?_
    have HK := Lib.hid hK
    clear hK
    go_wp2_with fail
    refine HK.out _ _ ?_
    clear HK K
    refine wp_seq_k fun K hK => ?_
    have HK := Lib.hid hK
    clear hK
    go_wp2_with fail
    refine HK.out _ _ ?_
    clear HK K
    refine wp_seq_k fun K hK => ?_
    have HK := Lib.hid hK
    clear hK
    go_wp2_with fail
    go_quiet (fail)
    rename_i nq
    refine HK.out _ _ ?_
    clear HK
    have hbx := (⟨rfl, rfl, rfl, Nat.le_refl _, fun _ _ => rfl⟩ : Below V0.heap.size V0 (V0.drewN nq))
    have hz2 := HZ.out.1.below hbx
    have hat2 := HZ.out.2.below hbx
    have hb2 := HB.out.trans (hbx.mono HB.out.size)
    subst hzz
    exact rg_tail (ok := false) (ar := 2) hd (by decide) ih hb2 hz2 hat2 hroom hnb
set_option maxRecDepth 100000 in
set_option maxHeartbeats 4000000 in
theorem rg_other {w : World} {d : Nat} {k n : Int} {s : ByteArray} {sl : Int} {lo : Bool} {op : Int} {a : Option Addr} {cap : Nat} {args : List Ex} (hd : d ≤ 24) (_ih : RgOk d) (h1 : k ≠ 1) (h2 : k ≠ 2) (h3 : k ≠ 3) (h4 : k ≠ 4) (h5 : k ≠ 5) (h6 : k ≠ 6) (hat : XlAt w a args) (_hroom : Roomy args.length cap) (hs : s.size ≤ 9223372036854775807) (_hnb : Ex.nbs args) :
    Calls Tryz.prog 27 #[.agg #[.int .i64 k, .int .i64 n, .string s, .int .i64 sl, .bool lo, .int .i64 op, .slice a args.length cap], .int .i64 ((d + 1 : Nat) : Int)] w fun e w' => e = .returned (.bool (exR isName (.mk k n s sl lo op args) (d + 1))) ∧ Below w.heap.size w w' := by
  obtain ⟨R, hR⟩ : ∃ R, exR isName (.mk k n s sl lo op args) (d + 1) = R := ⟨_, rfl⟩
  rw [hR]
  rw [exR_eq] at hR
  have hd1 : ¬ ((d + 1 : Nat) : Int) < 1 := by omega
  have hb0 : Below w.heap.size w (w.alloc (.cells #[.int .i64 k, .int .i64 n, .string s, .int .i64 sl, .bool lo, .int .i64 op, .slice a args.length cap] 46)) := (Below.refl _ w).alloc (Nat.le_refl _) _
  have hz0 := Blk.new w 46 [.int .i64 k, .int .i64 n, .string s, .int .i64 sl, .bool lo, .int .i64 op, .slice a args.length cap]
  have hat0 := hat.below hb0
  have HB := Lib.hid hb0
  have HZ := Lib.hid (And.intro hz0 hat0)
  clear hb0 hz0 hat0 hat
  have e1 : (k == 1) = false := by simpa using h1
  have e2 : (k == 2) = false := by simpa using h2
  have e3 : (k == 3) = false := by simpa using h3
  have e4 : (k == 4) = false := by simpa using h4
  have e5 : (k == 5) = false := by simpa using h5
  have e6 : (k == 6) = false := by simpa using h6
  have k1 : (k != 1) = true := by simpa using h1
  have k2 : (k != 2) = true := by simpa using h2
  have k3 : (k != 3) = true := by simpa using h3
  have k6 : (k != 6) = true := by simpa using h6
  go_enter Tryz.func27, Tryz.ntmps27
  refine wp_seq_k fun K hK => ?_
  have HK := Lib.hid hK
  clear hK
  go_wp2_with fail
  refine HK.out _ _ ?_
  clear HK K
  obtain ⟨z, hzz⟩ : ∃ z, w.heap.size = z := ⟨_, rfl⟩
  rw [hzz] at HZ
  generalize w.alloc (.cells #[.int .i64 k, .int .i64 n, .string s, .int .i64 sl, .bool lo, .int .i64 op, .slice a args.length cap] 46) = V0 at *
  rw [hzz]
  have c0 := HZ.out.1.cell 0
  have c1 := HZ.out.1.cell 1
  have c2 := HZ.out.1.cell 2
  have c5 := HZ.out.1.cell 5
  simp only [List.getElem?_cons_succ, List.getElem?_cons_zero] at c0 c1 c2 c5
  rcases neOr n 0 with hn | hn
  · have hRf : R = false := by
      rw [← hR]
      simp [hn] <;> omega
    subst hRf
    have hn2 : (n != 0) = true := by simpa using hn
    clear hR
    go_wp2_with fail
    go_ret
    exact ⟨rfl, by rw [← hzz]; exact HB.out⟩
  subst hn
  rcases neOr s noB with hse | hse
  · have hRf : R = false := by
      rw [← hR]
      simp [hse] <;> omega
    subst hRf
    have hs2 : ¬ s.toList = [] := fun e => hse (toListInj (e.trans noB_list.symm))
    have hs3 : s.toList.isEmpty = false := by rw [isE_eq]; exact decide_eq_false hse
    clear hR
    go_wp2_with fail
    go_ret
    exact ⟨rfl, by rw [← hzz]; exact HB.out⟩
  subst hse
  have hnl : noB.toList = [] := noB_list
  have hnl2 : noB.toList.isEmpty = true := by rw [noB_list]; rfl
  rcases neOr op 0 with ho | ho
  · have hRf : R = false := by
      rw [← hR]
      simp [ho] <;> omega
    subst hRf
    have ho2 : (op != 0) = true := by simpa using ho
    clear hR
    go_wp2_with fail
    go_ret
    exact ⟨rfl, by rw [← hzz]; exact HB.out⟩
  subst ho
  have HC := Lib.hid hR
  clear hR
  have hRf : R = false := by
    rw [← HC.out]
    simp [kindOk, h1, h6]
    omega
  subst hRf
  go_wp2_with fail
  go_ret
  exact ⟨rfl, by rw [← hzz]; exact HB.out⟩
theorem right_any : ∀ (d : Nat), d ≤ 25 → RgOk d
  | 0, _ => by
    intro x cs w hnb hL
    obtain ⟨k, n, s, sl, lo, op, args⟩ := x
    have hR : exR isName (.mk k n s sl lo op args) 0 = false := by rw [exR_eq]; simp
    rw [hR]
    unfold ExL at hL
    obtain ⟨a, cap, rfl, -, -⟩ := hL
    have HB := Lib.hid ((Below.refl w.heap.size w).alloc (Nat.le_refl _) (.cells #[.int .i64 k, .int .i64 n, .string s, .int .i64 sl, .bool lo, .int .i64 op, .slice a args.length cap] 46))
    go_enter Tryz.func27, Tryz.ntmps27
    go_wp2_with fail
    go_ret
    exact ⟨rfl, HB.out⟩
  | d + 1, hd => by
    have ih := right_any d (by omega)
    intro x cs w hnb hL
    obtain ⟨k, n, s, sl, lo, op, args⟩ := x
    unfold Ex.nb at hnb
    unfold ExL at hL
    obtain ⟨a, cap, rfl, hroom, hat⟩ := hL
    by_cases h1 : k = 1
    · subst h1; exact rg_1 (by omega) ih hat hroom hnb.1 hnb.2
    by_cases h2 : k = 2
    · subst h2; exact rg_2 (by omega) ih hat hroom hnb.1 hnb.2
    by_cases h3 : k = 3
    · subst h3; exact rg_3 (by omega) ih hat hroom hnb.1 hnb.2
    by_cases h4 : k = 4
    · subst h4; exact rg_4 (by omega) ih hat hroom hnb.1 hnb.2
    by_cases h5 : k = 5
    · subst h5; exact rg_5 (by omega) ih hat hroom hnb.1 hnb.2
    by_cases h6 : k = 6
    · subst h6; exact rg_6 (by omega) ih hat hroom hnb.1 hnb.2
    · exact rg_other (by omega) ih h1 h2 h3 h4 h5 h6 hat hroom hnb.1 hnb.2
end Go.Proofs.YtjmlmelcppbefaaGreatDoor
