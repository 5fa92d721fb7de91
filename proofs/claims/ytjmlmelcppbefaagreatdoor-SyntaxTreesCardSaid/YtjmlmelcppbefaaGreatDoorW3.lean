/- W3: texts of one kind, one behind the other. No condition but what each law says. -/
import Derived.Test.YtjmlmelcppbefaaGreatDoorT46
import Derived.Test.YtjmlmelcppbefaaGreatDoorV2
import Derived.Test.YtjmlmelcppbefaaGreatDoorW2
import Derived.Test.YtjmlmelcppbefaaGreatDoorFa
import Derived.Test.YtjmlmelcppbefaaGreatDoorW1
namespace Go.Proofs.YtjmlmelcppbefaaGreatDoor
open Go.RowKit Go.Maps

theorem exT_ne {x : Ex} {d : Nat} (h : exR isName x d = true) : exT x ≠ [] := by
  obtain ⟨k, n, s, sl, lo, o, args⟩ := x
  rw [exR_eq] at h
  simp only [Bool.and_eq_true] at h
  have h4 := h.2.2.2.1
  have h5 := h.2.2.2.2.1
  have h6 := h.2.2.2.2.2.1
  simp only [decide_eq_true_eq] at h6
  match args, h6 with
  | [], h6 =>
    simp only [exT]
    split
    · rename_i hk
      subst hk
      simp only [kindOk, if_true, Bool.and_eq_true, decide_eq_true_eq] at h5
      intro e
      have hl := congrArg List.length e
      obtain ⟨u, rfl⟩ : ∃ u : Nat, n = u := ⟨n.toNat, by omega⟩
      rw [Lib.itoa_nonneg, Lib.decDigits_length] at hl
      have : 0 < Lib.nDigits u := Lib.nDigits_pos u
      simp at hl
      omega
    · rename_i hk
      have hk2 : k = 2 := by
        unfold arity at h6
        simp only [List.length_nil] at h6
        split at h6
        · omega
        · split at h6 <;> omega
      rw [if_pos (.inl hk2)] at h4
      intro e
      unfold isName at h4
      simp only [Bool.and_eq_true, decide_eq_true_eq] at h4
      have : s.data.toList.length = s.size := Array.length_toList
      rw [e] at this
      simp at this
      omega
  | [x], _ =>
    simp only [exT]
    split <;> simp
  | [x, y], _ => simp [exT]
  | _ :: _ :: _ :: _, h6 =>
    unfold arity at h6
    simp at h6
    split at h6
    · omega
    · split at h6 <;> omega
set_option maxRecDepth 100000 in
set_option maxHeartbeats 4000000 in
theorem sexpr_any {w : World} (hW : Wf w) (x : Ex) (cs : List Value) (hnb : x.nb) (hL : ExL (fun _ => True) w cs x) (hlen : exR isName x 24 = true → (exT x).length ≤ 70368744177664) :
    Calls Tryz.prog 26 #[.agg cs.toArray] w fun e w' => e = .returned (.tuple #[.string (if exR isName x 24 = true then bS (exT x) else ⟨#[]⟩), .int .i64 (if exR isName x 24 = true then 0 else 2)]) ∧ Below w.heap.size w w' := by
  obtain ⟨d46, hu46, hr46⟩ := under46
  have hl7 := hL.cells.1
  have hb0 : Below w.heap.size w (w.alloc (.cells cs.toArray 46)) := (Below.refl _ w).alloc (Nat.le_refl _) _
  have hz0 := Blk.new w 46 cs
  have hAt : ExAt (w.alloc (.cells cs.toArray 46)) w.heap.size 0 x := ⟨cs, hz0.whole, hL.below hb0⟩
  have hck := exMay_any 24 (by decide) x w.heap.size 0 (w.alloc (.cells cs.toArray 46)) hAt hnb
  have HB := Lib.hid hb0
  have HZ := Lib.hid hz0
  have HL := Lib.hid (And.intro hL hlen)
  obtain ⟨k, n, s, sl, lo, o, args⟩ := x
  unfold ExL at hL
  obtain ⟨a, cap, rfl, -, -⟩ := hL
  clear hb0 hz0 hAt hnb hlen
  cases hR : exR isName (.mk k n s sl lo o args) 24
  · rw [hR] at hck
    simp only [Bool.false_eq_true, if_false]
    clear hR
    go_enter Tryz.func26, Tryz.ntmps26
    go_wp2_with fail
    refine hck.mono ?_
    rintro e W1 ⟨rfl, hb1⟩
    have hb2 := HB.out.trans (hb1.mono HB.out.size)
    clear hck hb1
    go_wp2_with fail
    go_ret2
    exact ⟨rfl, hb2⟩
  · rw [hR] at hck
    simp only [if_true]
    have HR := Lib.hid hR
    clear hR
    go_enter Tryz.func26, Tryz.ntmps26
    go_wp2_with fail
    refine hck.mono ?_
    rintro e W1 ⟨rfl, hb1⟩
    have hb2 := HB.out.trans (hb1.mono HB.out.size)
    have hz1 := HZ.out.below hb1
    have hp := fresh97 w.heap.size W1 hb2.size
    have hb3 : Below w.heap.size w (W1.alloc (.cells #[.pointer none, .slice none 0 0] 97)) := hb2.alloc hb2.size _
    have hz2 := hz1.alloc (.cells #[.pointer none, .slice none 0 0] 97)
    have hex := prex_all hW.o hW.t hW.s 24 _ _ 1 W1.heap.size [] _ HR.out HL.out.1 hb3 hp (by rw [exW_one HR.out]; have := HL.out.2 HR.out; simp; omega)
    rw [exW_one HR.out, show ((1 : Nat) : Int) = 1 from rfl] at hex
    have HB3 := Lib.hid hb3
    have HZ2 := Lib.hid hz2
    clear hck hb1 hb2 hz1 hp hb3 hz2 HZ HB
    go_wp2_with ((with_reducible show wpList _ _ _ (Oper.mk _ (.load 46 _) _ _ _ _ :: _) _ _); refine wpList_load_blk hu46 hr46 info46 rfl (.tmp 1) rfl w.heap.size _ rfl HZ2 hl7 ?_)
    refine hex.mono ?_
    rintro e W2 ⟨rfl, hP⟩
    have hst := string_ne w.heap.size _ _ W2 hP.p.i (exT_ne HR.out)
    have hbl := HB3.out.trans hP.bl
    clear hex hP
    go_wp2_with fail
    refine hst.mono ?_
    rintro e W3 ⟨rfl, hb4⟩
    have hfin := hbl.trans hb4
    clear hst hb4 hbl
    go_wp2_with fail
    go_ret2
    exact ⟨rfl, hfin⟩
end Go.Proofs.YtjmlmelcppbefaaGreatDoor

namespace Go.Proofs.YtjmlmelcppbefaaGreatDoor
open Go.RowKit Go.Maps

set_option maxRecDepth 100000 in
set_option maxHeartbeats 4000000 in
theorem trees_any (x : Ex) (cs : List Value) {W : World} (hL : ExL (fun _ => True) W cs x) (hnb : x.nb) (hW : Wf W) : Calls Tryz.prog 11 #[.agg cs.toArray] W (Tru W) := by
  obtain ⟨d46, hu46, hr46⟩ := under46
  have hl7 := hL.cells.1
  have hb0 : Below W.heap.size W (W.alloc (.cells cs.toArray 46)) := (Below.refl _ W).alloc (Nat.le_refl _) _
  have hz0 := Blk.new W 46 cs
  have HB := Lib.hid hb0
  have HZ := Lib.hid hz0
  have hrg := fun (V : World) (hb : Below W.heap.size W V) => right_any 24 (by decide) x cs V hnb (hL.below hb)
  have hlen : exR isName x 24 = true → x.big ≤ 3000 → (exT x).length ≤ 70368744177664 := fun hR hb => by
    have h1 := exT_le isName x 24 hR
    have h2 := big_cnt x hb
    omega
  have hex := fun (V : World) (hb : Below W.heap.size W V) hl => sexpr_any (hW.below hb) x cs hnb (hL.below hb) hl
  have hrx := fun (V : World) (hb : Below W.heap.size W V) (hR : exR isName x 24 = true) hl => rx_all 24 x cs V (hW.below hb).t (hW.below hb).s hR (hL.below hb) hl
  have hbs := fun (V : World) (hb : Below W.heap.size W V) => big_some x.depth x cs V (Nat.le_refl _) (hL.below hb)
  have hbe := fun (V : World) (hb : Below W.heap.size W V) (hR : exR isName x 24 = true) => big_exact 24 x cs V (Nat.le_refl _) (sm_depth (exR_sm 24 x hR)) (exR_sm 24 x hR) (hL.below hb)
  obtain ⟨B, hB⟩ : ∃ B, x.big = B := ⟨_, rfl⟩
  obtain ⟨tx, htx⟩ : ∃ tx, bS (exT x) = tx := ⟨_, rfl⟩
  obtain ⟨ln, hln⟩ : ∃ ln, (exT x).length = ln := ⟨_, rfl⟩
  rw [hB] at hbe
  rw [hB, hln] at hlen
  rw [htx, hln] at hex
  rw [htx, hln] at hrx
  clear hb0 hz0 hnb
  cases hR : exR isName x 24
  · rw [hR] at hex hrg
    simp only [Bool.false_eq_true, if_false, false_implies, forall_const] at hex
    have HCL := Lib.hid (And.intro hbs (And.intro hex hrg))
    clear hbs hex hrg hrx hbe hlen hR hB htx hln
    obtain ⟨k, n, s, sl, lo, o, args⟩ := x
    unfold ExL at hL
    obtain ⟨a, cap, rfl, -, -⟩ := hL
    go_enter Tryz.func11, Tryz.ntmps11
    refine wp_seq_k fun K hK => ?_
    have HK := Lib.hid hK
    clear hK
    go_wp2_with fail
    refine HK.out _ _ ?_
    clear HK K
    generalize W.alloc (.cells #[.int .i64 k, .int .i64 n, .string s, .int .i64 sl, .bool lo, .int .i64 o, .slice a args.length cap] 46) = V0 at *
    go_wp2_with ((with_reducible show wpList _ _ _ (Oper.mk _ (.load 46 _) _ _ _ _ :: _) _ _); refine wpList_load_blk hu46 hr46 info46 rfl (.tmp 1) rfl W.heap.size _ rfl HZ hl7 ?_)
    refine (HCL.out.1 _ HB.out).mono ?_
    rintro e w1 ⟨⟨q, rfl⟩, hb1⟩
    have HB1 := Lib.hid (HB.out.trans (hb1.mono HB.out.size))
    have HZ1 := Lib.hid (HZ.out.below hb1)
    clear hb1 HB HZ
    by_cases hq : 3000 < q
    · go_wp2_with fail
      refine (works_any _ (hW.below HB1.out)).mono ?_
      rintro e w9 ⟨rfl, hb9⟩
      have hB9 := HB1.out.trans (hb9.mono HB1.out.size)
      go_wp2
      go_ret
      exact ⟨rfl, hB9⟩
    · go_wp2_with ((with_reducible show wpList _ _ _ (Oper.mk _ (.load 46 _) _ _ _ _ :: _) _ _); refine wpList_load_blk hu46 hr46 info46 rfl (.tmp 1) rfl W.heap.size _ rfl HZ1 hl7 ?_)
      refine (HCL.out.2.1 _ HB1.out).mono ?_
      rintro e w2 ⟨rfl, hb2⟩
      have HB2 := Lib.hid (HB1.out.trans (hb2.mono HB1.out.size))
      have HZ2 := Lib.hid (HZ1.out.below hb2)
      clear hb2 HB1 HZ1
      go_wp2_with ((with_reducible show wpList _ _ _ (Oper.mk _ (.load 46 _) _ _ _ _ :: _) _ _); refine wpList_load_blk hu46 hr46 info46 rfl (.tmp 1) rfl W.heap.size _ rfl HZ2 hl7 ?_)
      refine (HCL.out.2.2 _ HB2.out).mono ?_
      rintro e w3 ⟨rfl, hb3⟩
      have HB3 := Lib.hid (HB2.out.trans (hb3.mono HB2.out.size))
      clear hb3 HB2 HZ2 HCL
      go_wp2_with (go_at_call 19; refine (num_any _ _).mono ?_; rintro e w' ⟨rfl, rfl⟩)
      refine (works_any _ (hW.below HB3.out)).mono ?_
      rintro e w9 ⟨rfl, hb9⟩
      have hB9 := HB3.out.trans (hb9.mono HB3.out.size)
      go_wp2
      go_ret
      exact ⟨rfl, hB9⟩
  · rw [hR] at hrg
    have hbe := fun V hb => hbe V hb hR
    have hex := fun V hb hl => hex V hb fun _ => hl
    have hrx := fun V hb hl => hrx V hb hR hl
    have hlen := hlen hR
    rw [hR] at hex
    simp only [if_true] at hex
    have HCL := Lib.hid (And.intro hbe (And.intro hex (And.intro hrg (And.intro hrx hlen))))
    clear hbs hex hrg hrx hbe hlen hR hB htx hln
    obtain ⟨k, n, s, sl, lo, o, args⟩ := x
    unfold ExL at hL
    obtain ⟨a, cap, rfl, -, -⟩ := hL
    go_enter Tryz.func11, Tryz.ntmps11
    refine wp_seq_k fun K hK => ?_
    have HK := Lib.hid hK
    clear hK
    go_wp2_with fail
    refine HK.out _ _ ?_
    clear HK K
    generalize W.alloc (.cells #[.int .i64 k, .int .i64 n, .string s, .int .i64 sl, .bool lo, .int .i64 o, .slice a args.length cap] 46) = V0 at *
    go_wp2_with ((with_reducible show wpList _ _ _ (Oper.mk _ (.load 46 _) _ _ _ _ :: _) _ _); refine wpList_load_blk hu46 hr46 info46 rfl (.tmp 1) rfl W.heap.size _ rfl HZ hl7 ?_)
    refine (HCL.out.1 _ HB.out).mono ?_
    rintro e w1 ⟨rfl, hb1⟩
    have HB1 := Lib.hid (HB.out.trans (hb1.mono HB.out.size))
    have HZ1 := Lib.hid (HZ.out.below hb1)
    clear hb1 HB HZ
    by_cases hq : B ≤ 3000
    · have hq2 : ¬ (3000 : Int) < (B : Int) := by omega
      go_wp2_with ((with_reducible show wpList _ _ _ (Oper.mk _ (.load 46 _) _ _ _ _ :: _) _ _); refine wpList_load_blk hu46 hr46 info46 rfl (.tmp 1) rfl W.heap.size _ rfl HZ1 hl7 ?_)
      refine (HCL.out.2.1 _ HB1.out (HCL.out.2.2.2.2 hq)).mono ?_
      rintro e w2 ⟨rfl, hb2⟩
      have HB2 := Lib.hid (HB1.out.trans (hb2.mono HB1.out.size))
      have HZ2 := Lib.hid (HZ1.out.below hb2)
      clear hb2 HB1 HZ1
      go_wp2_with ((with_reducible show wpList _ _ _ (Oper.mk _ (.load 46 _) _ _ _ _ :: _) _ _); refine wpList_load_blk hu46 hr46 info46 rfl (.tmp 1) rfl W.heap.size _ rfl HZ2 hl7 ?_)
      refine (HCL.out.2.2.1 _ HB2.out).mono ?_
      rintro e w3 ⟨rfl, hb3⟩
      have HB3 := Lib.hid (HB2.out.trans (hb3.mono HB2.out.size))
      have HZ3 := Lib.hid (HZ2.out.below hb3)
      clear hb3 HB2 HZ2
      go_wp2_with ((with_reducible show wpList _ _ _ (Oper.mk _ (.load 46 _) _ _ _ _ :: _) _ _); refine wpList_load_blk hu46 hr46 info46 rfl (.tmp 1) rfl W.heap.size _ rfl HZ3 hl7 ?_)
      refine (HCL.out.2.2.2.1 _ HB3.out (HCL.out.2.2.2.2 hq)).mono ?_
      rintro e w4 ⟨rfl, hb4⟩
      have HB4 := Lib.hid (HB3.out.trans (hb4.mono HB3.out.size))
      clear hb4 HB3 HZ3 HCL
      go_wp2_with (go_at_call 19; refine (num_any _ _).mono ?_; rintro e w' ⟨rfl, rfl⟩)
      refine (works_any _ (hW.below HB4.out)).mono ?_
      rintro e w9 ⟨rfl, hb9⟩
      have hB9 := HB4.out.trans (hb9.mono HB4.out.size)
      go_wp2
      go_ret
      exact ⟨rfl, hB9⟩
    · have hq2 : (3000 : Int) < (B : Int) := by omega
      go_wp2_with fail
      refine (works_any _ (hW.below HB1.out)).mono ?_
      rintro e w9 ⟨rfl, hb9⟩
      have hB9 := HB1.out.trans (hb9.mono HB1.out.size)
      go_wp2
      go_ret
      exact ⟨rfl, hB9⟩
end Go.Proofs.YtjmlmelcppbefaaGreatDoor
