/- V4: texts of one kind, one behind the other. No condition but what each law says. -/
import Derived.Test.YtjmlmelcppbefaaGreatDoorFd
import Derived.Test.YtjmlmelcppbefaaGreatDoorT45
set_option maxRecDepth 100000
namespace Go.Proofs.YtjmlmelcppbefaaGreatDoor
open Go.RowKit Go.Maps
theorem wrap_s {k : Nat} (h : k ≤ 100) : Go.RowKit.wrap64 ((k : Int) + 1) = (k : Int) + 1 := by
 rw [← IntWalk.i64_left, IntWalk.i64_in _ (by omega)]
theorem tabs_len (n : Nat) : (bS (tabs n)).size = n := by rw [bS_size]; simp [tabs]
set_option maxHeartbeats 4000000 in
theorem rtabs_any (n : Nat) (hn : n ≤ 100) (w : World) : Calls Tryz.prog 100 #[.int .i64 (n : Int)] w fun e w' => e = .returned (.string (bS (tabs n))) ∧ w' = w := by
 have HN := Lib.hid hn
 clear hn
 go_enter Tryz.func100, Tryz.ntmps100
 go_wp2_with fail
 go_loopw [3, 4] (fun t i wr => ∃ j : Nat, j ≤ n ∧ i = .int .i64 j ∧ t = .string (bS (tabs j)) ∧ w = wr) (fun _ i _ => n - (intOf i).toNat)
 case atStart => exact ⟨0, Nat.zero_le _, rfl, rfl, rfl⟩
 case round =>
  obtain ⟨j, hj, rfl, rfl, rfl⟩ := hrel
  by_cases hjn : j < n
  ·have hp1 : (j : Int) < (n : Int) := by omega
   have hz : ¬ 9223372036854775807 < (bS (tabs j)).size + 1 := by rw [tabs_len]; have := HN.out; omega
   go_wp2
   go_roundw
   case rel =>
    refine ⟨j + 1, by omega, by rw [wrap_s (by have := HN.out; omega)]; go_num, congrArg Value.string (ba_ext ?_), trivial⟩
    rw [app_l, bS_l, bS_l, tabs, tabs, List.replicate_succ']
   case measure => rw [wrap_s (by have := HN.out; omega)]; simp [intOf]; omega
  ·obtain rfl : j = n := by omega
   have hp1 : ¬ (j : Int) < (j : Int) := by omega
   go_wp2_with fail
   go_ret
   exact ⟨rfl, rfl⟩
theorem blT_drop {l : List St} {j n : Nat} {s : St} (h : l[j]? = some s) : blT (l.drop j) n = tabs n ++ (stT s n ++ ([10] ++ blT (l.drop (j + 1)) n)) := by
 obtain ⟨hj, rfl⟩ := List.getElem?_eq_some_iff.1 h
 rw [List.drop_eq_getElem_cons hj, blT]
theorem stsR_drop2 {d : Nat} {l : List St} {j : Nat} {s : St} (h : stsR isName l d = true) (hj : l[j]? = some s) : stR isName s d = true := by
 induction l generalizing j with
 | nil => simp at hj
 | cons x r ih =>
  unfold stsR at h
  rw [Bool.and_eq_true] at h
  cases j with
  | zero =>
   simp only [List.getElem?_cons_zero, Option.some.injEq] at hj
   subst hj
   exact h.1
  | succ j => exact ih h.2 (by simpa using hj)
set_option maxHeartbeats 4000000 in
theorem rb_of {w0 : World} {d : Nat} (hd : d ≤ 25) (ihL : RL w0 d) : RB w0 d := by
 intro l a cap ind W hR hi hSl hw hlen
 obtain ⟨d64, hu64, hr64⟩ := under64
 have hmx : Tryz.prog.follows .mixedOrders = true := by kernel_rfl
 have hc := hSl.1
 obtain ⟨N, hN⟩ : ∃ N, l.length = N := ⟨_, rfl⟩
 rw [hN] at hc ⊢
 obtain ⟨R, hRl⟩ : ∃ R, blockT l ind = R := ⟨_, rfl⟩
 have hu0 : (bS [123, 10]).data.toList ++ (blT (l.drop 0) (ind + 1) ++ (tabs ind ++ [125])) = R := by rw [← hRl]; rfl
 rw [hRl] at hlen ⊢
 have HU : Hid ((bS [123, 10]).data.toList ++ (blT (l.drop 0) (ind + 1) ++ (tabs ind ++ [125])) = R) := Lib.hid hu0
 have HLEN := Lib.hid hlen
 have HN := Lib.hid hN
 have HS := Lib.hid (And.intro hSl hw)
 have HR := Lib.hid hR
 have HI := Lib.hid (And.intro hi hd)
 have hir : (ind : Int) + 1 ≤ 9223372036854775807 := by omega
 have HB := Lib.hid (Below.refl W.heap.size W)
 have ht2 := rtabs_any ind (by omega)
 clear hu0 hlen hN hSl hR hRl hw hi hd
 go_enter Tryz.func50, Tryz.ntmps50
 go_wp2_with fail
 go_loopg [5, 6] N (fun x uv iv wr => ∃ (j : Nat) (u : ByteArray), j ≤ N ∧ x = N - j ∧ iv = .int .i64 (j : Int) ∧ uv = .string u ∧ Hid (u.data.toList ++ (blT (l.drop j) (ind + 1) ++ (tabs ind ++ [125])) = R) ∧ Hid (Below W.heap.size W wr))
 case atStart => exact ⟨0, _, Nat.zero_le _, rfl, rfl, rfl, HU, HB⟩
 case round =>
  clear HU HB
  obtain ⟨j, u, hj, rfl, rfl, rfl, HU, HB⟩ := hrel
  by_cases hjN : j < N
  ·have hlt : (j : Int) < (N : Int) := by omega
   have hp0 : (0 : Int) ≤ (j : Int) := by omega
   have hroom2 : (j : Int) + 1 ≤ 9223372036854775807 := by
    have h1 := hc.1
    have h2 := hc.2
    omega
   obtain ⟨s, hs⟩ : ∃ s, l[j]? = some s := ⟨_, List.getElem?_eq_getElem (by rw [HN.out]; exact hjN)⟩
   obtain ⟨b2, off2, rfl, cs, hrg, hL⟩ := HS.out.1.at hs
   have hl25 := hL.cells.1
   have hUl := HU.out
   rw [blT_drop hs] at hUl
   have hlen2 := congrArg List.length hUl
   simp only [List.length_append] at hlen2
   have hRlen := HLEN.out
   have hsR := stsR_drop2 HR.out hs
   have hcl := fun (V : World) hb => ihL s cs (ind + 1) V hsR (by have := HI.out; omega) hL hb (by omega)
   obtain ⟨tl, htl⟩ : ∃ tl, bS (stT s (ind + 1)) = tl := ⟨_, rfl⟩
   obtain ⟨tb, htb⟩ : ∃ tb, bS (tabs (ind + 1)) = tb := ⟨_, rfl⟩
   have ht1 := fun V => rtabs_any (ind + 1) (by have := HI.out; omega) V
   rw [htb, show ((ind + 1 : Nat) : Int) = (ind : Int) + 1 by omega] at ht1
   rw [htl, show ((ind + 1 : Nat) : Int) = (ind : Int) + 1 by omega] at hcl
   have hus : u.size ≤ 70368744177664 := by
    have : u.data.toList.length = u.size := Array.length_toList
    omega
   have hts : tb.size ≤ 100 := by rw [← htb, tabs_len]; have := HI.out; omega
   have hls : tl.size ≤ 70368744177664 := by rw [← htl, bS_size]; omega
   have HU2 : Hid ((u ++ tb ++ tl ++ ⟨#[10]⟩).data.toList ++ (blT (l.drop (j + 1)) (ind + 1) ++ (tabs ind ++ [125])) = R) := Lib.hid (by
    rw [← hUl, ← htb, ← htl]
    simp only [app_l, bS_l, List.append_assoc])
   have hrB : ∀ V, Below W.heap.size W V → V.rangeAt b2 (off2 + j * 25) cs := fun V hb => by
    have hb2 := HS.out.2.trans (hb.mono HS.out.2.size)
    exact fun i v hv => by
     have h0 := hrg i v hv
     rw [← h0]
     simp [World.cell?, hb2.block b2 (World.block_lt_of_cell? w0 _ h0)]
   have HRB := Lib.hid hrB
   have HCL := Lib.hid (And.intro hcl (And.intro ht1 HS.out.2))
   clear hs hrg hL hUl hlen2 hRlen hsR hcl htl htb ht1 hrB HU
   go_wp2_with fail
   refine wp_region_x [] (fun W => Below wr.heap.size wr W) hmx ?_
   have HS0 : Hid (Below wr.heap.size wr wr.drew) := Lib.hid ((Below.refl _ wr).drew)
   obtain ⟨w0, hw0⟩ : ∃ w0, wr.drew = w0 := ⟨_, rfl⟩
   rw [hw0] at HS0 ⊢
   clear hw0
   refine wpX_takeD 0 (some 13) (v := ?q1v0) rfl rfl (by kernel_rfl) (fun _ _ _ h => h) HS0.out (Or.inl ⟨by rfl, ?q1h0⟩) ?_
   case q1h0 =>
    intro W1 hS1
    clear hS1
    go_simp
    first | with_reducible rfl | rw [if_neg (by omega)]
   refine wpX_takeD 1 (some 14) (v := ?q1v1) rfl rfl (by kernel_rfl) (fun _ _ _ h => h) HS0.out (Or.inl ⟨by rfl, ?q1h1⟩) ?_
   case q1h1 =>
    intro W1 hS1
    clear hS1
    go_simp
    first | with_reducible rfl | rw [if_neg (by omega)]
   refine wpX_takeD 2 (some 15) (v := ?q1v2) rfl rfl (by kernel_rfl) (fun _ _ _ h => h) HS0.out (Or.inl ⟨by rfl, ?q1h2⟩) ?_
   case q1h2 =>
    intro W1 hS1
    clear hS1
    go_simp
    first | with_reducible rfl | rw [if_neg (by omega)]
   refine wpX_takeD 5 (some 18) (v := ?q1v5) rfl rfl (by kernel_rfl) (fun _ _ _ h => h) HS0.out (Or.inl ⟨by rfl, ?q1h5⟩) ?_
   case q1h5 =>
    intro W1 hS1
    clear hS1
    go_simp
    first | with_reducible rfl | rw [if_neg (by omega)]
   simp only [Act.put, List.setIfInBounds_toArray, List.set_cons_zero, List.set_cons_succ]
   refine wpX_takeD 6 (some 19) (v := ?q1v6) rfl rfl (by kernel_rfl) (fun _ _ _ h => h) HS0.out (Or.inl ⟨by rfl, ?q1h6⟩) ?_
   case q1h6 =>
    intro W1 hS1
    clear hS1
    go_simp
    first | with_reducible rfl | rw [if_neg (by omega)]
   refine wpX_takeD 7 (some 20) (v := ?q1v7) rfl rfl (by kernel_rfl) (fun _ _ _ h => h) HS0.out (Or.inl ⟨by rfl, ?q1h7⟩) ?_
   case q1h7 =>
    intro W1 hS1
    clear hS1
    go_simp
    first | with_reducible rfl | rw [if_neg (by omega)]
   refine wpX_takeD 8 (some 21) (v := .agg cs.toArray) rfl rfl (by kernel_rfl) (fun _ _ _ h => h) HS0.out (yieldsIf_load_mid (by rfl) 64 (.tmp 20) rfl b2 (off2 + j * 25) rfl cs d64 (fun W1 hS1 => HRB.out W1 (HB.out.trans (hS1.mono HB.out.size))) hu64 hr64 (by rw [hl25]; exact info64)) ?_
   refine wpX_takeD 9 (some 22) (v := ?q1v9) rfl rfl (by kernel_rfl) (fun _ _ _ h => h) HS0.out (Or.inl ⟨by rfl, ?q1h9⟩) ?_
   case q1h9 =>
    intro W1 hS1
    clear hS1
    go_simp
    first | with_reducible rfl | rw [if_neg (by omega)]
   simp only [Act.put, List.setIfInBounds_toArray, List.set_cons_zero, List.set_cons_succ]
   refine wpX_takeD 10 (some 23) (v := ?q1v10) rfl rfl (by kernel_rfl) (fun _ _ _ h => h) HS0.out (Or.inl ⟨by rfl, ?q1h10⟩) ?_
   case q1h10 =>
    intro W1 hS1
    clear hS1
    go_simp
    first | with_reducible rfl | rw [if_neg (by omega)]
   simp only [Act.put, List.setIfInBounds_toArray, List.set_cons_zero, List.set_cons_succ]
   refine wpX_one 3 (by kernel_rfl) rfl (fun K hK => ?_)
   go_simp
   rw [IntWalk.i64_in ((ind : Int) + 1) (by omega)]
   refine (HCL.out.2.1 w0).mono ?_
   rintro e w1 ⟨rfl, rfl⟩
   have HS1 : Hid (Below wr.heap.size wr w1) := HS0
   refine hK _ _ (fun _ => HS1.out) ?_
   clear hK K HS0
   refine wpX_takeD 4 (some 17) (v := ?q1v4) rfl rfl (by kernel_rfl) (fun _ _ _ h => h) HS1.out (Or.inl ⟨by rfl, ?q1h4⟩) ?_
   case q1h4 =>
    intro W1 hS1
    clear hS1
    go_simp
    first | with_reducible rfl | rw [if_neg (by omega)]
   simp only [Act.put, List.setIfInBounds_toArray, List.set_cons_zero, List.set_cons_succ]
   refine wpX_one 11 (by kernel_rfl) rfl (fun K hK => ?_)
   go_simp
   refine (HCL.out.1 w1 (HCL.out.2.2.trans ((HB.out.trans (HS1.out.mono HB.out.size)).mono HCL.out.2.2.size))).mono ?_
   rintro e w2 ⟨rfl, hbc⟩
   have HS2 : Hid (Below wr.heap.size wr w2) := Lib.hid (HS1.out.trans (hbc.mono HS1.out.size))
   refine hK _ _ (fun _ => HS2.out) ?_
   clear hK K hbc HS1
   refine wpX_takeD 12 (some 25) (v := ?q1v12) rfl rfl (by kernel_rfl) (fun _ _ _ h => h) HS2.out (Or.inl ⟨by rfl, ?q1h12⟩) ?_
   case q1h12 =>
    intro W1 hS1
    clear hS1
    go_simp
    first | with_reducible rfl | rw [if_neg (by omega)]
   refine wpX_takeD 13 (some 26) (v := ?q1v13) rfl rfl (by kernel_rfl) (fun _ _ _ h => h) HS2.out (Or.inl ⟨by rfl, ?q1h13⟩) ?_
   case q1h13 =>
    intro W1 hS1
    clear hS1
    go_simp
    first | with_reducible rfl | rw [if_neg (by omega)]
   simp only [Act.put, List.setIfInBounds_toArray, List.set_cons_zero, List.set_cons_succ]
   refine wpX_takeD 14 (some 5) (v := ?q1v14) rfl rfl (by kernel_rfl) (fun _ _ _ h => h) HS2.out (Or.inl ⟨by rfl, ?q1h14⟩) ?_
   case q1h14 =>
    intro W1 hS1
    clear hS1
    go_simp
    first | with_reducible rfl | rw [if_neg (by omega)]
   simp only [Act.put, List.setIfInBounds_toArray, List.set_cons_zero, List.set_cons_succ]
   refine wpX_done (by kernel_rfl) ?_ _
   have HB2 := Lib.hid (HB.out.trans (HS2.out.mono HB.out.size))
   clear HCL HRB HB HS2
   go_wp2_with fail
   go_roundg (N - (j + 1))
   case measure => omega
   case rel => exact ⟨j + 1, _, by omega, rfl, rfl, rfl, HU2, HB2⟩
  ·obtain rfl : j = N := by omega
   have hlt : ¬ (j : Int) < (j : Int) := by omega
   have hUl := HU.out
   rw [List.drop_eq_nil_of_le (by rw [HN.out]; exact Nat.le_refl _)] at hUl
   have hlen2 := congrArg List.length hUl
   simp only [blT, List.nil_append, List.length_append] at hlen2
   have hRlen := HLEN.out
   obtain ⟨tb, htb⟩ : ∃ tb, bS (tabs ind) = tb := ⟨_, rfl⟩
   have hus : u.size ≤ 70368744177664 := by
    have : u.data.toList.length = u.size := Array.length_toList
    omega
   have hts : tb.size ≤ 100 := by rw [← htb, tabs_len]; have := HI.out; omega
   have HF : Hid (u ++ tb ++ ⟨#[125]⟩ = bS R) := Lib.hid (ba_ext (by
    rw [← htb, app_l, app_l, bS_l, bS_l, ← hUl]
    simp [blT]))
   rw [htb] at ht2
   clear hUl hlen2 hRlen htb HU
   go_wp2_with fail
   refine (ht2 _).mono ?_
   rintro e w1 ⟨rfl, rfl⟩
   go_wp2_with fail
   go_ret
   exact ⟨congrArg _ (congrArg _ HF.out), HB.out⟩
theorem rl_vac (w0 : World) : RL w0 25 := by
 intro s cs ind W hR
 obtain ⟨k, l, c, s, t, x, y, b, e, id, sl, ot, lo⟩ := s
 unfold stR at hR
 simp only [Bool.and_eq_true, decide_eq_true_eq] at hR
 omega
theorem rl_step {w0 : World} (hT : Tab w0) (h7 : 7 < w0.heap.size) {d : Nat} (ihB : RB w0 (d + 1)) : RL w0 d := by
 intro s cs ind W hR hi hL hw hlen
 obtain ⟨k, l, c, s, t, x, y, b, e, id, sl, ot, lo⟩ := s
 have hk := (stR_inv hR).1
 have hk2 : k = 1 ∨ k = 2 ∨ k = 3 ∨ k = 4 ∨ k = 5 ∨ k = 6 ∨ k = 7 ∨ k = 8 ∨ k = 9 ∨ k = 10 ∨ k = 11 ∨ k = 12 ∨ k = 13 ∨ k = 14 ∨ k = 15 := by omega
 rcases hk2 with rfl | rfl | rfl | rfl | rfl | rfl | rfl | rfl | rfl | rfl | rfl | rfl | rfl | rfl | rfl
 ·exact rl1 hT h7 hR hL hw hlen
 ·exact rl2 hT h7 hR hL hw hlen
 ·exact rl3 hT h7 hR hL hw hlen
 ·by_cases hne : e = []
  ·exact rl4b hT h7 hR hi hL hw hlen ihB hne
  ·exact rl4a hT h7 hR hi hL hw hlen ihB hne
 ·exact rl5 hT h7 hR hi hL hw hlen ihB
 ·exact rlo (by decide) hR hL
 ·exact rlo (by decide) hR hL
 ·exact rlp (by decide) hR hL
 ·exact rlo (by decide) hR hL
 ·exact rlo (by decide) hR hL
 ·exact rl11 hT h7 hR hL hw hlen
 ·exact rlp (by decide) hR hL
 ·exact rlo (by decide) hR hL
 ·exact rl14 hT h7 hR hL hw hlen
 ·exact rl15 hT h7 hR hL hw hlen
theorem rb_all {w0 : World} (hT : Tab w0) (h7 : 7 < w0.heap.size) : ∀ (k d : Nat), d + k = 25 → RL w0 d ∧ RB w0 d
 | 0, d, h => by
  obtain rfl : d = 25 := by omega
  exact ⟨rl_vac w0, rb_of (Nat.le_refl _) (rl_vac w0)⟩
 | k + 1, d, h => by
  have h1 := (rb_all hT h7 k (d + 1) (by omega)).2
  have h2 := rl_step hT h7 h1
  exact ⟨h2, rb_of (by omega) h2⟩
theorem prT_drop {l : List De} {j : Nat} (h : j < l.length) : prT (l.drop j) = deT (l.getD j default) ++ prT (l.drop (j + 1)) := by
 rw [List.drop_eq_getElem_cons h]
 show deT l[j] ++ _ = _
 rw [List.getD_eq_getElem?_getD, List.getElem?_eq_getElem h]
 rfl
theorem deR_inv {k l c : Int} {s : ByteArray} {n : Int} {body : List St} (h : deR isName ⟨k, l, c, s, n, body⟩ = true) : s.size ≤ 16 ∧ (-2147483647 ≤ n ∧ n ≤ 2147483647) ∧ ((k = 1 ∨ k = 2 ∨ k = 3 ∨ k = 4 ∨ k = 5) ∨ (k = 6 ∧ stsR isName body 1 = true)) := by
 unfold deR at h
 simp only [Bool.and_eq_true] at h
 refine ⟨?_, ?_⟩
 ·have h1 := h.1
  unfold isName at h1
  simp only [Bool.and_eq_true, decide_eq_true_eq] at h1
  exact h1.2.1
 ·have h3 := h.2.2
  split at h3
  ·rename_i hk
   simp only [Bool.and_eq_true, decide_eq_true_eq] at h3
   exact ⟨h3, .inl (.inl hk)⟩
  split at h3
  ·rename_i hk
   simp only [Bool.and_eq_true, decide_eq_true_eq] at h3
   exact ⟨by omega, by omega⟩
  split at h3
  ·rename_i hk
   simp only [decide_eq_true_eq] at h3
   exact ⟨by omega, by omega⟩
  split at h3
  ·rename_i hk
   simp only [Bool.and_eq_true, decide_eq_true_eq] at h3
   exact ⟨by omega, .inr ⟨hk, h3.2⟩⟩
  ·cases h3
set_option maxHeartbeats 8000000 in
theorem rprint_any {w0 : World} (hT : Tab w0) (h7 : 7 < w0.heap.size) (l : List De) (a : Option Addr) (cap : Nat) (hc : Roomy l.length cap) (h : DesL (fun _ => True) w0 a l) (hR : desR isName l = true) (hlen : (prT l).length ≤ 70368744177664) (W : World) (hw : Below w0.heap.size w0 W) :
  Calls Tryz.prog 24 #[.slice a l.length cap] W fun e w' => e = .returned (.string (bS (prT l))) ∧ Below W.heap.size W w' := by
 obtain ⟨d55, hu55, hr55⟩ := under55
 have hmx : Tryz.prog.follows .mixedOrders = true := by kernel_rfl
 obtain ⟨N, hN⟩ : ∃ N, l.length = N := ⟨_, rfl⟩
 rw [hN] at hc ⊢
 obtain ⟨R, hRl⟩ : ∃ R, prT l = R := ⟨_, rfl⟩
 have hu0 : (bS []).data.toList ++ prT (l.drop 0) = R := by rw [← hRl]; rfl
 rw [hRl] at hlen ⊢
 have HU : Hid ((bS []).data.toList ++ prT (l.drop 0) = R) := Lib.hid hu0
 have HLEN := Lib.hid hlen
 have HN := Lib.hid hN
 have HS := Lib.hid (And.intro h (And.intro hw (And.intro hT h7)))
 have HR := Lib.hid hR
 have HB := Lib.hid (Below.refl W.heap.size W)
 have hrb := (rb_all hT h7 24 1 rfl).2
 have HRBL := Lib.hid hrb
 clear hu0 hlen hN h hR hRl hw hT h7 hrb
 go_enter Tryz.func24, Tryz.ntmps24
 go_wp2_with fail
 go_loopg [3, 4] N (fun x uv iv wr => ∃ (j : Nat) (u : ByteArray), j ≤ N ∧ x = N - j ∧ iv = .int .i64 (j : Int) ∧ uv = .string u ∧ Hid (u.data.toList ++ prT (l.drop j) = R) ∧ Hid (Below W.heap.size W wr))
 case atStart => exact ⟨0, _, Nat.zero_le _, rfl, rfl, rfl, HU, HB⟩
 case round =>
  clear HU HB
  obtain ⟨j, u, hj, rfl, rfl, rfl, HU, HB⟩ := hrel
  by_cases hjN : j < N
  ·have hlt : (j : Int) < (N : Int) := by omega
   have hp0 : (0 : Int) ≤ (j : Int) := by omega
   have hroom2 : (j : Int) + 1 ≤ 9223372036854775807 := by
    have h1 := hc.1
    have h2 := hc.2
    omega
   have hjl : j < l.length := by rw [HN.out]; exact hjN
   obtain ⟨b2, off2, cs, rfl, -, hcs, hdl⟩ := HS.out.1 j hjl
   have hl6 := hdl.cells.1
   have h1c := hdl.cells.2
   have hdR := desR_at HR.out hjl
   have hUl := HU.out
   rw [prT_drop hjl] at hUl
   obtain ⟨d, hd⟩ : ∃ d, l.getD j default = d := ⟨_, rfl⟩
   rw [hd] at hdl hdR hUl
   obtain ⟨k, ln, c, s, n, body⟩ := d
   obtain ⟨ab, capb, rfl, hroomb, hbody⟩ := hdl
   dsimp only at hl6 h1c hroomb hbody hcs ⊢
   obtain ⟨hs16, hnb, hkind⟩ := deR_inv hdR
   have hlen2 := congrArg List.length hUl
   simp only [List.length_append] at hlen2
   have hRlen := HLEN.out
   have hus : u.size ≤ 70368744177664 := by
    have : u.data.toList.length = u.size := Array.length_toList
    omega
   have hwr := HS.out.2.1.trans (HB.out.mono HS.out.2.1.size)
   have HRg := Lib.hid (rangeB (show w0.rangeAt b2 (off2 + j * 6) _ from fun j v hv => hcs j v hv) hwr)
   have hb1 : Below wr.heap.size wr (wr.alloc (.cells #[.int .i64 k, .int .i64 ln, .int .i64 c, .string s, .int .i64 n, .slice ab body.length capb] 55)) := (Below.refl _ wr).alloc (Nat.le_refl _) _
   have hz1 := Blk.new wr 55 [.int .i64 k, .int .i64 ln, .int .i64 c, .string s, .int .i64 n, .slice ab body.length capb]
   have hcn := fun V hV => Tryz.strconv_FormatInt_10 n (by omega) (by omega) V hV
   have hTab := Tab.below HS.out.2.2.1 (hwr.trans (hb1.mono hwr.size)) (by have := HS.out.2.2.2; omega)
   have HK := Lib.hid (And.intro hkind (And.intro hroomb (And.intro hbody (And.intro hUl hlen2))))
   have HV := Lib.hid (And.intro (HB.out.trans (hb1.mono HB.out.size)) (And.intro (hwr.trans (hb1.mono hwr.size)) (And.intro hz1 hTab)))
   have c4 := hz1.cell 4
   simp only [List.getElem?_cons_succ, List.getElem?_cons_zero] at c4
   clear hkind hroomb hbody hUl hlen2 hRlen hwr hb1 hz1 hTab hcs hdR hd HB
   go_wp2_with (first | ((with_reducible show wpList _ _ _ (Oper.mk _ (.load 55 (.tmp 15)) _ _ _ _ :: _) _ _); refine wpList_load_mid rfl 55 (.tmp 15) rfl b2 (off2 + j * 6) rfl _ d55 HRg.out hu55 hr55 (by rw [hl6]; exact info55) ?_) | ((with_reducible show wpList _ _ _ (Oper.mk none (.store 55 _ _) _ _ _ _ :: _) _ _); refine wpList_store_fresh info55 rfl (.tmp 5) (.tmp 16) rfl wr [.int .i64 0, .int .i64 0, .int .i64 0, .string ⟨#[]⟩, .int .i64 0, .slice none 0 0] [.int .i64 k, .int .i64 ln, .int .i64 c, .string s, .int .i64 n, .slice ab body.length capb] rfl rfl hl6 h1c _ rfl rfl rfl ?_))
   obtain ⟨z, hz⟩ : ∃ z, wr.heap.size = z := ⟨_, rfl⟩
   have HV2 : Hid (Below W.heap.size W (wr.alloc (.cells ([.int .i64 k, .int .i64 ln, .int .i64 c, .string s, .int .i64 n, .slice ab body.length capb] : List Value).toArray 55)) ∧ Below w0.heap.size w0 (wr.alloc (.cells ([.int .i64 k, .int .i64 ln, .int .i64 c, .string s, .int .i64 n, .slice ab body.length capb] : List Value).toArray 55)) ∧ Blk (wr.alloc (.cells ([.int .i64 k, .int .i64 ln, .int .i64 c, .string s, .int .i64 n, .slice ab body.length capb] : List Value).toArray 55)) z 55 [.int .i64 k, .int .i64 ln, .int .i64 c, .string s, .int .i64 n, .slice ab body.length capb] ∧ Tab (wr.alloc (.cells ([.int .i64 k, .int .i64 ln, .int .i64 c, .string s, .int .i64 n, .slice ab body.length capb] : List Value).toArray 55))) := by rw [← hz]; exact HV
   refine (hcn _ HV.out.2.2.2).mono ?_
   rw [hz] at c4 ⊢
   clear HV hcn hl6 h1c HRg
   generalize wr.alloc (.cells ([.int .i64 k, .int .i64 ln, .int .i64 c, .string s, .int .i64 n, .slice ab body.length capb] : List Value).toArray 55) = V0 at *
   rintro e V1 ⟨rfl, k1, os1, rfl⟩
   have hb2 := grow_below V0 k1 os1
   obtain ⟨B1, B2, hz2, hTab2⟩ := HV2.out
   have hz3 := hz2.below hb2
   have HV3 := Lib.hid (And.intro (B1.trans (hb2.mono B1.size)) (B2.trans (hb2.mono B2.size)))
   clear B1 B2 hz2 hTab2 HV2 hb2 c4
   generalize Sort.grow (V0.drewN k1) os1 = V1 at *
   have c0 := hz3.cell 0
   have c3 := hz3.cell 3
   have c5 := hz3.cell 5
   simp only [List.getElem?_cons_succ, List.getElem?_cons_zero] at c0 c3 c5
   obtain ⟨ti, hti⟩ : ∃ ti, (⟨(Lib.itoa n).toArray⟩ : ByteArray) = ti := ⟨_, rfl⟩
   rw [hti]
   have htis : ti.size ≤ 21 := by
    rw [← hti]
    exact Lib.itoa_length_le n (by omega) (by omega)
   have HTI : Hid (ti = bS (Lib.itoa n)) := Lib.hid hti.symm
   clear hti hz3 hnb
   rcases HK.out.1 with (rfl | rfl | rfl | rfl | rfl) | ⟨rfl, hbR⟩
   ·have HU2 : Hid ((u ++ ⟨#[118, 97, 114, 32]⟩ ++ s ++ ⟨#[32, 61, 32]⟩ ++ ti ++ ⟨#[59, 10]⟩).data.toList ++ prT (l.drop (j + 1)) = R) := Lib.hid (by
     rw [← HK.out.2.2.2.1, HTI.out]
     simp [deT, bS])
    have HB2 := Lib.hid HV3.out.1
    clear HK HV3 HU HTI
    go_wp2_with fail
    go_roundg (N - (j + 1))
    case measure => omega
    case rel => exact ⟨j + 1, _, by omega, rfl, rfl, rfl, HU2, HB2⟩
   ·have HU2 : Hid ((u ++ ⟨#[97, 114, 114, 97, 121, 32]⟩ ++ s ++ ⟨#[32]⟩ ++ ti ++ ⟨#[59, 10]⟩).data.toList ++ prT (l.drop (j + 1)) = R) := Lib.hid (by
     rw [← HK.out.2.2.2.1, HTI.out]
     simp [deT, bS])
    have HB2 := Lib.hid HV3.out.1
    clear HK HV3 HU HTI
    go_wp2_with fail
    go_roundg (N - (j + 1))
    case measure => omega
    case rel => exact ⟨j + 1, _, by omega, rfl, rfl, rfl, HU2, HB2⟩
   ·have HU2 : Hid ((u ++ ⟨#[109, 117, 116, 101, 120, 32]⟩ ++ s ++ ⟨#[59, 10]⟩).data.toList ++ prT (l.drop (j + 1)) = R) := Lib.hid (by
     rw [← HK.out.2.2.2.1]
     simp [deT])
    have HB2 := Lib.hid HV3.out.1
    clear HK HV3 HU HTI
    go_wp2_with fail
    go_roundg (N - (j + 1))
    case measure => omega
    case rel => exact ⟨j + 1, _, by omega, rfl, rfl, rfl, HU2, HB2⟩
   ·have HU2 : Hid ((u ++ ⟨#[99, 111, 110, 100, 32]⟩ ++ s ++ ⟨#[59, 10]⟩).data.toList ++ prT (l.drop (j + 1)) = R) := Lib.hid (by
     rw [← HK.out.2.2.2.1]
     simp [deT])
    have HB2 := Lib.hid HV3.out.1
    clear HK HV3 HU HTI
    go_wp2_with fail
    go_roundg (N - (j + 1))
    case measure => omega
    case rel => exact ⟨j + 1, _, by omega, rfl, rfl, rfl, HU2, HB2⟩
   ·have HU2 : Hid ((u ++ ⟨#[99, 104, 97, 110, 32]⟩ ++ s ++ ⟨#[32]⟩ ++ ti ++ ⟨#[59, 10]⟩).data.toList ++ prT (l.drop (j + 1)) = R) := Lib.hid (by
     rw [← HK.out.2.2.2.1, HTI.out]
     simp [deT, bS])
    have HB2 := Lib.hid HV3.out.1
    clear HK HV3 HU HTI
    go_wp2_with fail
    go_roundg (N - (j + 1))
    case measure => omega
    case rel => exact ⟨j + 1, _, by omega, rfl, rfl, rfl, HU2, HB2⟩
   ·obtain ⟨tb, htb⟩ : ∃ tb, bS (blockT body 0) = tb := ⟨_, rfl⟩
    have hbl : (blockT body 0).length ≤ 70368744177664 := by
     have h1 := HK.out.2.2.2.2
     have h2 := HLEN.out
     simp [deT] at h1
     omega
    have htbs : tb.size ≤ 70368744177664 := by rw [← htb, bS_size]; exact hbl
    have HU2 : Hid ((u ++ ⟨#[116, 104, 114, 101, 97, 100, 32]⟩ ++ s ++ ⟨#[32]⟩ ++ tb ++ ⟨#[10]⟩).data.toList ++ prT (l.drop (j + 1)) = R) := Lib.hid (by
     rw [← HK.out.2.2.2.1, ← htb]
     simp [deT, bS])
    have hcl := fun (V : World) hb => HRBL.out body ab capb 0 V hbR (Nat.le_refl _) ⟨HK.out.2.1, HK.out.2.2.1⟩ hb hbl
    rw [htb, show ((0 : Nat) : Int) = 0 from rfl] at hcl
    have HCL := Lib.hid hcl
    have hrB : ∀ Wx, Below V1.heap.size V1 Wx → Wx.cell? ⟨z, 3, none⟩ = some (.string s) ∧ Wx.cell? ⟨z, 5, none⟩ = some (.slice ab body.length capb) := fun Wx hb => by
     have hk : ∀ (b o : Nat) (v : Value), V1.cell? ⟨b, o, none⟩ = some v → Wx.cell? ⟨b, o, none⟩ = some v := fun b o v hv => by rw [← hv]; simp [World.cell?, hb.block b (World.block_lt_of_cell? V1 _ hv)]
     exact ⟨hk _ _ _ c3, hk _ _ _ c5⟩
    have HRB := Lib.hid hrB
    clear hcl hrB htb hbl HK HU HTI hbR htis c3 c5
    go_wp2_with fail
    refine wp_region_x [] (fun W => Below V1.heap.size V1 W) hmx ?_
    have HS0 : Hid (Below V1.heap.size V1 V1.drew) := Lib.hid ((Below.refl _ V1).drew)
    obtain ⟨w0, hw0⟩ : ∃ w0, V1.drew = w0 := ⟨_, rfl⟩
    rw [hw0] at HS0 ⊢
    clear hw0
    refine wpX_takeD 0 (some 73) (v := ?q1v0) rfl rfl (by kernel_rfl) (fun _ _ _ h => h) HS0.out (Or.inl ⟨by rfl, ?q1h0⟩) ?_
    case q1h0 =>
     intro W1 hS1
     clear hS1
     go_simp
     first | with_reducible rfl | rw [if_neg (by omega)]
    refine wpX_takeD 1 (some 74) (v := ?q1v1) rfl rfl (by kernel_rfl) (fun _ _ _ h => h) HS0.out (Or.inl ⟨by rfl, ?q1h1⟩) ?_
    case q1h1 =>
     intro W1 hS1
     clear hS1
     go_simp
     first | with_reducible rfl | rw [if_neg (by omega)]
    refine wpX_takeD 2 (some 75) (v := ?q1v2) rfl rfl (by kernel_rfl) (fun _ _ _ h => h) HS0.out (Or.inl ⟨by rfl, ?q1h2⟩) ?_
    case q1h2 =>
     intro W1 hS1
     clear hS1
     go_simp
     first | with_reducible rfl | rw [if_neg (by omega)]
    refine wpX_takeD 3 (some 76) (v := ?q1v3) rfl rfl (by kernel_rfl) (fun _ _ _ h => h) HS0.out (Or.inl ⟨by rfl, ?q1h3⟩) ?_
    case q1h3 =>
     intro W1 hS1
     obtain ⟨f3, f5⟩ := HRB.out W1 hS1
     clear hS1
     go_simp
     first | with_reducible rfl | rw [if_neg (by omega)]
    simp only [Act.put, List.setIfInBounds_toArray, List.set_cons_zero, List.set_cons_succ]
    refine wpX_takeD 4 (some 77) (v := ?q1v4) rfl rfl (by kernel_rfl) (fun _ _ _ h => h) HS0.out (Or.inl ⟨by rfl, ?q1h4⟩) ?_
    case q1h4 =>
     intro W1 hS1
     clear hS1
     go_simp
     first | with_reducible rfl | rw [if_neg (by omega)]
    refine wpX_takeD 5 (some 78) (v := ?q1v5) rfl rfl (by kernel_rfl) (fun _ _ _ h => h) HS0.out (Or.inl ⟨by rfl, ?q1h5⟩) ?_
    case q1h5 =>
     intro W1 hS1
     clear hS1
     go_simp
     first | with_reducible rfl | rw [if_neg (by omega)]
    refine wpX_takeD 6 (some 79) (v := ?q1v6) rfl rfl (by kernel_rfl) (fun _ _ _ h => h) HS0.out (Or.inl ⟨by rfl, ?q1h6⟩) ?_
    case q1h6 =>
     intro W1 hS1
     clear hS1
     go_simp
     first | with_reducible rfl | rw [if_neg (by omega)]
    refine wpX_takeD 7 (some 80) (v := ?q1v7) rfl rfl (by kernel_rfl) (fun _ _ _ h => h) HS0.out (Or.inl ⟨by rfl, ?q1h7⟩) ?_
    case q1h7 =>
     intro W1 hS1
     obtain ⟨f3, f5⟩ := HRB.out W1 hS1
     clear hS1
     go_simp
     first | with_reducible rfl | rw [if_neg (by omega)]
    simp only [Act.put, List.setIfInBounds_toArray, List.set_cons_zero, List.set_cons_succ]
    refine wpX_one 8 (by kernel_rfl) rfl (fun K hK => ?_)
    go_simp
    refine (HCL.out w0 (HV3.out.2.trans (HS0.out.mono HV3.out.2.size))).mono ?_
    rintro e w1 ⟨rfl, hbc⟩
    have HS1 : Hid (Below V1.heap.size V1 w1) := Lib.hid (HS0.out.trans (hbc.mono HS0.out.size))
    refine hK _ _ (fun _ => HS1.out) ?_
    clear hK K hbc HS0
    refine wpX_takeD 9 (some 82) (v := ?q1v9) rfl rfl (by kernel_rfl) (fun _ _ _ h => h) HS1.out (Or.inl ⟨by rfl, ?q1h9⟩) ?_
    case q1h9 =>
     intro W1 hS1
     clear hS1
     go_simp
     first | with_reducible rfl | rw [if_neg (by omega)]
    refine wpX_takeD 10 (some 83) (v := ?q1v10) rfl rfl (by kernel_rfl) (fun _ _ _ h => h) HS1.out (Or.inl ⟨by rfl, ?q1h10⟩) ?_
    case q1h10 =>
     intro W1 hS1
     clear hS1
     go_simp
     first | with_reducible rfl | rw [if_neg (by omega)]
    refine wpX_takeD 11 (some 3) (v := ?q1v11) rfl rfl (by kernel_rfl) (fun _ _ _ h => h) HS1.out (Or.inl ⟨by rfl, ?q1h11⟩) ?_
    case q1h11 =>
     intro W1 hS1
     clear hS1
     go_simp
     first | with_reducible rfl | rw [if_neg (by omega)]
    simp only [Act.put, List.setIfInBounds_toArray, List.set_cons_zero, List.set_cons_succ]
    refine wpX_done (by kernel_rfl) ?_ _
    have HB2 := Lib.hid (HV3.out.1.trans (HS1.out.mono HV3.out.1.size))
    clear HCL HRB HV3 HS1
    go_wp2_with fail
    go_roundg (N - (j + 1))
    case measure => omega
    case rel => exact ⟨j + 1, _, by omega, rfl, rfl, rfl, HU2, HB2⟩
  ·obtain rfl : j = N := by omega
   have hlt : ¬ (j : Int) < (j : Int) := by omega
   have hUl := HU.out
   rw [List.drop_eq_nil_of_le (by rw [HN.out]; exact Nat.le_refl _)] at hUl
   have HF : Hid (u = bS R) := Lib.hid (ba_ext (by
    rw [bS_l, ← hUl]
    simp [prT]))
   clear hUl HU
   go_wp2_with fail
   go_ret
   exact ⟨congrArg _ (congrArg _ HF.out), HB.out⟩
end Go.Proofs.YtjmlmelcppbefaaGreatDoor
