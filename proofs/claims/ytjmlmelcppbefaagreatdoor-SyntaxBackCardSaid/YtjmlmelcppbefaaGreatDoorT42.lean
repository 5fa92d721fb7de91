/- What the syntax texts share, part 42. No condition. -/
import Derived.Test.YtjmlmelcppbefaaGreatDoorX1
import Derived.Test.YtjmlmelcppbefaaGreatDoorT41
set_option maxRecDepth 100000
namespace Go.Proofs.YtjmlmelcppbefaaGreatDoor
open Go.RowKit Go.Maps
theorem under210 : ∃ d, Tryz.prog.underlying 210 = some d ∧ d.isRow = true := by
 have h : (Tryz.prog.underlying 210).map (·.isRow) = some true := by kernel_rfl
 obtain ⟨d, h1, h2⟩ := Option.map_eq_some_iff.1 h
 exact ⟨d, h1, h2⟩
theorem info210 : (Tryz.prog.info? 210).map (·.size) = some 6 := by kernel_rfl
set_option maxHeartbeats 16000000 in
theorem sm_any {d : Nat} (hd : d ≤ 24) (hB : BmOk (d + 1)) : SmOk d := by
 intro s b off w hSh h hnb
 obtain ⟨d210, hu210, hr210⟩ := under210
 have hmx : Tryz.prog.follows .mixedOrders = true := by kernel_rfl
 obtain ⟨k, sl, sc, sn, sw, sx, sy, sb, se, sid, ssl, sot, slo⟩ := s
 obtain ⟨p0, -⟩ := h.parts
 obtain ⟨R, hR⟩ : ∃ R, stR isName (.mk k sl sc sn sw sx sy sb se sid ssl sot slo) d = R := ⟨_, rfl⟩
 rw [hR]
 unfold stR at hR
 have HH := Lib.hid h
 by_cases hk0 : k ≤ 0
 ·have hRf : R = false := by
   rw [← hR, decide_eq_false (p := 1 ≤ k) (by omega)]
   simp
  subst hRf
  clear h
  go_enter Tryz.func133, Tryz.ntmps133
  go_wp2_with fail
  go_ret
  exact ⟨rfl, Below.refl _ w⟩
 by_cases hk16 : 16 ≤ k
 ·have hRf : R = false := by
   rw [← hR, decide_eq_false (p := k ≤ 15) (by omega)]
   simp
  subst hRf
  clear h
  go_enter Tryz.func133, Tryz.ntmps133
  go_wp2_with fail
  go_ret
  exact ⟨rfl, Below.refl _ w⟩
 obtain ⟨kn, rfl⟩ : ∃ kn : Nat, k = (kn : Int) := ⟨k.toNat, by omega⟩
 have hkn1 : 1 ≤ kn := by omega
 have hkn16 : kn < 16 := by omega
 have hsh := hSh kn hkn1 hkn16
 unfold shC at hsh
 rw [decide_eq_true (p := (1 : Int) ≤ (kn : Int)) (by omega), decide_eq_true (p := (kn : Int) ≤ 15) (by omega), decide_eq_true hd] at hR
 simp only [Bool.and_self, Bool.true_and] at hR
 rw [show (if (kn : Int) = 3 then exR isName sy 24 else exZ sy) = (if decide ((kn : Int) = 3) = true then exR isName sy 24 else exZ sy) by simp] at hR
 obtain ⟨b0, e0⟩ : ∃ b, nName (kn : Int) = b := ⟨_, rfl⟩
 obtain ⟨b1, e1⟩ : ∃ b, nWith (kn : Int) = b := ⟨_, rfl⟩
 obtain ⟨b2, e2⟩ : ∃ b, nExpr (kn : Int) = b := ⟨_, rfl⟩
 obtain ⟨b3, e3⟩ : ∃ b, decide ((kn : Int) = 3) = b := ⟨_, rfl⟩
 obtain ⟨b4, e4⟩ : ∃ b, (decide ((kn : Int) = 4) || decide ((kn : Int) = 5)) = b := ⟨_, rfl⟩
 obtain ⟨b5, e5⟩ : ∃ b, decide ((kn : Int) = 4) = b := ⟨_, rfl⟩
 rw [e4] at hsh hR
 rw [e0, e1, e2, e3, e5] at hsh hR
 unfold St.nb at hnb
 obtain ⟨hn1, hn2, hnx, hny, hnbb, hnbe⟩ := hnb
 obtain ⟨m1, hm1⟩ : ∃ m, (if b0 = true then isName sn else decide (sn = noB)) = m := ⟨_, rfl⟩
 obtain ⟨m2, hm2⟩ : ∃ m, (if b1 = true then isName sw else decide (sw = noB)) = m := ⟨_, rfl⟩
 obtain ⟨m3, hm3⟩ : ∃ m, (if b3 = true then exR isName sy 24 else exZ sy) = m := ⟨_, rfl⟩
 obtain ⟨m4, hm4⟩ : ∃ m, (if b2 = true then exR isName sx 24 else exZ sx) = m := ⟨_, rfl⟩
 obtain ⟨mb, hmb⟩ : ∃ m, stsR isName sb (d + 1) = m := ⟨_, rfl⟩
 obtain ⟨me, hme⟩ : ∃ m, stsR isName se (d + 1) = m := ⟨_, rfl⟩
 rw [hm1, hm2, hm3, hm4, hmb, hme] at hR
 have c1 : ∀ W, Calls Tryz.prog 102 #[.string sn, .bool b0] W fun e w' => e = .returned (.bool m1) ∧ Below W.heap.size W w' := fun W => by
  have := nameMay_any sn b0 W hn1
  rwa [hm1] at this
 have c2 : ∀ W, Calls Tryz.prog 102 #[.string sw, .bool b1] W fun e w' => e = .returned (.bool m2) ∧ Below W.heap.size W w' := fun W => by
  have := nameMay_any sw b1 W hn2
  rwa [hm2] at this
 have c3 : ∀ W, ExAt W b (off + 12) sy → Calls Tryz.prog 157 #[.pointer (some ⟨b, off + 12, none⟩), .bool b3] W fun e w' => e = .returned (.bool m3) ∧ Below W.heap.size W w' := fun W hx => by
  have := partMay_any sy b3 b (off + 12) W hx hny
  rwa [hm3] at this
 have c4 : ∀ W, ExAt W b (off + 5) sx → Calls Tryz.prog 157 #[.pointer (some ⟨b, off + 5, none⟩), .bool b2] W fun e w' => e = .returned (.bool m4) ∧ Below W.heap.size W w' := fun W hx => by
  have := partMay_any sx b2 b (off + 5) W hx hnx
  rwa [hm4] at this
 have HC := Lib.hid (And.intro c1 (And.intro c2 (And.intro c3 c4)))
 have HM := Lib.hid (And.intro hmb hme)
 have HNB := Lib.hid (And.intro hnbb hnbe)
 have HR := Lib.hid hR
 have HSH := Lib.hid hSh
 have HRg := Lib.hid hsh
 have hp0 : (0 : Int) ≤ (kn : Int) := by omega
 have hk16' : (kn : Int) < 16 := by omega
 clear e0 e1 e2 e3 e4 e5 hm1 hm2 hm3 hm4 hmb hme hnx hny hnbb hnbe c1 c2 c3 c4 hR h hSh hsh hn1 hn2
 go_enter Tryz.func133, Tryz.ntmps133
 refine wp_seq_k fun K hK => ?_
 have HK := Lib.hid hK
 clear hK
 go_wp2_with fail
 refine HK.out _ _ ?_
 clear HK K
 refine wp_seq_k fun K hK => ?_
 have HK := Lib.hid hK
 clear hK
 go_wp2_with fail
 refine HK.out _ _ ?_
 clear HK K
 refine wp_seq_k fun K hK => ?_
 have HK := Lib.hid hK
 clear hK
 go_wp2_with (first | ((with_reducible show wpList _ _ _ (Oper.mk _ (.load 210 _) _ _ _ _ :: _) _ _); refine wpList_load_mid rfl 210 (.tmp 22) rfl 1 (kn * 6) rfl [.bool b0, .bool b1, .bool b2, .bool b3, .bool b4, .bool b5] d210 HRg.out hu210 hr210 info210 ?_) | ((with_reducible show wpList _ _ _ (Oper.mk none (.store 210 _ _) _ _ _ _ :: _) _ _); refine wpList_store_fresh info210 rfl (.tmp 5) (.tmp 23) rfl w [.bool false, .bool false, .bool false, .bool false, .bool false, .bool false] [.bool b0, .bool b1, .bool b2, .bool b3, .bool b4, .bool b5] rfl rfl rfl (by intro v hv; simp only [List.mem_cons, List.not_mem_nil, or_false] at hv; rcases hv with rfl | rfl | rfl | rfl | rfl | rfl <;> rfl) _ rfl rfl rfl ?_))
 obtain ⟨q, hq⟩ : ∃ q, w.heap.size = q := ⟨_, rfl⟩
 have hzq : Blk (w.alloc (.cells #[.bool b0, .bool b1, .bool b2, .bool b3, .bool b4, .bool b5] 210)) q 210 [.bool b0, .bool b1, .bool b2, .bool b3, .bool b4, .bool b5] := by
  rw [← hq]
  exact Blk.new w 210 _
 have hbV : Below q w (w.alloc (.cells #[.bool b0, .bool b1, .bool b2, .bool b3, .bool b4, .bool b5] 210)) := by
  rw [← hq]
  exact (Below.refl _ w).alloc (Nat.le_refl _) _
 have hsV := HH.out.below (show Below w.heap.size w (w.alloc (.cells #[.bool b0, .bool b1, .bool b2, .bool b3, .bool b4, .bool b5] 210)) from (Below.refl _ w).alloc (Nat.le_refl _) _)
 have hshV := HSH.out.below (show Below w.heap.size w (w.alloc (.cells #[.bool b0, .bool b1, .bool b2, .bool b3, .bool b4, .bool b5] 210)) from (Below.refl _ w).alloc (Nat.le_refl _) _)
 rw [hq]
 have HP := Lib.hid p0
 clear p0
 generalize w.alloc (.cells #[.bool b0, .bool b1, .bool b2, .bool b3, .bool b4, .bool b5] 210) = V at *
 have hC : ∀ W, Below V.heap.size V W → StAt W b off (.mk kn sl sc sn sw sx sy sb se sid ssl sot slo) ∧ Blk W q 210 [.bool b0, .bool b1, .bool b2, .bool b3, .bool b4, .bool b5] ∧ Shs W ∧ Below q w W := fun W hb => ⟨hsV.below hb, hzq.below hb, hshV.below hb, hbV.trans (hb.mono (Nat.le_of_lt hzq.lt))⟩
 have HCC := Lib.hid hC
 clear hsV hshV hzq hbV hC
 refine HK.out _ _ ?_
 clear HK K
 refine wp_seq_k fun K hK => ?_
 have HK := Lib.hid hK
 clear hK
 go_wp2_with fail
 refine wp_region_x [] (fun W => Below V.heap.size V W) hmx ?_
 have HS : Hid (Below V.heap.size V V.drew) := Lib.hid ((Below.refl _ V).drew)
 refine wpX_take2 0 (v := ?v0) rfl (by kernel_rfl) (by kernel_rfl) (by kernel_rfl) (by kernel_rfl) (by kernel_rfl) (fun _ _ _ h => h) HS.out (Or.inl ⟨by rfl, ?h0⟩) ?_
 case h0 =>
  intro W1 hS1
  clear hS1
  go_simp
  with_reducible rfl
 refine wpX_take2 1 (v := ?v1) rfl (by kernel_rfl) (by kernel_rfl) (by kernel_rfl) (by kernel_rfl) (by kernel_rfl) (fun _ _ _ h => h) HS.out (Or.inl ⟨by rfl, ?h1⟩) ?_
 case h1 =>
  intro W1 hS1
  clear hS1
  go_simp
  with_reducible rfl
 refine wpX_take2 2 (v := ?v2) rfl (by kernel_rfl) (by kernel_rfl) (by kernel_rfl) (by kernel_rfl) (by kernel_rfl) (fun _ _ _ h => h) HS.out (Or.inl ⟨by rfl, ?h2⟩) ?_
 case h2 =>
  intro W1 hS1
  clear hS1
  go_simp
  with_reducible rfl
 refine wpX_take2 3 (v := ?v3) rfl (by kernel_rfl) (by kernel_rfl) (by kernel_rfl) (by kernel_rfl) (by kernel_rfl) (fun _ _ _ h => h) HS.out (Or.inl ⟨by rfl, ?h3⟩) ?_
 case h3 =>
  intro W1 hS1
  obtain ⟨-, -, -, p3, p4, -⟩ := (HCC.out W1 hS1).1.parts
  clear p4
  clear hS1
  go_simp
  with_reducible rfl
 refine wpX_take2 4 (v := ?v4) rfl (by kernel_rfl) (by kernel_rfl) (by kernel_rfl) (by kernel_rfl) (by kernel_rfl) (fun _ _ _ h => h) HS.out (Or.inl ⟨by rfl, ?h4⟩) ?_
 case h4 =>
  intro W1 hS1
  clear hS1
  go_simp
  with_reducible rfl
 refine wpX_take2 5 (v := ?v5) rfl (by kernel_rfl) (by kernel_rfl) (by kernel_rfl) (by kernel_rfl) (by kernel_rfl) (fun _ _ _ h => h) HS.out (Or.inl ⟨by rfl, ?h5⟩) ?_
 case h5 =>
  intro W1 hS1
  have q0 := (HCC.out W1 hS1).2.1.cell 0
  simp only [List.getElem?_cons_zero] at q0
  clear hS1
  go_simp
  with_reducible rfl
 refine wpX_one 6 (by kernel_rfl) rfl (fun K hK => ?_)
 go_simp
 refine (HC.out.1 _).mono ?_
 rintro e W1 ⟨rfl, hbW1⟩
 have HS : Hid (Below V.heap.size V W1) := Lib.hid (HS.out.trans (hbW1.mono HS.out.size))
 clear hbW1
 cases m1
 ·refine hK _ _ (fun _ => HS.out) ?_
  clear hK K
  refine wpX_one 7 (by kernel_rfl) rfl (fun K hK => ?_)
  go_simp
  refine hK _ _ (fun _ => HS.out) ?_
  clear hK K
  refine wpX_one 8 (by kernel_rfl) rfl (fun K hK => ?_)
  go_simp
  refine hK _ _ (fun _ => HS.out) ?_
  clear hK K
  refine wpX_take2 9 (v := undef) rfl (by kernel_rfl) (by kernel_rfl) (by kernel_rfl) (by kernel_rfl) (by kernel_rfl) (fun _ _ _ h => h) HS.out (Or.inr ⟨by rfl, rfl⟩) ?_
  refine wpX_take2 10 (v := undef) rfl (by kernel_rfl) (by kernel_rfl) (by kernel_rfl) (by kernel_rfl) (by kernel_rfl) (fun _ _ _ h => h) HS.out (Or.inr ⟨by rfl, rfl⟩) ?_
  refine wpX_take2 11 (v := undef) rfl (by kernel_rfl) (by kernel_rfl) (by kernel_rfl) (by kernel_rfl) (by kernel_rfl) (fun _ _ _ h => h) HS.out (Or.inr ⟨by rfl, rfl⟩) ?_
  refine wpX_take2 12 (v := undef) rfl (by kernel_rfl) (by kernel_rfl) (by kernel_rfl) (by kernel_rfl) (by kernel_rfl) (fun _ _ _ h => h) HS.out (Or.inr ⟨by rfl, rfl⟩) ?_
  refine wpX_take2 13 (v := undef) rfl (by kernel_rfl) (by kernel_rfl) (by kernel_rfl) (by kernel_rfl) (by kernel_rfl) (fun _ _ _ h => h) HS.out (Or.inr ⟨by rfl, rfl⟩) ?_
  refine wpX_take2 14 (v := undef) rfl (by kernel_rfl) (by kernel_rfl) (by kernel_rfl) (by kernel_rfl) (by kernel_rfl) (fun _ _ _ h => h) HS.out (Or.inr ⟨by rfl, rfl⟩) ?_
  refine wpX_take2 15 (v := undef) rfl (by kernel_rfl) (by kernel_rfl) (by kernel_rfl) (by kernel_rfl) (by kernel_rfl) (fun _ _ _ h => h) HS.out (Or.inr ⟨by rfl, rfl⟩) ?_
  refine wpX_take2 16 (v := undef) rfl (by kernel_rfl) (by kernel_rfl) (by kernel_rfl) (by kernel_rfl) (by kernel_rfl) (fun _ _ _ h => h) HS.out (Or.inr ⟨by rfl, rfl⟩) ?_
  refine wpX_one 17 (by kernel_rfl) rfl (fun K hK => ?_)
  go_simp
  refine hK _ _ (fun _ => HS.out) ?_
  clear hK K
  refine wpX_done (by kernel_rfl) ?_ _
  have hRf : R = false := by
   rw [← HR.out]
   simp
  subst hRf
  have hbf := (HCC.out W1 HS.out).2.2.2
  rw [← hq] at hbf
  go_wp2_with fail
  go_ret
  exact ⟨rfl, hbf⟩
 refine hK _ _ (fun _ => HS.out) ?_
 clear hK K
 refine wpX_one 7 (by kernel_rfl) rfl (fun K hK => ?_)
 go_simp
 refine hK _ _ (fun _ => HS.out) ?_
 clear hK K
 refine wpX_one 8 (by kernel_rfl) rfl (fun K hK => ?_)
 go_simp
 refine hK _ _ (fun _ => HS.out) ?_
 clear hK K
 refine wpX_take2 9 (v := ?v9) rfl (by kernel_rfl) (by kernel_rfl) (by kernel_rfl) (by kernel_rfl) (by kernel_rfl) (fun _ _ _ h => h) HS.out (Or.inl ⟨by rfl, ?h9⟩) ?_
 case h9 =>
  intro W1 hS1
  clear hS1
  go_simp
  with_reducible rfl
 refine wpX_take2 10 (v := ?v10) rfl (by kernel_rfl) (by kernel_rfl) (by kernel_rfl) (by kernel_rfl) (by kernel_rfl) (fun _ _ _ h => h) HS.out (Or.inl ⟨by rfl, ?h10⟩) ?_
 case h10 =>
  intro W1 hS1
  clear hS1
  go_simp
  with_reducible rfl
 refine wpX_take2 11 (v := ?v11) rfl (by kernel_rfl) (by kernel_rfl) (by kernel_rfl) (by kernel_rfl) (by kernel_rfl) (fun _ _ _ h => h) HS.out (Or.inl ⟨by rfl, ?h11⟩) ?_
 case h11 =>
  intro W1 hS1
  clear hS1
  go_simp
  with_reducible rfl
 refine wpX_take2 12 (v := ?v12) rfl (by kernel_rfl) (by kernel_rfl) (by kernel_rfl) (by kernel_rfl) (by kernel_rfl) (fun _ _ _ h => h) HS.out (Or.inl ⟨by rfl, ?h12⟩) ?_
 case h12 =>
  intro W1 hS1
  obtain ⟨-, -, -, p3, p4, -⟩ := (HCC.out W1 hS1).1.parts
  clear p3
  clear hS1
  go_simp
  with_reducible rfl
 refine wpX_take2 13 (v := ?v13) rfl (by kernel_rfl) (by kernel_rfl) (by kernel_rfl) (by kernel_rfl) (by kernel_rfl) (fun _ _ _ h => h) HS.out (Or.inl ⟨by rfl, ?h13⟩) ?_
 case h13 =>
  intro W1 hS1
  clear hS1
  go_simp
  with_reducible rfl
 refine wpX_take2 14 (v := ?v14) rfl (by kernel_rfl) (by kernel_rfl) (by kernel_rfl) (by kernel_rfl) (by kernel_rfl) (fun _ _ _ h => h) HS.out (Or.inl ⟨by rfl, ?h14⟩) ?_
 case h14 =>
  intro W1 hS1
  have q1 := (HCC.out W1 hS1).2.1.cell 1
  simp only [List.getElem?_cons_succ, List.getElem?_cons_zero] at q1
  clear hS1
  go_simp
  with_reducible rfl
 refine wpX_one 15 (by kernel_rfl) rfl (fun K hK => ?_)
 go_simp
 refine (HC.out.2.1 _).mono ?_
 rintro e W2 ⟨rfl, hbW2⟩
 have HS : Hid (Below V.heap.size V W2) := Lib.hid (HS.out.trans (hbW2.mono HS.out.size))
 clear hbW2
 cases m2
 ·refine hK _ _ (fun _ => HS.out) ?_
  clear hK K
  refine wpX_one 16 (by kernel_rfl) rfl (fun K hK => ?_)
  go_simp
  refine hK _ _ (fun _ => HS.out) ?_
  clear hK K
  refine wpX_one 17 (by kernel_rfl) rfl (fun K hK => ?_)
  go_simp
  refine hK _ _ (fun _ => HS.out) ?_
  clear hK K
  refine wpX_done (by kernel_rfl) ?_ _
  have hRf : R = false := by
   rw [← HR.out]
   simp
  subst hRf
  have hbf := (HCC.out W2 HS.out).2.2.2
  rw [← hq] at hbf
  go_wp2_with fail
  go_ret
  exact ⟨rfl, hbf⟩
 refine hK _ _ (fun _ => HS.out) ?_
 clear hK K
 refine wpX_one 16 (by kernel_rfl) rfl (fun K hK => ?_)
 go_simp
 refine hK _ _ (fun _ => HS.out) ?_
 clear hK K
 refine wpX_one 17 (by kernel_rfl) rfl (fun K hK => ?_)
 go_simp
 refine hK _ _ (fun _ => HS.out) ?_
 clear hK K
 refine wpX_done (by kernel_rfl) ?_ _
 have hRt : R = (m3 && (m4 && ((b4 || decide (sb.length = 0)) && ((b5 || decide (se.length = 0)) && (mb && me))))) := by
  rw [← HR.out]
  simp
 subst hRt
 clear HR
 obtain ⟨hs, hqz, hSh, hb⟩ := HCC.out W2 HS.out
 rw [← hq] at hb
 go_wp2_with fail
 exact HK.out _ _ (sm_a hd hB hs hqz hSh hb HNB.out.1 HNB.out.2 HM.out.1 HM.out.2 HC.out.2.2.1 HC.out.2.2.2)
theorem sm_all : ∀ (m d : Nat), d + m = 25 → BmOk d := by
 intro m
 induction m with
 | zero =>
  intro d hd
  exact bm_of_sm (by omega) (fun h => absurd h (by omega))
 | succ m ih =>
  intro d hd
  exact bm_of_sm (by omega) (fun h => sm_any h (ih (d + 1) (by omega)))
def DeAt (w : World) (b off : Nat) (d : De) : Prop := ∃ cs : List Value, w.rangeAt b off cs ∧ DeL (fun _ => True) w cs d
theorem DeAt.parts {w : World} {b off : Nat} {k l c : Int} {s : ByteArray} {n : Int} {body : List St} (h : DeAt w b off ⟨k, l, c, s, n, body⟩) :
  w.cell? ⟨b, off, none⟩ = some (.int .i64 k) ∧ w.cell? ⟨b, off + 3, none⟩ = some (.string s) ∧ w.cell? ⟨b, off + 4, none⟩ = some (.int .i64 n) ∧ ∃ a cap, w.cell? ⟨b, off + 5, none⟩ = some (.slice a body.length cap) ∧ SlAt w a cap body := by
 obtain ⟨cs, h1, a, cap, rfl, h2, h3⟩ := h
 exact ⟨h1 0 _ rfl, h1 3 _ rfl, h1 4 _ rfl, a, cap, h1 5 _ rfl, h2, h3⟩
theorem DeAt.below {w w' : World} {b off : Nat} {d : De} (h : DeAt w b off d) (hb : Below w.heap.size w w') : DeAt w' b off d := by
 have hk : ∀ (b o : Nat) (v : Value), w.cell? ⟨b, o, none⟩ = some v → w'.cell? ⟨b, o, none⟩ = some v := fun b o v hv => by rw [← hv]; simp [World.cell?, hb.block b (World.block_lt_of_cell? w _ hv)]
 obtain ⟨cs, h1, a, cap, h2, h3, h4⟩ := h
 exact ⟨cs, fun j v hv => hk _ _ _ (h1 j v hv), a, cap, h2, h3, StsL.keep (fun b o v _ hv => by rw [← hv]; simp [World.cellU, World.cell?, World.frozen?, hb.block b (World.block_lt_of_cellU w hv)]) h4⟩
def DmOk (d : De) : Prop := ∀ (b off : Nat) (w : World), Shs w → DeAt w b off d → d.nb → Calls Tryz.prog 48 #[.pointer (some ⟨b, off, none⟩)] w fun e w' => e = .returned (.bool (deR isName d)) ∧ Below w.heap.size w w'
set_option maxHeartbeats 8000000 in
theorem dm_1 {l c : Int} {s : ByteArray} {n : Int} {body : List St} : DmOk ⟨1, l, c, s, n, body⟩ := by
 intro b off w hSh h hnb
 obtain ⟨R, hR⟩ : ∃ R, deR isName ⟨1, l, c, s, n, body⟩ = R := ⟨_, rfl⟩
 rw [hR]
 unfold deR at hR
 dsimp only at hR
 obtain ⟨p0, p3, -⟩ := h.parts
 obtain ⟨m, hm⟩ : ∃ m, isName s = m := ⟨_, rfl⟩
 have hcl := name_any s w hnb.1
 rw [hm] at hR hcl
 have HH := Lib.hid (And.intro h (And.intro hSh hnb.2))
 obtain ⟨nB, hnB⟩ : ∃ n, body.length = n := ⟨_, rfl⟩
 rw [hnB] at hR
 have HN := Lib.hid hnB
 have HR := Lib.hid hR
 clear hR hm h hSh hnb hnB
 go_enter Tryz.func48, Tryz.ntmps48
 go_wp2_with fail
 refine hcl.mono ?_
 rintro e w1 ⟨rfl, hb⟩
 obtain ⟨h, hSh, hnbb⟩ := HH.out
 have h1w := h.below hb
 have hSh1 := hSh.below hb
 clear hcl p0 p3 h hSh HH
 obtain ⟨p0, p3, p4, a, cap, p5, hbody⟩ := h1w.parts
 rw [HN.out] at p5
 cases m
 ·have hRf : R = false := by
   rw [← HR.out]
   simp
  subst hRf
  clear h1w hSh1 hbody
  go_wp2_with fail
  go_ret
  exact ⟨rfl, hb⟩
 rcases neOr nB 0 with hN0 | hN0
 ·have hi0 : ¬ nB = 0 := hN0
  have hi3 : 0 < nB := by omega
  have hi4 : (0 : Int) < (nB : Int) := by omega
  have hRf : R = false := by
   rw [← HR.out]
   simp [hi0]
  subst hRf
  clear h1w hSh1 hbody
  go_wp2_with fail
  go_ret
  exact ⟨rfl, hb⟩
 subst hN0
 by_cases hr0 : -2147483647 ≤ n
 ·by_cases hr1 : n ≤ 2147483647
  ·skip
   have hRf : R = true := by
    rw [← HR.out]
    simp [hr0, hr1]
   subst hRf
   clear h1w hSh1 hbody
   go_wp2_with fail
   go_ret
   exact ⟨rfl, hb⟩
  ·have hr2 : decide (n ≤ 2147483647) = false := decide_eq_false hr1
   have hRf : R = false := by
    rw [← HR.out]
    simp [hr1]
   subst hRf
   clear h1w hSh1 hbody
   go_wp2_with fail
   go_ret
   exact ⟨rfl, hb⟩
 ·skip
  have hRf : R = false := by
   rw [← HR.out]
   simp [hr0]
  subst hRf
  clear h1w hSh1 hbody
  go_wp2_with fail
  go_ret
  exact ⟨rfl, hb⟩
set_option maxHeartbeats 8000000 in
theorem dm_2 {l c : Int} {s : ByteArray} {n : Int} {body : List St} : DmOk ⟨2, l, c, s, n, body⟩ := by
 intro b off w hSh h hnb
 obtain ⟨R, hR⟩ : ∃ R, deR isName ⟨2, l, c, s, n, body⟩ = R := ⟨_, rfl⟩
 rw [hR]
 unfold deR at hR
 dsimp only at hR
 obtain ⟨p0, p3, -⟩ := h.parts
 obtain ⟨m, hm⟩ : ∃ m, isName s = m := ⟨_, rfl⟩
 have hcl := name_any s w hnb.1
 rw [hm] at hR hcl
 have HH := Lib.hid (And.intro h (And.intro hSh hnb.2))
 obtain ⟨nB, hnB⟩ : ∃ n, body.length = n := ⟨_, rfl⟩
 rw [hnB] at hR
 have HN := Lib.hid hnB
 have HR := Lib.hid hR
 clear hR hm h hSh hnb hnB
 go_enter Tryz.func48, Tryz.ntmps48
 go_wp2_with fail
 refine hcl.mono ?_
 rintro e w1 ⟨rfl, hb⟩
 obtain ⟨h, hSh, hnbb⟩ := HH.out
 have h1w := h.below hb
 have hSh1 := hSh.below hb
 clear hcl p0 p3 h hSh HH
 obtain ⟨p0, p3, p4, a, cap, p5, hbody⟩ := h1w.parts
 rw [HN.out] at p5
 cases m
 ·have hRf : R = false := by
   rw [← HR.out]
   simp
  subst hRf
  clear h1w hSh1 hbody
  go_wp2_with fail
  go_ret
  exact ⟨rfl, hb⟩
 rcases neOr nB 0 with hN0 | hN0
 ·have hi0 : ¬ nB = 0 := hN0
  have hi3 : 0 < nB := by omega
  have hi4 : (0 : Int) < (nB : Int) := by omega
  have hRf : R = false := by
   rw [← HR.out]
   simp [hi0]
  subst hRf
  clear h1w hSh1 hbody
  go_wp2_with fail
  go_ret
  exact ⟨rfl, hb⟩
 subst hN0
 by_cases hr0 : 0 ≤ n
 ·by_cases hr1 : n ≤ 2147483647
  ·skip
   have hRf : R = true := by
    rw [← HR.out]
    simp [hr0, hr1]
   subst hRf
   clear h1w hSh1 hbody
   go_wp2_with fail
   go_ret
   exact ⟨rfl, hb⟩
  ·have hr2 : decide (n ≤ 2147483647) = false := decide_eq_false hr1
   have hRf : R = false := by
    rw [← HR.out]
    simp [hr1]
   subst hRf
   clear h1w hSh1 hbody
   go_wp2_with fail
   go_ret
   exact ⟨rfl, hb⟩
 ·skip
  have hRf : R = false := by
   rw [← HR.out]
   simp [hr0]
  subst hRf
  clear h1w hSh1 hbody
  go_wp2_with fail
  go_ret
  exact ⟨rfl, hb⟩
set_option maxHeartbeats 8000000 in
theorem dm_3 {l c : Int} {s : ByteArray} {n : Int} {body : List St} : DmOk ⟨3, l, c, s, n, body⟩ := by
 intro b off w hSh h hnb
 obtain ⟨R, hR⟩ : ∃ R, deR isName ⟨3, l, c, s, n, body⟩ = R := ⟨_, rfl⟩
 rw [hR]
 unfold deR at hR
 dsimp only at hR
 obtain ⟨p0, p3, -⟩ := h.parts
 obtain ⟨m, hm⟩ : ∃ m, isName s = m := ⟨_, rfl⟩
 have hcl := name_any s w hnb.1
 rw [hm] at hR hcl
 have HH := Lib.hid (And.intro h (And.intro hSh hnb.2))
 obtain ⟨nB, hnB⟩ : ∃ n, body.length = n := ⟨_, rfl⟩
 rw [hnB] at hR
 have HN := Lib.hid hnB
 have HR := Lib.hid hR
 clear hR hm h hSh hnb hnB
 go_enter Tryz.func48, Tryz.ntmps48
 go_wp2_with fail
 refine hcl.mono ?_
 rintro e w1 ⟨rfl, hb⟩
 obtain ⟨h, hSh, hnbb⟩ := HH.out
 have h1w := h.below hb
 have hSh1 := hSh.below hb
 clear hcl p0 p3 h hSh HH
 obtain ⟨p0, p3, p4, a, cap, p5, hbody⟩ := h1w.parts
 rw [HN.out] at p5
 cases m
 ·have hRf : R = false := by
   rw [← HR.out]
   simp
  subst hRf
  clear h1w hSh1 hbody
  go_wp2_with fail
  go_ret
  exact ⟨rfl, hb⟩
 rcases neOr nB 0 with hN0 | hN0
 ·have hi0 : ¬ nB = 0 := hN0
  have hi3 : 0 < nB := by omega
  have hi4 : (0 : Int) < (nB : Int) := by omega
  have hRf : R = false := by
   rw [← HR.out]
   simp [hi0]
  subst hRf
  clear h1w hSh1 hbody
  go_wp2_with fail
  go_ret
  exact ⟨rfl, hb⟩
 subst hN0
 rcases neOr n 0 with hn | hn
 ·have hn2 : (n == 0) = false := by simpa using hn
  have hRf : R = false := by
   rw [← HR.out]
   simp [hn]
  subst hRf
  clear h1w hSh1 hbody
  go_wp2_with fail
  go_ret
  exact ⟨rfl, hb⟩
 subst hn
 have hRf : R = true := by
  rw [← HR.out]
  simp
 subst hRf
 clear h1w hSh1 hbody
 go_wp2_with fail
 go_ret
 exact ⟨rfl, hb⟩
set_option maxHeartbeats 8000000 in
theorem dm_4 {l c : Int} {s : ByteArray} {n : Int} {body : List St} : DmOk ⟨4, l, c, s, n, body⟩ := by
 intro b off w hSh h hnb
 obtain ⟨R, hR⟩ : ∃ R, deR isName ⟨4, l, c, s, n, body⟩ = R := ⟨_, rfl⟩
 rw [hR]
 unfold deR at hR
 dsimp only at hR
 obtain ⟨p0, p3, -⟩ := h.parts
 obtain ⟨m, hm⟩ : ∃ m, isName s = m := ⟨_, rfl⟩
 have hcl := name_any s w hnb.1
 rw [hm] at hR hcl
 have HH := Lib.hid (And.intro h (And.intro hSh hnb.2))
 obtain ⟨nB, hnB⟩ : ∃ n, body.length = n := ⟨_, rfl⟩
 rw [hnB] at hR
 have HN := Lib.hid hnB
 have HR := Lib.hid hR
 clear hR hm h hSh hnb hnB
 go_enter Tryz.func48, Tryz.ntmps48
 go_wp2_with fail
 refine hcl.mono ?_
 rintro e w1 ⟨rfl, hb⟩
 obtain ⟨h, hSh, hnbb⟩ := HH.out
 have h1w := h.below hb
 have hSh1 := hSh.below hb
 clear hcl p0 p3 h hSh HH
 obtain ⟨p0, p3, p4, a, cap, p5, hbody⟩ := h1w.parts
 rw [HN.out] at p5
 cases m
 ·have hRf : R = false := by
   rw [← HR.out]
   simp
  subst hRf
  clear h1w hSh1 hbody
  go_wp2_with fail
  go_ret
  exact ⟨rfl, hb⟩
 rcases neOr nB 0 with hN0 | hN0
 ·have hi0 : ¬ nB = 0 := hN0
  have hi3 : 0 < nB := by omega
  have hi4 : (0 : Int) < (nB : Int) := by omega
  have hRf : R = false := by
   rw [← HR.out]
   simp [hi0]
  subst hRf
  clear h1w hSh1 hbody
  go_wp2_with fail
  go_ret
  exact ⟨rfl, hb⟩
 subst hN0
 rcases neOr n 0 with hn | hn
 ·have hn2 : (n == 0) = false := by simpa using hn
  have hRf : R = false := by
   rw [← HR.out]
   simp [hn]
  subst hRf
  clear h1w hSh1 hbody
  go_wp2_with fail
  go_ret
  exact ⟨rfl, hb⟩
 subst hn
 have hRf : R = true := by
  rw [← HR.out]
  simp
 subst hRf
 clear h1w hSh1 hbody
 go_wp2_with fail
 go_ret
 exact ⟨rfl, hb⟩
set_option maxHeartbeats 8000000 in
theorem dm_5 {l c : Int} {s : ByteArray} {n : Int} {body : List St} : DmOk ⟨5, l, c, s, n, body⟩ := by
 intro b off w hSh h hnb
 obtain ⟨R, hR⟩ : ∃ R, deR isName ⟨5, l, c, s, n, body⟩ = R := ⟨_, rfl⟩
 rw [hR]
 unfold deR at hR
 dsimp only at hR
 obtain ⟨p0, p3, -⟩ := h.parts
 obtain ⟨m, hm⟩ : ∃ m, isName s = m := ⟨_, rfl⟩
 have hcl := name_any s w hnb.1
 rw [hm] at hR hcl
 have HH := Lib.hid (And.intro h (And.intro hSh hnb.2))
 obtain ⟨nB, hnB⟩ : ∃ n, body.length = n := ⟨_, rfl⟩
 rw [hnB] at hR
 have HN := Lib.hid hnB
 have HR := Lib.hid hR
 clear hR hm h hSh hnb hnB
 go_enter Tryz.func48, Tryz.ntmps48
 go_wp2_with fail
 refine hcl.mono ?_
 rintro e w1 ⟨rfl, hb⟩
 obtain ⟨h, hSh, hnbb⟩ := HH.out
 have h1w := h.below hb
 have hSh1 := hSh.below hb
 clear hcl p0 p3 h hSh HH
 obtain ⟨p0, p3, p4, a, cap, p5, hbody⟩ := h1w.parts
 rw [HN.out] at p5
 cases m
 ·have hRf : R = false := by
   rw [← HR.out]
   simp
  subst hRf
  clear h1w hSh1 hbody
  go_wp2_with fail
  go_ret
  exact ⟨rfl, hb⟩
 rcases neOr nB 0 with hN0 | hN0
 ·have hi0 : ¬ nB = 0 := hN0
  have hi3 : 0 < nB := by omega
  have hi4 : (0 : Int) < (nB : Int) := by omega
  have hRf : R = false := by
   rw [← HR.out]
   simp [hi0]
  subst hRf
  clear h1w hSh1 hbody
  go_wp2_with fail
  go_ret
  exact ⟨rfl, hb⟩
 subst hN0
 by_cases hr0 : 0 ≤ n
 ·by_cases hr1 : n ≤ 2147483647
  ·skip
   have hRf : R = true := by
    rw [← HR.out]
    simp [hr0, hr1]
   subst hRf
   clear h1w hSh1 hbody
   go_wp2_with fail
   go_ret
   exact ⟨rfl, hb⟩
  ·have hr2 : decide (n ≤ 2147483647) = false := decide_eq_false hr1
   have hRf : R = false := by
    rw [← HR.out]
    simp [hr1]
   subst hRf
   clear h1w hSh1 hbody
   go_wp2_with fail
   go_ret
   exact ⟨rfl, hb⟩
 ·skip
  have hRf : R = false := by
   rw [← HR.out]
   simp [hr0]
  subst hRf
  clear h1w hSh1 hbody
  go_wp2_with fail
  go_ret
  exact ⟨rfl, hb⟩
set_option maxHeartbeats 8000000 in
theorem dm_6 {l c : Int} {s : ByteArray} {n : Int} {body : List St} : DmOk ⟨6, l, c, s, n, body⟩ := by
 intro b off w hSh h hnb
 obtain ⟨R, hR⟩ : ∃ R, deR isName ⟨6, l, c, s, n, body⟩ = R := ⟨_, rfl⟩
 rw [hR]
 unfold deR at hR
 dsimp only at hR
 obtain ⟨p0, p3, -⟩ := h.parts
 obtain ⟨m, hm⟩ : ∃ m, isName s = m := ⟨_, rfl⟩
 have hcl := name_any s w hnb.1
 rw [hm] at hR hcl
 have HH := Lib.hid (And.intro h (And.intro hSh hnb.2))
 obtain ⟨nB, hnB⟩ : ∃ n, body.length = n := ⟨_, rfl⟩
 rw [hnB] at hR
 have HN := Lib.hid hnB
 have HR := Lib.hid hR
 clear hR hm h hSh hnb hnB
 go_enter Tryz.func48, Tryz.ntmps48
 go_wp2_with fail
 refine hcl.mono ?_
 rintro e w1 ⟨rfl, hb⟩
 obtain ⟨h, hSh, hnbb⟩ := HH.out
 have h1w := h.below hb
 have hSh1 := hSh.below hb
 clear hcl p0 p3 h hSh HH
 obtain ⟨p0, p3, p4, a, cap, p5, hbody⟩ := h1w.parts
 rw [HN.out] at p5
 cases m
 ·have hRf : R = false := by
   rw [← HR.out]
   simp
  subst hRf
  clear h1w hSh1 hbody
  go_wp2_with fail
  go_ret
  exact ⟨rfl, hb⟩
 rcases neOr n 0 with hn | hn
 ·have hn2 : (n == 0) = false := by simpa using hn
  have hRf : R = false := by
   rw [← HR.out]
   simp [hn]
  subst hRf
  clear h1w hSh1 hbody
  go_wp2_with fail
  go_ret
  exact ⟨rfl, hb⟩
 subst hn
 obtain ⟨mb, hmb⟩ : ∃ m, stsR isName body 1 = m := ⟨_, rfl⟩
 have hc2 := sm_all 24 1 (by decide) body a cap w1 hSh1 hbody hnbb
 rw [hmb, HN.out] at hc2
 have e1 : ((1 : Nat) : Int) = 1 := rfl
 rw [e1] at hc2
 have hRt : R = mb := by
  rw [← HR.out, hmb]
  simp
 subst hRt
 clear h1w hSh1 hbody hmb HR e1 hnbb
 go_wp2_with fail
 refine hc2.mono ?_
 rintro e w2 ⟨rfl, hb2⟩
 have hb3 := hb.trans (hb2.mono hb.size)
 clear hc2 hb2 hb
 go_wp2_with fail
 go_ret
 exact ⟨rfl, hb3⟩
set_option maxHeartbeats 8000000 in
theorem dm_other {k l c : Int} {s : ByteArray} {n : Int} {body : List St} (h1 : k ≠ 1) (h2 : k ≠ 2) (h3 : k ≠ 3) (h4 : k ≠ 4) (h5 : k ≠ 5) (h6 : k ≠ 6) : DmOk ⟨k, l, c, s, n, body⟩ := by
 intro b off w hSh h hnb
 obtain ⟨R, hR⟩ : ∃ R, deR isName ⟨k, l, c, s, n, body⟩ = R := ⟨_, rfl⟩
 rw [hR]
 unfold deR at hR
 dsimp only at hR
 obtain ⟨p0, p3, -⟩ := h.parts
 obtain ⟨m, hm⟩ : ∃ m, isName s = m := ⟨_, rfl⟩
 have hcl := name_any s w hnb.1
 rw [hm] at hR hcl
 have HH := Lib.hid (And.intro h (And.intro hSh hnb.2))
 obtain ⟨nB, hnB⟩ : ∃ n, body.length = n := ⟨_, rfl⟩
 rw [hnB] at hR
 have HN := Lib.hid hnB
 have HR := Lib.hid hR
 clear hR hm h hSh hnb hnB
 have k6 : (k != 6) = true := by simpa using h6
 have e1 : (k == 1) = false := by simpa using h1
 have e2 : (k == 2) = false := by simpa using h2
 have e3 : (k == 3) = false := by simpa using h3
 have e4 : (k == 4) = false := by simpa using h4
 have e5 : (k == 5) = false := by simpa using h5
 have e6 : (k == 6) = false := by simpa using h6
 go_enter Tryz.func48, Tryz.ntmps48
 go_wp2_with fail
 refine hcl.mono ?_
 rintro e w1 ⟨rfl, hb⟩
 obtain ⟨h, hSh, hnbb⟩ := HH.out
 have h1w := h.below hb
 have hSh1 := hSh.below hb
 clear hcl p0 p3 h hSh HH
 obtain ⟨p0, p3, p4, a, cap, p5, hbody⟩ := h1w.parts
 rw [HN.out] at p5
 cases m
 ·have hRf : R = false := by
   rw [← HR.out]
   simp
  subst hRf
  clear h1w hSh1 hbody
  go_wp2_with fail
  go_ret
  exact ⟨rfl, hb⟩
 rcases neOr nB 0 with hN0 | hN0
 ·have hi0 : ¬ nB = 0 := hN0
  have hi3 : 0 < nB := by omega
  have hi4 : (0 : Int) < (nB : Int) := by omega
  have hRf : R = false := by
   rw [← HR.out]
   simp [h6, hi0]
  subst hRf
  clear h1w hSh1 hbody
  go_wp2_with fail
  go_ret
  exact ⟨rfl, hb⟩
 subst hN0
 have hRf : R = false := by
  rw [← HR.out]
  simp [h1, h2, h3, h4, h5, h6]
 subst hRf
 clear h1w hSh1 hbody
 go_wp2_with fail
 go_ret
 exact ⟨rfl, hb⟩
theorem declMay_any (d : De) : DmOk d := by
 obtain ⟨k, l, c, s, n, body⟩ := d
 by_cases h1 : k = 1
 ·subst h1
  exact dm_1
 by_cases h2 : k = 2
 ·subst h2
  exact dm_2
 by_cases h3 : k = 3
 ·subst h3
  exact dm_3
 by_cases h4 : k = 4
 ·subst h4
  exact dm_4
 by_cases h5 : k = 5
 ·subst h5
  exact dm_5
 by_cases h6 : k = 6
 ·subst h6
  exact dm_6
 exact dm_other h1 h2 h3 h4 h5 h6
theorem desR_drop {nm : ByteArray → Bool} {l : List De} {i : Nat} (h : i < l.length) : desR nm (l.drop i) = (deR nm (l.getD i default) && desR nm (l.drop (i + 1))) := by
 unfold desR
 rw [List.drop_eq_getElem_cons h, List.all_cons]
 simp [List.getD_eq_getElem?_getD, h]
set_option maxHeartbeats 8000000 in
theorem check_any (l : List De) (a : Option Addr) (cap : Nat) (w : World) (hroom : Roomy l.length cap) (hSh : Shs w) (h : DesL (fun _ => True) w a l) (hnb : ∀ d ∈ l, d.nb) :
  Calls Tryz.prog 23 #[.slice a l.length cap] w fun e w' => e = .returned (.int .i64 (if desR isName l = true then 0 else 2)) ∧ Below w.heap.size w w' := by
 obtain ⟨R, hR⟩ : ∃ R, desR isName (l.drop 0) = R := ⟨_, rfl⟩
 rw [show desR isName l = R from hR]
 obtain ⟨N, hN⟩ : ∃ N, l.length = N := ⟨_, rfl⟩
 rw [hN] at hroom ⊢
 have HN := Lib.hid hN
 have HR := Lib.hid hR
 have HB := Lib.hid hnb
 have HE := Lib.hid (And.intro (Below.refl w.heap.size w) (And.intro h hSh))
 obtain ⟨v, hv⟩ : ∃ v : Int, (if R = true then 0 else 2) = v := ⟨_, rfl⟩
 rw [hv]
 have HV := Lib.hid hv
 clear hN hR hnb h hSh hv
 go_enter Tryz.func23, Tryz.ntmps23
 go_wp2_with fail
 go_loopg [6] N (fun x iv wr => ∃ i : Nat, i ≤ N ∧ x = N - i ∧ iv = .int .i64 (i : Int) ∧ Hid (Below w.heap.size w wr ∧ DesL (fun _ => True) wr a l ∧ Shs wr) ∧ Hid (desR isName (l.drop i) = R))
 case atStart => exact ⟨0, Nat.zero_le _, rfl, rfl, HE, HR⟩
 case round =>
  clear HE HR
  obtain ⟨i, hi, rfl, rfl, HE, HR⟩ := hrel
  obtain ⟨hb1, h1, hSh1⟩ := HE.out
  by_cases hiN : i < N
  ·have hlt : (i : Int) < (N : Int) := by omega
   have hp0 : (0 : Int) ≤ (i : Int) := by omega
   have hroom2 : (i : Int) + 1 ≤ 9223372036854775807 := by
    have h1 := hroom.1
    have h2 := hroom.2
    omega
   have hR := HR.out
   rw [desR_drop (by rw [HN.out]; exact hiN)] at hR
   obtain ⟨b2, off2, cs, rfl, -, hcs, hdl⟩ := h1 i (by rw [HN.out]; exact hiN)
   have hmem : l.getD i default ∈ l := by
    rw [List.getD_eq_getElem?_getD, List.getElem?_eq_getElem (by rw [HN.out]; exact hiN)]
    exact List.getElem_mem _
   have hcl := declMay_any (l.getD i default) b2 (off2 + i * 6) wr hSh1 ⟨cs, fun j v hv => World.cellU_cell (hcs j v hv), hdl⟩ (HB.out _ hmem)
   obtain ⟨m, hm⟩ : ∃ m, deR isName (l.getD i default) = m := ⟨_, rfl⟩
   rw [hm] at hcl hR
   have HR2 := Lib.hid hR
   clear hcs hdl hm hR HR hmem
   go_wp2_with fail
   refine hcl.mono ?_
   rintro e w2 ⟨rfl, hb2⟩
   have hb3 := hb1.trans (hb2.mono hb1.size)
   cases m
   ·have hRf : R = false := HR2.out.symm
    have hv2 : v = 2 := by rw [← HV.out, hRf]; rfl
    subst hv2
    clear HE hcl h1 hb1 hb2 hSh1 hRf HR2
    go_wp2_with fail
    go_ret
    exact ⟨rfl, hb3⟩
   ·have HR3 : Hid (desR isName (l.drop (i + 1)) = R) := Lib.hid HR2.out
    have HE3 := Lib.hid (And.intro hb3 (And.intro (DesL.below h1 hb2) (hSh1.below hb2)))
    clear HE hcl h1 hb1 hb2 hb3 HR2 hSh1
    go_wp2_with fail
    go_roundg (N - (i + 1))
    case measure => omega
    case rel => exact ⟨i + 1, by omega, rfl, rfl, HE3, HR3⟩
  ·obtain rfl : i = N := by omega
   have hlt : ¬ (i : Int) < (i : Int) := by omega
   have hRt : R = true := by
    rw [← HR.out, List.drop_eq_nil_of_le (by rw [HN.out]; exact Nat.le_refl _)]
    rfl
   have hv2 : v = 0 := by rw [← HV.out, hRt]; rfl
   subst hv2
   clear h1 HE hSh1 hRt
   go_wp2_with fail
   go_ret
   exact ⟨rfl, hb1⟩
end Go.Proofs.YtjmlmelcppbefaaGreatDoor
