/- Texts laid together. No condition but what each law says. -/
import Derived.Test.YtgppcdfgdaggjaaGreatDoorQ39
import Derived.Test.YtgppcdfgdaggjaaGreatDoorQ38
import Derived.Test.YtgppcdfgdaggjaaGreatDoorQ33
import Derived.Test.YtgppcdfgdaggjaaGreatDoorQ26
import Derived.Test.YtgppcdfgdaggjaaGreatDoorQ32
set_option maxRecDepth 100000
set_option maxHeartbeats 8000000
namespace Go.Proofs.YtgppcdfgdaggjaaGreatDoor
open Go.RowKit Go.Maps
def alT : List Th → List St
 | [] => []
 | x :: r => alL x.body ++ alT r
theorem alT_app : ∀ (l m : List Th), alT (l ++ m) = alT l ++ alT m
 | [], m => by simp [alT]
 | s :: l, m => by
  rw [List.cons_append, alT, alT, alT_app l m, List.append_assoc]
theorem ovL_snd : ∀ (i : Nat) (l : List Th), (ovL i l).map Prod.snd = alT l
 | _, [] => rfl
 | i, x :: r => by
  rw [ovL, alT, List.map_append, List.map_map, ovL_snd (i + 1) r, ← wkL_snd 1 x.body]
  rfl
theorem allS_eq (P : Pg) : allS P = alT P.threads := ovL_snd 0 _
theorem rstmts_any {w : World} {P : Pg} {ps : List Value} (hP : PgRL (fun _ => True) w P ps) (hL : (allS P).length ≤ 10000000) :
  Calls Tryz.prog 19 #[.agg ps.toArray] w fun e w' => bL w w' ∧ ∃ v, e = .returned v ∧ Ro elSt (fun _ => True) w' v (allS P) := by
 have c9 : Hid (Tryz.prog.underlying 44 = some (.slice 60)) := O (by kernel_rfl)
 obtain ⟨d3, e3, r3⟩ := under30
 obtain ⟨i0, z0, M, a0, V7, Z, a4⟩ := info_el infoSt
 obtain ⟨y0, y1, y4, y5, n0, n1, n2, n3, n4, he, hpl⟩ := id hP
 obtain ⟨a5, c5, rfl, hr5, hl5⟩ := id hpl.threads
 have hpc := hP.cells
 have HL5 := O hl5
 have HR5 := O hr5
 have hps : ps[5]? = some (.slice a5 P.threads.length c5) := by rw [he]; rfl
 obtain ⟨C, hN⟩ := eX P.threads.length
 have Q := O hN
 rw [hN] at hps
 have HLN := O fun _ : True => hL
 have i5 : Hid (C ≤ 9223372036854775807) := O (by rw [← hN]; exact Nat.le_trans hr5.1 hr5.2)
 clear hP hpl hl5 hr5 hL he hN
 rw [allS_eq]
 go_enter Tryz.func19, Tryz.ntmps19
 obtain ⟨b, hb⟩ := eX w.heap.size
 refine wk fun KK U => ?_
 go_wp2_with (first
  | ((with_reducible refine at1 1 (.box 30 _) ?_); refine wpList_box_blk rfl (.tmp 0) rfl ps rfl b hb ?_; intro W1 k1 b1 s1; have K1 := O k1; have B1 := O b1; clear k1 b1 s1)
 )
 refine U.out _ _ ?_
 clear U KK
 have HB := O hb
 clear hb
 refine wk fun KK U => ?_
 go_wp2_with fail
 refine U.out _ _ ?_
 clear U KK
 refine wk fun KK a2 => ?_
 have c6 : Hid (∀ W', bL W1 W' → W'.cell? ⟨b, 5, none⟩ = some (.slice a5 C c5)) := O fun W' h => ((K1.out.below h).cell 5).trans hps
 go_wp2_with fail
 go_loopg [3, 4] C (fun x sv iv wr => ∃ (i : Nat) (acc : List St), i ≤ C ∧ x = C - i ∧ iv = I i ∧ Hid (acc = alT (P.threads.take i)) ∧ Hid (Grow (elAt w) W1.heap.size wr sv acc) ∧ Hid (bL W1 wr))
 case atStart => exact ⟨0, [], Nat.zero_le _, rfl, rfl, O rfl, O (Grow.nil _ _ _), O (Below.refl _ _)⟩
 case round =>
  obtain ⟨i, acc, hi, rfl, rfl, X, S, E⟩ := hrel
  obtain ⟨ga, a8, rfl, b6⟩ := S.out.form
  have i4 := O b6
  clear b6
  have cr := c6.out wr E.out
  by_cases a6 : i < C
  ·have h9' : (i : Int) < (C : Int) := by omega
   have h8 : (0 : Int) ≤ (i : Int) := by omega
   have f4 : Hid (wrap64 ((i : Int) + 1) = ((i + 1 : Nat) : Int)) := O (by
    have h1 := i5.out
    have := IntWalk.wrap64_in ((i : Int) + 1) (by omega)
    rw [this]
    omega)
   obtain ⟨x, hx⟩ : ∃ x, P.threads[i]? = some x := ⟨_, List.getElem?_eq_getElem (by rw [Q.out]; exact a6)⟩
   obtain ⟨b2, of, cs, rfl, -, hr, hL⟩ := HL5.out i x hx
   obtain ⟨ba, bc, rfl, hrb, hsb⟩ := hL
   have hp2 : [Value.string x.name, .int .i64 (x.locals : Int), .slice ba x.body.length bc][2]? = some (.slice ba x.body.length bc) := rfl
   have c2 : wr.cell? ⟨b2, of + i * 3 + 2, none⟩ = some (.slice ba x.body.length bc) := below_cl (B1.out.trans (E.out.mono B1.out.size)) _ _ _ (World.cellF_cell (hr 2 _ hp2))
   have htk : alT (P.threads.take (i + 1)) = acc ++ alL x.body := by
    rw [List.take_add_one, hx, alT_app, ← X.out]
    simp [alT]
   have hdrop : alT P.threads = alT (P.threads.take (i + 1)) ++ alT (P.threads.drop (i + 1)) := by rw [← alT_app, List.take_append_drop]
   have HLs : Hid (acc.length + (alL x.body).length ≤ 10000000) := O (by
    have h1 := HLN.out trivial
    rw [allS_eq, hdrop, htk, List.length_append, List.length_append] at h1
    omega)
   have HX := O (And.intro hrb hsb)
   have g6 := O htk
   clear hx hr hrb hsb hp2 htk hdrop
   go_wp2_with fail
   refine (rall_any w _ x.body (Nat.lt_succ_self _) (by have := HLs.out; omega) HX.out.1 (B1.out.trans (E.out.mono B1.out.size)) HX.out.2).mono ?_
   rintro e V1 ⟨hb1, v1, rfl, hg1⟩
   have S8 := O (S.out.below hb1)
   have E8 := O (E.out.trans (hb1.mono E.out.size))
   have B8 : Hid (W1.heap.size ≤ V1.heap.size) := O E8.out.size
   have R8 : Hid (Ro (elAt w) (fun c => W1.heap.size ≤ c ∧ (Value.slice ga acc.length a8).ownBlock ≠ some c) V1 v1 (alL x.body)) := O ((hg1.ro (Nat.succ_pos 24)).weak fun c hc => by
    have h1 := E.out.size
    have h2 := B1.out.size
    exact ⟨by omega, fun e => by have h3 := (S.out.olt e).2; omega⟩)
   clear hb1 hg1 S E c2 cr
   go_wp2_with (first
    | ((with_reducible show wpList _ _ _ (Oper.mk (some 20) _ _ _ _ _ :: _) _ _); refine wpList_append_ro (elAt w) rfl (.tmp 12) (.tmp 19) 44 rfl i0 z0 c9.out M a0 V7 Z (Nat.succ_pos 24) a4 W1.heap.size V1 _ v1 acc (alL x.body) rfl S8.out rfl R8.out (by have := HLs.out; omega) B8.out ?_; intro v2 W10 e2 d7; have S9 := O e2; have E9 : Hid (bL W1 W10) := O (E8.out.trans d7); clear e2 d7 S8 E8 R8)
   )
   go_roundg (C - (i + 1))
   case measure => omega
   case rel => exact ⟨i + 1, _, by omega, rfl, congrArg (Value.int .i64) f4.out, O g6.out.symm, S9, E9⟩
  ·obtain rfl : i = C := by omega
   have i2 : ¬ (i : Int) < (i : Int) := by omega
   have hacc : acc = alT P.threads := by rw [X.out, List.take_of_length_le (by rw [Q.out]; exact Nat.le_refl _)]
   subst hacc
   go_wp2_with fail
   refine a2.out _ _ ?_
   clear a2
   go_wp2_with fail
   go_ret
   have hb := B1.out.trans (E.out.mono B1.out.size)
   exact ⟨hb, _, rfl, S.out.atw hb⟩
end Go.Proofs.YtgppcdfgdaggjaaGreatDoor
set_option maxHeartbeats 4000000
namespace Go.Proofs.YtgppcdfgdaggjaaGreatDoor
open Go.RowKit
/-- Numbers n .. m - 1, one behind the other. -/
def Nums (n m : Nat) (l : List St) : Prop := n ≤ m ∧ l.map St.sid = (List.range' n (m - n)).map fun k : Nat => (k : Int)
theorem Nums.nil (n : Nat) : Nums n n [] := ⟨Nat.le_refl _, by simp⟩
theorem Nums.app {n m k : Nat} {l r : List St} (h : Nums n m l) (g : Nums m k r) : Nums n k (l ++ r) := by
 refine ⟨Nat.le_trans h.1 g.1, ?_⟩
 have e : List.range' n (k - n) = List.range' n (m - n) ++ List.range' m (k - m) := by
  have h1 := h.1
  have h2 := g.1
  have := List.range'_append_1 (s := n) (m := m - n) (n := k - m)
  rw [show n + (m - n) = m by omega, show m - n + (k - m) = k - n by omega] at this
  exact this.symm
 rw [List.map_append, h.2, g.2, e, List.map_append]
theorem Nums.cons {n m : Nat} {s : St} {l : List St} (h : s.sid = (n : Int)) (g : Nums (n + 1) m l) : Nums n m (s :: l) := by
 refine Nums.app (l := [s]) (m := n + 1) ⟨by omega, ?_⟩ g
 rw [show n + 1 - n = 1 by omega]
 simp [h]
theorem Nums.len {n m : Nat} {l : List St} (h : Nums n m l) : l.length = m - n := by
 have := congrArg List.length h.2
 simpa using this
theorem Nums.at {n m : Nat} {l : List St} (h : Nums n m l) {i : Nat} {s : St} (hi : l[i]? = some s) : s.sid = ((n + i : Nat) : Int) := by
 have h1 := congrArg (fun l => l[i]?) h.2
 have h2 := (List.getElem?_eq_some_iff.1 hi).1
 rw [h.len] at h2
 simp only [List.getElem?_map, hi, Option.map_some, List.getElem?_range' h2, Option.some.injEq, Nat.one_mul] at h1
 exact h1
theorem Nums.mem {n m : Nat} {l : List St} (h : Nums n m l) {s : St} (hs : s ∈ l) : (n : Int) ≤ s.sid ∧ s.sid < (m : Int) := by
 obtain ⟨i, hi, rfl⟩ := List.mem_iff_getElem.1 hs
 have h1 := h.at (List.getElem?_eq_getElem hi)
 have h2 := h.len
 have h3 := h.1
 rw [h1]
 omega
theorem ovL_mem : ∀ (l : List Th) (i : Nat) (y : Yv), y ∈ ovL i l → ∃ t x, l[t]? = some x ∧ y.1 = ((i + t : Nat) : Int) ∧ y.2 ∈ alL x.body
 | [], _, _, h => by simp [ovL] at h
 | x :: r, i, y, h => by
  rw [ovL] at h
  rcases List.mem_append.1 h with h | h
  ·obtain ⟨z, hz, rfl⟩ := List.mem_map.1 h
   refine ⟨0, x, rfl, rfl, ?_⟩
   rw [← wkL_snd 1 x.body]
   exact List.mem_map.2 ⟨z, hz, rfl⟩
  ·obtain ⟨t, x2, h1, h2, h3⟩ := ovL_mem r (i + 1) y h
   exact ⟨t + 1, x2, h1, by rw [h2]; congr 1; omega, h3⟩
/-- What the law asks of a program. -/
structure LawP (P : Pg) : Prop where
 b : PgB P
 n : Nums 0 P.stmts (allS P)
 s : P.stmts ≤ 512
 t : ∀ x ∈ P.threads, ∃ a m, Nums a m (alL x.body)
theorem LawP.th {P : Pg} (h : LawP P) (i : Nat) (hi : i < P.stmts) : ∃ (t : Nat) (x : Th) (s0 s1 : St), thr (ovL 0 P.threads) (i : Int) = ((t : Int), true) ∧ P.threads[t]? = some x ∧ 0 < (alL x.body).length ∧ (alL x.body)[0]? = some s0 ∧ (alL x.body)[(alL x.body).length - 1]? = some s1 ∧ s0.sid ≤ (i : Int) ∧ (i : Int) ≤ s1.sid := by
 have hl := h.n.len
 obtain ⟨s, hs⟩ : ∃ s, (allS P)[i]? = some s := ⟨_, List.getElem?_eq_getElem (by omega)⟩
 have hid := h.n.at hs
 have hmem : s ∈ (ovL 0 P.threads).map Prod.snd := List.mem_of_getElem? hs
 obtain ⟨y, hy, hys⟩ := List.mem_map.1 hmem
 obtain ⟨z, hz⟩ : ∃ z, (ovL 0 P.threads).find? (fun y => decide (y.2.sid = (i : Int))) = some z := by
  refine Option.isSome_iff_exists.1 (List.find?_isSome.2 ⟨y, hy, ?_⟩)
  rw [hys, hid]
  simp
 have hz1 := List.mem_of_find?_eq_some hz
 have hz2 : z.2.sid = (i : Int) := by simpa using List.find?_some hz
 obtain ⟨t, x, h1, h2, h3⟩ := ovL_mem _ _ _ hz1
 obtain ⟨a, m, hn⟩ := h.t x (List.mem_of_getElem? h1)
 have h4 := hn.len
 have h5 := hn.mem h3
 have h0 : 0 < (alL x.body).length := List.length_pos_of_mem h3
 have g0 := List.getElem?_eq_getElem h0
 have g1 := List.getElem?_eq_getElem (show (alL x.body).length - 1 < (alL x.body).length by omega)
 have h6 := hn.at g0
 have h7 := hn.at g1
 refine ⟨t, x, _, _, ?_, h1, h0, g0, g1, by omega, by omega⟩
 unfold thr
 rw [hz]
 show (z.1, true) = _
 rw [h2, Nat.zero_add]
theorem LawP.no {P : Pg} (h : LawP P) : thr (ovL 0 P.threads) (-1) = (0, false) ∧ thr (ovL 0 P.threads) (P.stmts : Int) = (0, false) := by
 have key : ∀ z : Int, (∀ y ∈ ovL 0 P.threads, y.2.sid ≠ z) → thr (ovL 0 P.threads) z = (0, false) := fun z hz => by
  unfold thr
  rw [List.find?_eq_none.2 fun y hy => by simpa using hz y hy]
 have hm : ∀ y ∈ ovL 0 P.threads, 0 ≤ y.2.sid ∧ y.2.sid < (P.stmts : Int) := fun y hy => h.n.mem (List.mem_map.2 ⟨y, hy, rfl⟩)
 exact ⟨key _ fun y hy => by have := hm y hy; omega, key _ fun y hy => by have := hm y hy; omega⟩
mutual
theorem cn_len : ∀ s : St, s.cn = (alS s).length
 | .mk k l c s t x y body els id sl ot lo => by
  unfold St.cn alS
  rw [List.length_cons, List.length_append, cns_len body, cns_len els]
theorem cns_len : ∀ l : List St, St.cns l = (alL l).length
 | [] => rfl
 | s :: r => by
  unfold St.cns alL
  rw [List.length_append, cn_len s, cns_len r]
end
theorem len_alL : ∀ l : List St, l.length ≤ (alL l).length
 | [] => Nat.le_refl _
 | s :: r => by
  have h := len_alL r
  rw [alL, alS_eq, List.length_append, List.length_cons, List.length_cons]
  omega
mutual
theorem szl_of : ∀ s : St, s.sm → (alS s).length ≤ 10000000 → s.szl
 | .mk k l c s t x y body els id sl ot lo, h, hn => by
  unfold St.sm at h
  unfold alS at hn
  rw [List.length_cons, List.length_append] at hn
  have h1 := len_alL body
  have h2 := len_alL els
  unfold St.szl
  exact ⟨⟨h.1, h.2.1⟩, ⟨by omega, by omega⟩, szs_of body h.2.2.1 (by omega), szs_of els h.2.2.2 (by omega)⟩
theorem szs_of : ∀ l : List St, St.sms l → (alL l).length ≤ 10000000 → St.szs l
 | [], _, _ => by unfold St.szs; trivial
 | s :: r, h, hn => by
  unfold St.sms at h
  unfold alL at hn
  rw [List.length_append] at hn
  unfold St.szs
  exact ⟨szl_of s h.1 (by omega), szs_of r h.2 (by omega)⟩
end
mutual
theorem fEx_sm {L : List Nm} {p : Int × Int} : ∀ (e : Ex) {e' : Ex}, fEx L p e = .ok e' → e.sm → e'.sm
 | .mk k n s sl lo o args, e', h, hs => by
  unfold fEx at h
  split at h
  ·cases h
  ·split at h
   ·cases h
   ·rename_i l hl
    cases h
    unfold Ex.sm at hs ⊢
    have := fExs_sm args hl hs.2
    exact ⟨by omega, this.1⟩
theorem fExs_sm {L : List Nm} {p : Int × Int} : ∀ (r : List Ex) {r' : List Ex}, fExs L p r = .ok r' → Ex.sms r → Ex.sms r' ∧ r'.length = r.length
 | [], r', h, hs => by
  unfold fExs at h
  cases h
  exact ⟨by unfold Ex.sms; trivial, rfl⟩
 | x :: r, r', h, hs => by
  unfold fExs at h
  unfold Ex.sms at hs
  split at h
  ·cases h
  ·rename_i y hy
   split at h
   ·cases h
   ·rename_i l hl
    cases h
    have h1 := fEx_sm x hy hs.1
    have h2 := fExs_sm r hl hs.2
    exact ⟨by unfold Ex.sms; exact ⟨h1, h2.1⟩, by simp [h2.2]⟩
end
mutual
theorem fSt_num {L : List Nm} {loc n mo : Nat} : ∀ (s : St) {s' : St} {n' mo' : Nat}, fSt L loc n mo s = .ok (s', n', mo') → n ≤ 512 → s.sm → Nums n n' (alS s') ∧ n' ≤ 512 ∧ s'.sm
 | .mk k l c s t x y body els id sl ot lo, s', n', mo', h, hn, hs => by
  unfold fSt at h
  unfold St.sm at hs
  split at h
  ·cases h
  rename_i hne
  split at h
  ·cases h
  rename_i y' hy
  split at h
  ·cases h
  rename_i x' hx
  split at h
  ·cases h
  split at h
  ·cases h
  rename_i b2 n2 mo2 hb
  split at h
  ·cases h
  rename_i e2 n3 mo3 he
  cases h
  have h1 := fSts_num body hb (by omega) hs.2.2.1
  have h2 := fSts_num els he h1.2.1 hs.2.2.2
  refine ⟨?_, h2.2.1, ?_⟩
  ·unfold alS
   exact Nums.cons rfl (h1.1.app h2.1)
  ·unfold St.sm
   exact ⟨fEx_sm x hx hs.1, fEx_sm y hy hs.2.1, h1.2.2, h2.2.2⟩
theorem fSts_num {L : List Nm} {loc n mo : Nat} : ∀ (r : List St) {r' : List St} {n' mo' : Nat}, fSts L loc n mo r = .ok (r', n', mo') → n ≤ 512 → St.sms r → Nums n n' (alL r') ∧ n' ≤ 512 ∧ St.sms r'
 | [], r', n', mo', h, hn, hs => by
  unfold fSts at h
  cases h
  exact ⟨by unfold alL; exact Nums.nil _, hn, by unfold St.sms; trivial⟩
 | .mk k l c s t x y body els id sl ot lo :: r, r', n', mo', h, hn, hs => by
  unfold fSts at h
  unfold St.sms at hs
  split at h
  ·cases h
  rename_i s2 n2 mo2 h1
  split at h
  ·cases h
  rename_i r2 n3 mo3 h2
  have g1 := fSt_num _ h1 hn hs.1
  have g2 : Nums n2 n3 (alL r2) ∧ n3 ≤ 512 ∧ St.sms r2 := by
   change (if k = 1 then fSts (L ++ [{ text := s, kind := 0, slot := loc }]) (loc + 1) n2 (max mo2 (loc + 1)) r else fSts L loc n2 mo2 r) = _ at h2
   split at h2
   ·exact fSts_num r h2 g1.2.1 hs.2
   ·exact fSts_num r h2 g1.2.1 hs.2
  cases h
  refine ⟨?_, g2.2.1, ?_⟩
  ·unfold alL
   exact g1.1.app g2.1
  ·unfold St.sms
   exact ⟨g1.2.2, g2.2.2⟩
end
def alB : List (List St × Nat) → List St
 | [] => []
 | x :: r => alL x.1 ++ alB r
theorem bods_num {L : List Nm} : ∀ (l : List De) {n : Nat} {bs : List (List St × Nat)} {n' : Nat}, bods L n l = .ok (bs, n') → n ≤ 512 → (∀ d ∈ l, St.sms d.body) → Nums n n' (alB bs) ∧ n' ≤ 512 ∧ (∀ b ∈ bs, St.sms b.1 ∧ (alL b.1).length ≤ 512 ∧ ∃ a m, Nums a m (alL b.1)) ∧ bs.length = (l.filter fun d => decide (d.kind = 6)).length
 | [], n, bs, n', h, hn, hs => by
  unfold bods at h
  cases h
  exact ⟨by unfold alB; exact Nums.nil _, hn, fun b hb => by simp at hb, rfl⟩
 | d :: r, n, bs, n', h, hn, hs => by
  unfold bods at h
  split at h
  ·rename_i h6
   split at h
   ·cases h
   rename_i b n2 mo hb
   split at h
   ·cases h
   rename_i l2 n3 hr
   cases h
   have g1 := fSts_num d.body hb hn (hs d (by simp))
   obtain ⟨g2, g3, g4, g5⟩ := bods_num r hr g1.2.1 fun d hd => hs d (by simp [hd])
   refine ⟨?_, g3, fun x hx => ?_, ?_⟩
   ·unfold alB
    exact g1.1.app g2
   ·rcases List.mem_cons.1 hx with rfl | hx
    ·exact ⟨g1.2.2, by have := g1.1.len; have := g1.2.1; show (alL b).length ≤ 512; omega, _, _, g1.1⟩
    ·exact g4 x hx
   ·rw [List.filter_cons_of_pos (by simpa using h6), List.length_cons, List.length_cons, g5]
  ·rename_i h6
   obtain ⟨g2, g3, g4, g5⟩ := bods_num r h hn fun d hd => hs d (by simp [hd])
   exact ⟨g2, g3, g4, by rw [List.filter_cons_of_neg (by simpa using h6), g5]⟩
/-- The lists while it is declared. -/
structure Lens (P : Pg) (k : Nat) : Prop where
 v : P.vars.length ≤ k ∧ P.arrays.length ≤ k ∧ P.chans.length ≤ k ∧ P.threads.length ≤ k
 n : P.nv.length ≤ k ∧ P.na.length ≤ k ∧ P.nm.length ≤ k ∧ P.nc.length ≤ k ∧ P.nh.length ≤ k
 b : ∀ t ∈ P.threads, t.body = []
def dclI (P : Pg) (cells : Int) (d : De) : Except Flw (Pg × Nat × Int) :=
 let p := (d.line, d.col)
 if d.kind = 1 then .ok ({ P with vars := P.vars ++ [d.num], nv := P.nv ++ [d.name] }, P.vars.length, cells)
  else if d.kind = 2 then (if d.num < 1 ∨ 256 < d.num ∨ 256 < cells + d.num then .error (p, 134) else .ok ({ P with arrays := P.arrays ++ [d.num], na := P.na ++ [d.name] }, P.arrays.length, cells + d.num))
  else if d.kind = 3 then .ok ({ P with mutexes := P.mutexes + 1, nm := P.nm ++ [d.name] }, P.mutexes, cells)
  else if d.kind = 4 then .ok ({ P with conds := P.conds + 1, nc := P.nc ++ [d.name] }, P.conds, cells)
  else if d.kind = 5 then (if d.num < 1 ∨ 16 < d.num then .error (p, 134) else .ok ({ P with chans := P.chans ++ [d.num], nh := P.nh ++ [d.name] }, P.chans.length, cells))
  else .ok ({ P with threads := P.threads ++ [Th.mk d.name 0 []] }, P.threads.length, cells)
theorem dcl_eq (P : Pg) (L : List Nm) (cells : Int) (i : Nat) (d : De) : dcl P L cells i d = if (lkN L d.name).isSome then .error ((d.line, d.col), 130) else match dclI P cells d with
 | .error e => .error e
 | .ok (P', sl, cells') => if 64 ≤ i then .error ((d.line, d.col), 134) else .ok (P', L ++ [Nm.mk d.name d.kind.toNat sl], cells') := rfl
theorem dclI_nz {P : Pg} {c : Int} {d : De} {e : Flw} (h : dclI P c d = .error e) : e.2 ≠ 0 := by
 unfold dclI at h
 repeat' split at h
 all_goals (cases h; try simp)
theorem dcls_nz : ∀ (l : List De) {P : Pg} {L : List Nm} {c : Int} {i : Nat} {e : Flw}, dcls P L c i l = .error e → e.2 ≠ 0
 | [], P, L, c, i, e, h => by
  unfold dcls at h
  cases h
 | d :: r, P, L, c, i, e, h => by
  unfold dcls at h
  split at h
  ·rename_i e2 h2
   cases h
   rw [dcl_eq] at h2
   split at h2
   ·cases h2
    simp
   generalize hI : dclI P c d = I at h2
   rcases I with e | ⟨P2, sl, c2⟩
   ·cases h2
    exact dclI_nz hI
   ·simp only at h2
    split at h2
    ·cases h2
     simp
    ·cases h2
  ·exact dcls_nz r h
theorem fnd_nz {L : List Nm} {s : ByteArray} {k : Nat} {b : Bool} {p : Int × Int} {e : Flw} (h : fnd L s k b p = .error e) : e.2 ≠ 0 := by
 unfold fnd at h
 repeat' split at h
 all_goals (cases h; try simp)
mutual
theorem fEx_nz {L : List Nm} {p : Int × Int} : ∀ (x : Ex) {e : Flw}, fEx L p x = .error e → e.2 ≠ 0
 | .mk k n s sl lo o args, e, h => by
  unfold fEx at h
  split at h
  ·rename_i e2 h2
   cases h
   split at h2
   ·generalize hF : fnd L s 1 true p = F at h2
    rcases F with e3 | x
    ·cases h2
     exact fnd_nz hF
    ·cases h2
   ·split at h2
    ·generalize hF : fnd L s 2 false p = F at h2
     rcases F with e3 | x
     ·cases h2
      exact fnd_nz hF
     ·cases h2
    ·cases h2
  ·split at h
   ·rename_i e2 h2
    cases h
    exact fExs_nz args h2
   ·cases h
theorem fExs_nz {L : List Nm} {p : Int × Int} : ∀ (r : List Ex) {e : Flw}, fExs L p r = .error e → e.2 ≠ 0
 | [], e, h => by
  unfold fExs at h
  cases h
 | x :: r, e, h => by
  unfold fExs at h
  split at h
  ·rename_i e2 h2
   cases h
   exact fEx_nz x h2
  ·split at h
   ·rename_i e2 h2
    cases h
    exact fExs_nz r h2
   ·cases h
end
theorem stHead_nz {L : List Nm} {loc : Nat} {p : Int × Int} {k : Int} {s t : ByteArray} {sl ot : Int} {lo : Bool} {e : Flw} (h : stHead L loc p k s t sl ot lo = .error e) : e.2 ≠ 0 := by
 unfold stHead at h
 split at h
 ·repeat' split at h
  all_goals (cases h; try simp)
 split at h
 ·cases h
 split at h
 ·rename_i e2 h2
  cases h
  exact fnd_nz h2
 split at h
 ·cases h
 split at h
 ·rename_i e2 h2
  cases h
  exact fnd_nz h2
 ·cases h
mutual
theorem fSt_nz {L : List Nm} {loc n mo : Nat} : ∀ (s : St) {e : Flw}, fSt L loc n mo s = .error e → e.2 ≠ 0
 | .mk k l c s t x y body els id sl ot lo, e, h => by
  unfold fSt at h
  split at h
  ·cases h
   simp
  split at h
  ·rename_i e2 h2
   cases h
   exact fEx_nz y h2
  split at h
  ·rename_i e2 h2
   cases h
   exact fEx_nz x h2
  split at h
  ·rename_i e2 h2
   cases h
   exact stHead_nz h2
  split at h
  ·rename_i e2 h2
   cases h
   exact fSts_nz body h2
  split at h
  ·rename_i e2 h2
   cases h
   exact fSts_nz els h2
  ·cases h
theorem fSts_nz {L : List Nm} {loc n mo : Nat} : ∀ (r : List St) {e : Flw}, fSts L loc n mo r = .error e → e.2 ≠ 0
 | [], e, h => by
  unfold fSts at h
  cases h
 | .mk k l c s t x y body els id sl ot lo :: r, e, h => by
  unfold fSts at h
  split at h
  ·rename_i e2 h2
   cases h
   exact fSt_nz _ h2
  rename_i s2 n2 mo2 h1
  split at h
  ·rename_i e2 h2
   cases h
   change (if k = 1 then fSts (L ++ [{ text := s, kind := 0, slot := loc }]) (loc + 1) n2 (max mo2 (loc + 1)) r else fSts L loc n2 mo2 r) = _ at h2
   split at h2
   ·exact fSts_nz r h2
   ·exact fSts_nz r h2
  ·cases h
end
theorem bods_nz {L : List Nm} : ∀ (l : List De) {n : Nat} {e : Flw}, bods L n l = .error e → e.2 ≠ 0
 | [], n, e, h => by
  unfold bods at h
  cases h
 | d :: r, n, e, h => by
  unfold bods at h
  split at h
  ·split at h
   ·rename_i e2 h2
    cases h
    exact fSts_nz _ h2
   split at h
   ·rename_i e2 h2
    cases h
    exact bods_nz r h2
   ·cases h
  ·exact bods_nz r h
theorem dcl_len {P P' : Pg} {L L' : List Nm} {c c' : Int} {i : Nat} {d : De} (h : dcl P L c i d = .ok (P', L', c')) (g : Lens P i) : Lens P' (i + 1) ∧ i + 1 ≤ 64 ∧ P'.threads.length ≥ P.threads.length + (if d.kind = 6 then 1 else 0) := by
 obtain ⟨⟨v1, v2, v3, v4⟩, ⟨n1, n2, n3, n4, n5⟩, hb⟩ := g
 rw [dcl_eq] at h
 split at h
 ·cases h
 generalize he : dclI P c d = I at h
 rcases I with e | ⟨P2, sl, c2⟩
 ·cases h
 simp only at h
 split at h
 ·cases h
 rename_i h64
 cases h
 have hi : i + 1 ≤ 64 := by omega
 unfold dclI at he
 by_cases k1 : d.kind = 1
 ·rw [if_pos k1] at he
  cases he
  refine ⟨⟨⟨?_, ?_, ?_, ?_⟩, ⟨?_, ?_, ?_, ?_, ?_⟩, hb⟩, hi, by rw [if_neg (by omega)]; exact Nat.le_refl _⟩ <;> simp <;> omega
 rw [if_neg k1] at he
 by_cases k2 : d.kind = 2
 ·rw [if_pos k2] at he
  split at he
  ·cases he
  cases he
  refine ⟨⟨⟨?_, ?_, ?_, ?_⟩, ⟨?_, ?_, ?_, ?_, ?_⟩, hb⟩, hi, by rw [if_neg (by omega)]; exact Nat.le_refl _⟩ <;> simp <;> omega
 rw [if_neg k2] at he
 by_cases k3 : d.kind = 3
 ·rw [if_pos k3] at he
  cases he
  refine ⟨⟨⟨?_, ?_, ?_, ?_⟩, ⟨?_, ?_, ?_, ?_, ?_⟩, hb⟩, hi, by rw [if_neg (by omega)]; exact Nat.le_refl _⟩ <;> simp <;> omega
 rw [if_neg k3] at he
 by_cases k4 : d.kind = 4
 ·rw [if_pos k4] at he
  cases he
  refine ⟨⟨⟨?_, ?_, ?_, ?_⟩, ⟨?_, ?_, ?_, ?_, ?_⟩, hb⟩, hi, by rw [if_neg (by omega)]; exact Nat.le_refl _⟩ <;> simp <;> omega
 rw [if_neg k4] at he
 by_cases k5 : d.kind = 5
 ·rw [if_pos k5] at he
  split at he
  ·cases he
  cases he
  refine ⟨⟨⟨?_, ?_, ?_, ?_⟩, ⟨?_, ?_, ?_, ?_, ?_⟩, hb⟩, hi, by rw [if_neg (by omega)]; exact Nat.le_refl _⟩ <;> simp <;> omega
 rw [if_neg k5] at he
 cases he
 refine ⟨⟨⟨?_, ?_, ?_, ?_⟩, ⟨?_, ?_, ?_, ?_, ?_⟩, fun t ht => ?_⟩, hi, by split <;> simp⟩
 any_goals (simp; omega)
 rcases List.mem_append.1 ht with ht | ht
 ·exact hb t ht
 ·simp at ht
  rw [ht]
theorem dcls_len : ∀ (l : List De) {P P' : Pg} {L L' : List Nm} {c : Int} {i : Nat}, dcls P L c i l = .ok (P', L') → Lens P i → i ≤ 64 → Lens P' 64 ∧ P'.threads.length ≥ P.threads.length + (l.filter fun d => decide (d.kind = 6)).length
 | [], P, P', L, L', c, i, h, g, hi => by
  unfold dcls at h
  cases h
  obtain ⟨⟨v1, v2, v3, v4⟩, ⟨n1, n2, n3, n4, n5⟩, hb⟩ := g
  exact ⟨⟨⟨by omega, by omega, by omega, by omega⟩, ⟨by omega, by omega, by omega, by omega, by omega⟩, hb⟩, by simp⟩
 | d :: r, P, P', L, L', c, i, h, g, hi => by
  unfold dcls at h
  split at h
  ·cases h
  rename_i P2 L2 c2 h2
  obtain ⟨g1, g2, g3⟩ := dcl_len h2 g
  obtain ⟨g4, g5⟩ := dcls_len r h g1 g2
  refine ⟨g4, ?_⟩
  by_cases h6 : d.kind = 6
  ·rw [if_pos h6] at g3
   rw [List.filter_cons_of_pos (by simpa using h6), List.length_cons]
   omega
  ·rw [if_neg h6] at g3
   rw [List.filter_cons_of_neg (by simpa using h6)]
   omega
theorem putTh_al : ∀ (T : List Th) (bs : List (List St × Nat)), (∀ t ∈ T, t.body = []) → bs.length ≤ T.length → alT (putTh T bs) = alB bs ∧ (putTh T bs).length = T.length ∧ ∀ x ∈ putTh T bs, x.body = [] ∨ ∃ b ∈ bs, x.body = b.1
 | [], bs, _, h => by
  obtain rfl : bs = [] := List.eq_nil_of_length_eq_zero (by simpa using h)
  exact ⟨rfl, rfl, fun x hx => by simp [putTh] at hx⟩
 | t :: r, [], ht, h => by
  have key : ∀ T : List Th, (∀ t ∈ T, t.body = []) → alT T = [] := fun T => by
   induction T with
   | nil => exact fun _ => rfl
   | cons a r ih =>
    intro h
    rw [alT, h a (by simp), ih fun t ht => h t (by simp [ht])]
    rfl
  refine ⟨key _ ht, rfl, fun x hx => .inl (ht x hx)⟩
 | t :: r, (b, mo) :: q, ht, h => by
  obtain ⟨h1, h2, h3⟩ := putTh_al r q (fun x hx => ht x (by simp [hx])) (by simpa using h)
  refine ⟨?_, ?_, fun x hx => ?_⟩
  ·rw [putTh, alT, alB, h1]
  ·rw [putTh, List.length_cons, List.length_cons, h2]
  ·rw [putTh] at hx
   rcases List.mem_cons.1 hx with rfl | hx
   ·exact .inr ⟨(b, mo), by simp, rfl⟩
   ·rcases h3 x hx with h | ⟨y, hy, e⟩
    ·exact .inl h
    ·exact .inr ⟨y, by simp [hy], e⟩
theorem find_law {l : List De} (hs : ∀ d ∈ l, St.sms d.body) (h0 : (findR l).2.2 = 0) : LawP (findR l).1 := by
 unfold findR at h0 ⊢
 split at h0
 ·rename_i e he
  exact absurd h0 (dcls_nz l he)
 rename_i P L hd
 split at h0
 ·cases h0
 rename_i x hx
 split at h0
 ·cases h0
 rename_i h6
 split at h0
 ·rename_i e he
  exact absurd h0 (bods_nz l he)
 rename_i bs n hb
 simp only [if_neg h6]
 obtain ⟨g1, g2⟩ := dcls_len l hd ⟨⟨by simp [zPg], by simp [zPg], by simp [zPg], by simp [zPg]⟩, ⟨by simp [zPg], by simp [zPg], by simp [zPg], by simp [zPg], by simp [zPg]⟩, by simp [zPg]⟩ (by decide)
 obtain ⟨b1, b2, b3, b4⟩ := bods_num l hb (by decide) hs
 have hlen : bs.length ≤ P.threads.length := by
  rw [b4]
  exact Nat.le_trans (by omega) g2
 obtain ⟨t1, t2, t3⟩ := putTh_al P.threads bs g1.b hlen
 obtain ⟨⟨v1, v2, v3, v4⟩, ⟨n1, n2, n3, n4, n5⟩, -⟩ := g1
 have hn : ∀ x ∈ putTh P.threads bs, St.sms x.body ∧ (alL x.body).length ≤ 512 ∧ ∃ a m, Nums a m (alL x.body) := fun x hx => by
  rcases t3 x hx with e | ⟨b, hb, e⟩
  ·rw [e]
   exact ⟨by unfold St.sms; trivial, by simp [alL], 0, 0, Nums.nil _⟩
  ·rw [e]
   exact b3 b hb
 refine ⟨⟨by show P.vars.length ≤ _; omega, by show P.arrays.length ≤ _; omega, by show P.chans.length ≤ _; omega, by show (putTh P.threads bs).length ≤ _; omega, ⟨by show P.nv.length ≤ _; omega, by show P.na.length ≤ _; omega, by show P.nm.length ≤ _; omega, by show P.nc.length ≤ _; omega, by show P.nh.length ≤ _; omega⟩, fun x hx => ?_⟩, ?_, b2, fun x hx => (hn x hx).2.2⟩
 ·obtain ⟨h1, h2, -⟩ := hn x hx
  have h3 := len_alL x.body
  exact ⟨szs_of _ h1 (by omega), by rw [cns_len]; omega, by omega⟩
 ·rw [allS_eq]
  show Nums 0 n (alT (putTh P.threads bs))
  rw [t1]
  exact b1
end Go.Proofs.YtgppcdfgdaggjaaGreatDoor
set_option maxRecDepth 100000
set_option maxHeartbeats 8000000
namespace Go.Proofs.YtgppcdfgdaggjaaGreatDoor
open Go.RowKit Go.Maps
structure Lw (w : World) (b : Nat) (P : Pg) (ps : List Value) (W : World) : Prop where
 lo : bL w W
 k : Blk W b 30 ps
 p : PgRL (fun _ => True) W P ps
 n : Wn W
theorem Lw.below {w W W' : World} {b : Nat} {P : Pg} {ps : List Value} (h : Lw w b P ps W) (g : bL W W') : Lw w b P ps W' := ⟨h.lo.trans (g.mono h.lo.size), h.k.below g, h.p.kept fun b o u _ hu => below_cell g b o u hu, h.n.below g⟩
theorem ps7 {ok : Nat → Prop} {w : World} {P : Pg} {ps : List Value} (h : PgRL ok w P ps) : ps[7]? = some (.int .i64 (P.stmts : Int)) := by
 obtain ⟨v0, v1, v4, v5, n0, n1, n2, n3, n4, rfl, -⟩ := h
 rfl
theorem ls_tail {w W : World} {b : Nat} {P : Pg} {ps : List Value} (HL : Hid (Lw w b P ps W)) (HP : Hid (LawP P)) {x0 x1 x2 x4 x5 : Value} {l2 : List Value} (hU : l2.length = 127 := by rfl) :
  Code.wp Tryz.prog (dropS 7 (Tryz.f7.body.getD .skip)) (bodyPost Tryz.prog Tryz.f7 (Yes w)) ⟨(x0 :: x1 :: x2 :: Pt b :: x4 :: x5 :: l2).toArray, []⟩ W := by
 revert l2
 apply aN
 iterate 127 intro _
 change Code.wp _ _ _ _ _
 obtain ⟨d3, e3, r3⟩ := under30
 have hpl := HL.out.p.cells.1
 have h7 := ps7 HL.out.p
 have hc1 := pthread_any (-1) HL.out.p HP.out.b.b
 rw [HP.out.no.1] at hc1
 have hc2 : Hid (∀ W', Lw w b P ps W' → Calls Tryz.prog 21 #[.agg ps.toArray, .int .i64 (P.stmts : Int)] W' fun e w' => bL W' w' ∧ e = .returned (.tuple #[.int .i64 0, .bool false])) := O fun W' h => by
  have := pthread_any (P.stmts : Int) h.p HP.out.b.b
  rw [HP.out.no.2] at this
  exact this
 obtain ⟨S, hS⟩ := eX P.stmts
 rw [hS] at h7
 simp only [hS] at hc2
 have h7' := O h7
 clear h7 hS
 conv in (dropS _ _) => whnf
 refine wk fun KK U => ?_
 go_wp2_with (first
  | ((with_reducible refine l1 113 30 ?_); refine wpList_load_blk e3 r3 info30 rfl (.tmp 3) rfl b ps rfl HL.out.k hpl ?_)
 )
 refine hc1.mono ?_
 clear hc1
 rintro e W1 ⟨hb1, rfl⟩
 have H1 := O (HL.out.below hb1)
 clear hb1 HL
 go_wp2_with fail
 refine U.out _ _ ?_
 clear U KK
 have c7 : W1.cell? ⟨b, 7, none⟩ = some (.int .i64 (S : Int)) := (H1.out.k.cell 7).trans h7'.out
 have hc3 := hc2.out W1 H1.out
 refine wk fun KK U => ?_
 go_wp2_with (first
  | ((with_reducible refine l1 118 30 ?_); refine wpList_load_blk e3 r3 info30 rfl (.tmp 3) rfl b ps rfl H1.out.k hpl ?_)
 )
 refine hc3.mono ?_
 clear hc3 c7
 rintro e W2 ⟨hb2, rfl⟩
 have H2 := O (H1.out.below hb2)
 clear hb2 H1
 go_wp2_with fail
 refine U.out _ _ ?_
 clear U KK
 go_wp2_with fail
 refine (known_any W2 H2.out.n).mono ?_
 rintro e W3 ⟨rfl, hb⟩
 have H3 := O (H2.out.lo.trans (hb.mono H2.out.lo.size))
 clear hb H2
 go_wp2_with fail
 go_ret
 exact ⟨rfl, H3.out⟩
end Go.Proofs.YtgppcdfgdaggjaaGreatDoor
set_option maxRecDepth 100000
set_option maxHeartbeats 8000000
namespace Go.Proofs.YtgppcdfgdaggjaaGreatDoor
open Go.RowKit Go.Maps
theorem ls_loop {w W : World} {b : Nat} {P : Pg} {ps : List Value} {la : Option Addr} {lc N : Nat} (HL : Hid (Lw w b P ps W)) (HP : Hid (LawP P)) (HN : Hid ((allS P).length = N)) (HR : Hid (Roomy N lc)) (HS : Hid (StsL (fun _ => True) W la 0 (allS P))) {x0 x1 x4 x5 : Value} {l2 : List Value} (hU : l2.length = 126 := by rfl) :
  Code.wp Tryz.prog (dropS 6 (Tryz.f7.body.getD .skip)) (bodyPost Tryz.prog Tryz.f7 (Yes w)) ⟨(x0 :: x1 :: .bool false :: Pt b :: x4 :: x5 :: .slice la N lc :: l2).toArray, []⟩ W := by
 revert l2
 apply aN
 iterate 126 intro _
 change Code.wp _ _ _ _ _
 obtain ⟨d3, e3, r3⟩ := under30
 have hpl := HL.out.p.cells.1
 conv in (dropS _ _) => whnf
 refine wk fun KK U => ?_
 go_wp2_with fail
 go_loopg [7] N (fun x iv wr => ∃ (i : Nat), i ≤ N ∧ x = N - i ∧ iv = I i ∧ Hid (bL W wr))
 case atStart => exact ⟨0, Nat.zero_le _, rfl, rfl, O (Below.refl _ _)⟩
 case round =>
  obtain ⟨i, hi, rfl, rfl, E⟩ := hrel
  have HW := O (HL.out.below E.out)
  by_cases a5 : i < N
  ·have h9 : (i : Int) < (N : Int) := by omega
   have h8 : (0 : Int) ≤ (i : Int) := by omega
   have f4 : Hid (wrap64 ((i : Int) + 1) = ((i + 1 : Nat) : Int)) := O (by
    have h1 := HR.out.1
    have h2 := HR.out.2
    have := IntWalk.wrap64_in ((i : Int) + 1) (by omega)
    rw [this]
    omega)
   have hst : P.stmts = N := by have := HP.out.n.len; have := HN.out; omega
   obtain ⟨t, x, s0, s1, hthr, hx, hpos, g0, g1, hle0, hle1⟩ := HP.out.th i (by omega)
   obtain ⟨bl, ol, cs, rfl, -, hcs, hst2⟩ := StsL.atF HS.out i (by rw [HN.out]; exact a5)
   rw [Nat.zero_add] at hcs
   have hsid : ((allS P).getD i default).sid = (i : Int) := by
    have hq : (allS P)[i]? = some ((allS P).getD i default) := by rw [List.getD_eq_getElem?_getD, List.getElem?_eq_getElem (by rw [HN.out]; exact a5)]; rfl
    have := HP.out.n.at hq
    rwa [Nat.zero_add] at this
   have hc21 := sid_at hst2
   rw [hsid] at hc21
   have C21 : Hid (W.cell? ⟨bl, ol + i * 25 + 21, none⟩ = some (.int .i64 (i : Int))) := O (World.cellF_cell (hcs 21 _ hc21))
   obtain ⟨y0, y1, y4, y5, n0, n1, n2, n3, n4, he, hpl2⟩ := id HW.out.p
   obtain ⟨a5', c5, rfl, hr5, hl5⟩ := id hpl2.threads
   have hps : ps[5]? = some (.slice a5' P.threads.length c5) := by rw [he]; rfl
   have ht : t < P.threads.length := (List.getElem?_eq_some_iff.1 hx).1
   obtain ⟨tb, tf, tcs, rfl, -, htr, htL⟩ := hl5 t x hx
   obtain ⟨ba, bc, rfl, hrb, hsb⟩ := htL
   obtain ⟨T, hT⟩ := eX P.threads.length
   have C5 : Hid (wr.cell? ⟨b, 5, none⟩ = some (.slice (some ⟨tb, tf, none⟩) T c5)) := O (by rw [← hT]; exact (HW.out.k.cell 5).trans hps)
   have hp2 : [Value.string x.name, .int .i64 (x.locals : Int), .slice ba x.body.length bc][2]? = some (.slice ba x.body.length bc) := rfl
   have C2 : Hid (wr.cell? ⟨tb, tf + t * 3 + 2, none⟩ = some (.slice ba x.body.length bc)) := O (World.cellF_cell (htr 2 _ hp2))
   have HX : Hid (Roomy x.body.length bc ∧ StsL (fun _ => True) wr ba 0 x.body ∧ (alL x.body).length ≤ 10000000) := O ⟨hrb, hsb, by
    have := (HP.out.b.b x (List.mem_of_getElem? hx)).2.1
    rw [cns_len] at this
    omega⟩
   have HG := O (And.intro hpos (And.intro g0 (And.intro g1 (And.intro hle0 hle1))))
   have k1 : (t : Int) < (T : Int) := by omega
   have k2 : (0 : Int) ≤ (t : Int) := by omega
   have k3 : ¬ (t : Int) < 0 := by omega
   have k4 : ¬ (T : Int) ≤ (t : Int) := by omega
   have hcall := pthread_any (i : Int) HW.out.p HP.out.b.b
   rw [hthr] at hcall
   clear hthr hx hpos g0 g1 hle0 hle1 hcs hst2 hsid hc21 he hpl2 hr5 hl5 hps ht htr hrb hsb hT hp2 hst
   go_wp2_with (first
    | ((with_reducible refine l1 56 30 ?_); refine wpList_load_blk e3 r3 info30 rfl (.tmp 3) rfl b ps rfl HW.out.k hpl ?_)
   )
   refine hcall.mono ?_
   clear hcall
   rintro e V1 ⟨hb1, rfl⟩
   have q21 : V1.cell? ⟨bl, ol + i * 25 + 21, none⟩ = some (.int .i64 (i : Int)) := below_cl (E.out.trans (hb1.mono E.out.size)) _ _ _ C21.out
   have q5 : V1.cell? ⟨b, 5, none⟩ = some (.slice (some ⟨tb, tf, none⟩) T c5) := below_cl hb1 _ _ _ C5.out
   have q2 : V1.cell? ⟨tb, tf + t * 3 + 2, none⟩ = some (.slice ba x.body.length bc) := below_cl hb1 _ _ _ C2.out
   have E1 := O (E.out.trans (hb1.mono E.out.size))
   have HB1 := O hb1
   clear hb1 E C21 C5 C2
   go_wp2_with fail
   have HV1 := O (HW.out.below HB1.out)
   refine (rall_any V1 _ x.body (Nat.lt_succ_self _) HX.out.2.2 HX.out.1 (Below.refl _ _) (StsL.keep (fun b o v _ hv => below_cell HB1.out b o v hv) HX.out.2.1)).mono ?_
   clear q21 q5 q2 HX
   rintro e V2 ⟨hb2, v, rfl, hg⟩
   obtain ⟨ga, gc, rfl, hgr, hge⟩ := hg.atw hb2
   obtain ⟨gb, gf, c0, rfl, -, r0, t0⟩ := hge 0 s0 HG.out.2.1
   obtain ⟨gb2, gf2, c1, e1, -, r1, t1⟩ := hge _ s1 HG.out.2.2.1
   cases e1
   have z0 : V2.cell? ⟨gb, gf + 21, none⟩ = some (.int .i64 s0.sid) := by
    have := World.cellF_cell (r0 21 _ (sid_at t0))
    rwa [Nat.zero_mul, Nat.add_zero] at this
   have z1 : V2.cell? ⟨gb, gf + ((alL x.body).length - 1) * 25 + 21, none⟩ = some (.int .i64 s1.sid) := World.cellF_cell (r1 21 _ (sid_at t1))
   obtain ⟨n, hn⟩ : ∃ n, (alL x.body).length = n + 1 := ⟨(alL x.body).length - 1, by have := HG.out.1; omega⟩
   rw [hn] at hgr
   rw [hn, Nat.add_sub_cancel] at z1
   rw [hn]
   have hle0 := HG.out.2.2.2.1
   have hle1 := HG.out.2.2.2.2
   have m0 : ¬ (i : Int) < s0.sid := by omega
   have m1 : ¬ s1.sid < (i : Int) := by omega
   generalize s0.sid = w0 at *
   generalize s1.sid = w1 at *
   obtain ⟨M, hM⟩ := eX (n + 1)
   rw [hM]
   have j0 : ¬ (M : Int) = 0 := by omega
   have j1 : (0 : Int) < (M : Int) := by omega
   have j2 : (n : Int) < (M : Int) := by omega
   have j3 : (0 : Int) ≤ (n : Int) := by omega
   have j4 : wrap64 ((M : Int) - 1) = (n : Int) := by
    have h1 := hgr.1
    have h2 := hgr.2
    have := IntWalk.wrap64_in ((M : Int) - 1) (by omega)
    rw [this]
    omega
   have E2 := O (E1.out.trans (hb2.mono E1.out.size))
   clear hge r0 t0 r1 t1 hg hb2 hle0 hle1 hgr hn hM HV1 HB1 E1 HW HG
   go_wp2_with fail
   ·exfalso
    rename_i hq
    rcases hq with (hq | hq) | hq
    ·have := beq_iff_eq.1 hq
     omega
    ·omega
    ·omega
   ·go_roundg (N - (i + 1))
    case measure => omega
    case rel => exact ⟨i + 1, by omega, rfl, congrArg (Value.int .i64) f4.out, E2⟩
  ·obtain rfl : i = N := by omega
   have i2 : ¬ (i : Int) < (i : Int) := by omega
   go_wp2_with fail
   exact U.out _ _ (ls_tail HW HP)
end Go.Proofs.YtgppcdfgdaggjaaGreatDoor
set_option maxRecDepth 100000
set_option maxHeartbeats 8000000
namespace Go.Proofs.YtgppcdfgdaggjaaGreatDoor
open Go.RowKit Go.Maps
section
variable {P : Program} {ops : Array Oper} {Q : Exit → Act → World → Prop} {md : Region.Mode} {late : List Nat} {S : World → Prop}
theorem oG {j : Nat} {g : Array Bool} {a : Act} {w : World} (i : Nat) {o : Oper} (h : ∀ C : Act → World → Prop, (∀ A w', (late.contains i = false → S w') → wpX P md ops Q late S j (g.setIfInBounds i true) A w' → C A w') → o.wp P a w C Q)
  (F : Region.ready md ops g = [i] := by kernel_rfl) (D : ops[i]? = some o := by rfl) (hw : Region.wanted o (yielded ops a.tmps) = true := by rfl) : wpX P md ops Q late S (j + 1) g a w :=
 wpX_one i F D fun A M => by
  rw [if_pos hw]
  exact h A M
end
theorem ro_sts {ok : Nat → Prop} {w : World} {a : Option Addr} {n cap : Nat} {l : List St} (h : Ro elSt ok w (.slice a n cap) l) : StsL ok w a 0 l := by
 obtain ⟨a', cap', e, hr, hl⟩ := h
 cases e
 refine StsL.mk fun j hj => ?_
 obtain ⟨b, g, cs, h1, h2, h3, h4⟩ := hl j _ (List.getElem?_eq_getElem hj)
 refine ⟨b, g, cs, h1, h2, fun t v hv => ?_, by rw [List.getD_eq_getElem?_getD, List.getElem?_eq_getElem hj]; exact h4⟩
 rw [Nat.zero_add]
 exact h3 t v hv
theorem ls_reg {w W : World} {b : Nat} {P : Pg} {ps : List Value} {la : Option Addr} {lc N : Nat} (HL : Hid (Lw w b P ps W)) (HP : Hid (LawP P)) (HN : Hid ((allS P).length = N)) (HR : Hid (Roomy N lc)) (HS0 : Hid (StsL (fun _ => True) W la 0 (allS P))) {x0 x1 x4 x5 : Value} {l2 : List Value} (hU : l2.length = 126 := by rfl) :
  Code.wp Tryz.prog (dropS 5 (Tryz.f7.body.getD .skip)) (bodyPost Tryz.prog Tryz.f7 (Yes w)) ⟨(x0 :: x1 :: .bool false :: Pt b :: x4 :: x5 :: .slice la N lc :: l2).toArray, []⟩ W := by
 revert l2
 apply aN
 iterate 126 intro _
 change Code.wp _ _ _ _ _
 obtain ⟨d3, e3, r3⟩ := under30
 have hpl := HL.out.p.cells.1
 have h4 : Tryz.prog.follows .mixedOrders = true := by kernel_rfl
 have hps := O (ps7 HL.out.p)
 have hst : P.stmts = N := by have := HP.out.n.len; have := HN.out; omega
 rw [hst] at hps
 conv in (dropS _ _) => whnf
 refine wk fun KK U => ?_
 obtain ⟨V, hV⟩ := eX W.drew
 have HV : Hid (Lw w b P ps V) := O (by rw [← hV]; exact HL.out.below (Below.refl _ _).drew)
 have HSV : Hid (StsL (fun _ => True) V la 0 (allS P)) := O (by rw [← hV]; exact HS0.out.keep fun b o v _ hv => below_cell (Below.refl _ _).drew b o v hv)
 clear HL HS0
 go_wp2_with fail
 refine wp_region_x [] (fun W => bL V W) h4 ?_
 rw [hV]
 clear hV
 have HS : Hid (bL V V) := O (Below.refl _ _)
 refine tK1 0 ?_
 refine tl 1 31 HS 30 3 b 0 ps d3 (fun W hW => (HV.out.k.below hW).whole) e3 r3 (by rw [hpl]; exact info30) ?_
 refine nm ?_
 refine oD 2 fun K F => ?_
 go_simp
 refine (rstmts_any HV.out.p (by have := HP.out.n.len; have := HP.out.s; omega)).mono ?_
 rintro e V1 ⟨hb1, v, rfl, hro⟩
 obtain ⟨ra, rc, rfl, hrr, hre⟩ := hro
 have H1 : Hid (bL V V1 ∧ StsL (fun _ => True) V1 ra 0 (allS P)) := O ⟨hb1, ro_sts ⟨ra, rc, rfl, hrr, hre⟩⟩
 rw [HN.out]
 apply F _ _ (fun _ => H1.out.1)
 clear F K hb1 hrr hre
 refine oD 3 fun K F => ?_
 go_simp
 have hss := sss_all (allS P) la ra lc rc V1
 rw [HN.out] at hss
 refine (hss HR.out (HSV.out.keep fun b o v _ hv => below_cell H1.out.1 b o v hv) H1.out.2).mono ?_
 rintro e V2 ⟨rfl, hb2⟩
 have H2 : Hid (bL V V2) := O (H1.out.1.trans (hb2.mono H1.out.1.size))
 apply F _ _ (fun _ => H2.out)
 clear F K hb2 H1 hss
 refine tK2 4 ?_ H2
 refine nm ?_
 refine tK3 6 ?_ H2
 refine nm ?_
 refine tKf (fun W => W.cell? ⟨b, 7, none⟩ = some (.int .i64 (N : Int))) 9 (fun W hW => ((HV.out.k.below hW).cell 7).trans hps.out) ?_ H2
 refine nm ?_
 refine tK3 10 (v1 := .bool false) (hv1 := by intro W1 hq; clear hq; go_simp) ?_ H2
 refine nm ?_
 refine tl 13 43 H2 30 3 b 0 ps d3 (fun W hW => (HV.out.k.below hW).whole) e3 r3 (by rw [hpl]; exact info30) ?_
 refine nm ?_
 refine tl 15 45 H2 30 3 b 0 ps d3 (fun W hW => (HV.out.k.below hW).whole) e3 r3 (by rw [hpl]; exact info30) ?_
 refine nm ?_
 have HW2 := O (HV.out.below H2.out)
 refine oG 14 fun K F => ?_
 go_simp
 refine (pgcopy_any HW2.out.p HP.out.b).mono ?_
 rintro e V3 ⟨hb3, qs, rfl, hq⟩
 have H3 : Hid (bL V V3) := O (H2.out.trans (hb3.mono H2.out.size))
 have HQ3 := O hq
 apply F _ _ (fun _ => H3.out)
 clear F K hb3 hq
 refine oG 16 fun K F => ?_
 go_simp
 refine (same_yes P HQ3.out (HV.out.below H3.out).p).mono ?_
 rintro e V4 ⟨rfl, hb4⟩
 have H4 : Hid (bL V V4) := O (H3.out.trans (hb4.mono H3.out.size))
 apply F _ _ (fun _ => H4.out)
 clear F K hb4 HQ3 HW2
 refine tK2 17 ?_ H4
 simp only [Act.put]
 refine dn ?_
 have H5 := O (HV.out.below H4.out)
 have S5 : Hid (StsL (fun _ => True) V4 la 0 (allS P)) := O (HSV.out.keep fun b o v _ hv => below_cell H4.out b o v hv)
 clear HSV H2 H3 H4 HS HV
 go_wp2_with fail
 exact U.out _ _ (ls_loop H5 HP HN HR S5)
end Go.Proofs.YtgppcdfgdaggjaaGreatDoor
set_option maxRecDepth 100000
set_option maxHeartbeats 8000000
namespace Go.Proofs.YtgppcdfgdaggjaaGreatDoor
open Go.RowKit Go.Maps
theorem text_lawp {s : ByteArray} (h : (textR fiR s).2.2 = 0) : LawP (textR fiR s).1 := by
 unfold textR at h ⊢
 split at h
 ·rename_i hp
  exact absurd h hp
 rename_i hp
 rw [if_neg hp]
 unfold fiR at h ⊢
 split at h
 ·rename_i hd
  rw [if_pos hd]
  refine find_law (fun d hm => ?_) h
  have : deR isName d = true := by
   unfold desR at hd
   exact List.all_eq_true.1 hd d hm
  exact (deR_kind this).2.2
 ·cases h
theorem stmts_law (s : ByteArray) (w : World) (H : Wn w) : Calls Tryz.prog 7 #[.string s] w (Yes w) := by
 obtain ⟨i30, y30, hi30, hz30, hc30⟩ := zero30
 obtain ⟨i32, y32, hi32, hz32, hc32⟩ := zero32
 obtain ⟨d30, hu30, hr30⟩ := under30
 have HW := O H
 clear H
 have hk := known_any w HW.out
 have hc1 := ptext_all s w HW.out
 have hlp := O fun h => text_lawp (s := s) h
 obtain ⟨Z, hZ⟩ : ∃ Z, textR fiR s = Z := ⟨_, rfl⟩
 rw [hZ] at hc1 hlp
 clear hZ
 obtain ⟨Pr, ⟨pl, pc⟩, er⟩ := Z
 go_enter Tryz.func7, Tryz.ntmps7
 refine wk fun KK U => ?_
 go_wp2_with fail
 refine U.out _ _ ?_
 clear U KK
 refine wk fun KK U => ?_
 obtain ⟨n, hn⟩ : ∃ n, s.size = n := ⟨_, rfl⟩
 by_cases h3 : (3000 : Int) < (n : Int)
 ·have h4 := h3
  rw [← hn] at h4
  clear hc1
  go_wp2_with fail
  refine hk.mono ?_
  rintro e W1 ⟨rfl, hb⟩
  have HE := O hb
  clear hb
  go_wp2_with fail
  go_ret
  exact ⟨rfl, HE.out⟩
 have h4 := h3
 rw [← hn] at h4
 clear hk
 go_wp2_with fail
 refine U.out _ _ ?_
 clear U KK h4 h3 hn
 refine wk fun KK U => ?_
 go_wp2_with fail
 refine hc1.mono ?_
 clear hc1
 rintro e W1 ⟨⟨ps1, rfl, hp⟩, hb⟩
 have HB1 := O hb
 have HP1 := O hp
 have HPC1 := O hp.cells
 clear hb hp
 obtain ⟨b1, hb1⟩ : ∃ b, W1.heap.size = b := ⟨_, rfl⟩
 go_wp2_with (first
  | ((with_reducible refine at1 3 (.alloc 30) ?_); refine wpList_alloc_blk hi30 hz30 hc30 rfl rfl b1 hb1 ?_; intro W2 k2 b2 s2; have K2 := O k2; have B2 := O b2; clear k2 b2)
  | ((with_reducible refine at1 4 (.alloc 32) ?_); refine wpList_alloc_blk hi32 hz32 hc32 rfl rfl (b1 + 1) s2 ?_; intro W3 k3 b3 s3; have K3 := O k3; have B3 := O b3; clear k3 b3)
  | ((with_reducible refine s0 30 ?_); refine wpList_store_ch info30 rfl (.tmp 3) (.tmp 22) rfl b1 ps1 _ rfl rfl (K2.out.below B3.out) rfl HPC1.out ?_; intro W4 k4 c4; have K4 := O (And.intro k4 c4); clear k4 c4)
  | ((with_reducible refine s0 32 ?_); refine wpList_store_ch info32a rfl (.tmp 4) (.tmp 23) rfl (b1 + 1) [.int .i64 pl, .int .i64 pc] _ rfl rfl (K4.out.2.blk (by omega) K3.out) rfl (two_one _ _) ?_; intro W5 k5 c5; have K5 := O (And.intro k5 c5); clear k5 c5)
  | fail)
 refine U.out _ _ ?_
 clear U KK
 have HBB1 : Hid (bL W1 W5) := O (K5.out.2.below (by omega) (K4.out.2.below (by omega) (B2.out.trans (B3.out.mono B2.out.size))))
 have H1 : Hid (Lw w b1 Pr ps1 W5) := O ⟨HB1.out.trans (HBB1.out.mono HB1.out.size), K5.out.2.blk (by omega) K4.out.1, PgRL.weak' (HP1.out.kept fun b o u _ hu => below_cell HBB1.out b o u hu) fun _ _ => trivial, HW.out.below (HB1.out.trans (HBB1.out.mono HB1.out.size))⟩
 clear K2 B2 K3 B3 K4 K5 HBB1 HP1 HB1 s2 s3 hb1
 refine wk fun KK U => ?_
 by_cases he : ¬ er = 0
 ·have hk := known_any W5 H1.out.n
  go_wp2_with fail
  refine hk.mono ?_
  rintro e W6 ⟨rfl, hb⟩
  have HE := O (H1.out.lo.trans (hb.mono H1.out.lo.size))
  clear hb
  go_wp2_with fail
  go_ret
  exact ⟨rfl, HE.out⟩
 obtain rfl : er = 0 := by omega
 clear he
 have HP := O (hlp.out rfl)
 clear hlp
 go_wp2_with fail
 refine U.out _ _ ?_
 clear U KK
 refine wk fun KK U => ?_
 have hpl := HPC1.out.1
 go_wp2_with (first
  | ((with_reducible refine l1 28 30 ?_); refine wpList_load_blk hu30 hr30 info30 rfl (.tmp 3) rfl b1 ps1 rfl H1.out.k hpl ?_)
 )
 refine (pstmts_any H1.out.p HP.out.b.b (by have := HP.out.n.len; have := HP.out.s; omega)).mono ?_
 rintro e W6 ⟨hb, la, lc, rfl, hr, hl⟩
 have H6 := O (H1.out.below hb)
 have HL6 : Hid (StsL (fun _ => True) W6 la 0 (allS Pr)) := O (StsL.weak (fun _ _ => trivial) hl)
 have HR6 := O hr
 clear hb hr hl H1
 obtain ⟨N, hN⟩ := eX (allS Pr).length
 have HN := O hN
 rw [hN] at HR6 ⊢
 clear hN
 go_wp2_with fail
 exact U.out _ _ (ls_reg H6 HP HN HR6 HL6)
end Go.Proofs.YtgppcdfgdaggjaaGreatDoor
