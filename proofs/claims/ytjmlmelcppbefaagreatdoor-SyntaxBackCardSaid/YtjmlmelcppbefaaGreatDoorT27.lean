/- What the syntax texts share, part 27. No condition. -/
import Derived.Test.YtjmlmelcppbefaaGreatDoorT26
namespace Go.Proofs.YtjmlmelcppbefaaGreatDoor
open Go.RowKit Go.Maps
theorem under55 : ∃ d, Tryz.prog.underlying 55 = some d ∧ d.isRow = true := by
 have h : (Tryz.prog.underlying 55).map (·.isRow) = some true := by kernel_rfl
 obtain ⟨d, h1, h2⟩ := Option.map_eq_some_iff.1 h
 exact ⟨d, h1, h2⟩
theorem info55 : (Tryz.prog.info? 55).map (·.size) = some 6 := by kernel_rfl
theorem deAt_eq (T : List Wd) (i : Nat) : deAt T i = if isT T i (deW.getD 1 noB) = true then 1 else if isT T i (deW.getD 2 noB) = true then 2 else if isT T i (deW.getD 3 noB) = true then 3 else if isT T i (deW.getD 4 noB) = true then 4 else if isT T i (deW.getD 5 noB) = true then 5 else if isT T i (deW.getD 6 noB) = true then 6 else 0 := by
 unfold deAt
 rw [show List.range 7 = [0, 1, 2, 3, 4, 5, 6] from rfl]
 generalize hA : isT T i = A
 cases h1 : A (deW.getD 1 noB) <;> cases h2 : A (deW.getD 2 noB) <;> cases h3 : A (deW.getD 3 noB) <;> cases h4 : A (deW.getD 4 noB) <;> cases h5 : A (deW.getD 5 noB) <;> cases h6 : A (deW.getD 6 noB) <;> simp only [List.find?_cons, h1, h2, h3, h4, h5, h6] <;> rfl
def deOk (w : World) (d : De) (e : Ending) (w' : World) : Prop := ∃ cs : List Value, e = .returned (.agg cs.toArray) ∧ DeL (w.heap.size ≤ ·) w' cs d
theorem decl_told {w W : World} {b y z j k0 : Nat} {S : Src} {d : De} {cs C : List Value} (h0 : Rw w b S k0) (hK : Kp w W b b) (h : Rw W b S j) (hz : Blk W z 55 C) (hC : C.length = 6) (hwz : w.heap.size ≤ z) (hbw : b < w.heap.size)
  (hc : DeL (fun c => w.heap.size ≤ c ∧ c ≠ y ∧ c ≠ z) W cs d) : Blk (W.setCells z 0 cs) z 55 cs ∧ WP w b S (.ok (d, j)) (deOk w) (.returned (.agg cs.toArray)) (W.setCells z 0 cs) := by
 have hl := hc.cells.1
 have hKV := Kp.setCellsNew hwz cs 0 hK
 refine ⟨hz.putAll (by rw [hl, hC]), hKV, ⟨cs, rfl, ?_⟩, h0.fin h hKV (heap_setCells (by omega) cs 0 W)⟩
 refine DeL.weak (fun c hcc => hcc.1) (DeL.keep (fun c o v hcc hv => ?_) hc)
 rw [← hv]
 simp [World.cellU, World.cell?, World.frozen?, heap_setCells (w := W) (vs := cs) (o := 0) hcc.2.2]
theorem pNumb_bd {T : List Wd} (hN : ∀ i, 0 ≤ (T.getD i default).num ∧ (T.getD i default).num ≤ 2147483647) {i j : Nat} {n : Int} (h : pNumb T i = some (.ok (n, j))) : 0 ≤ n ∧ n ≤ 2147483647 := by
 unfold pNumb at h
 split at h
 ·cases h
  exact hN i
 ·cases h
theorem rw_new {w W : World} {b k j y : Nat} {S : Src} (h0 : Rw w b S k) (hK : Kp w W b b) (h : Rw W b S j) (hy : w.heap.size ≤ y) (hyb : y ≠ b) (o : Nat) (u : Value) : Rw (W.setCell ⟨y, o, none⟩ u) b S j :=
 h0.fin h (hK.setNew hy o u) (Below.heap_setCell W ⟨y, o, none⟩ u b (Ne.symm hyb))
theorem de_none {ok : Nat → Prop} (W : World) (k li co n : Int) (s : ByteArray) : DeL ok W [.int .i64 k, .int .i64 li, .int .i64 co, .string s, .int .i64 n, .slice none 0 0] (mkDe k (li, co) s n []) := ⟨none, 0, rfl, ⟨Nat.le_refl _, by decide⟩, by unfold mkDe StsL; trivial⟩
set_option maxRecDepth 100000 in
set_option maxHeartbeats 16000000 in
theorem decl_any {w : World} {b k : Nat} {S : Src} (hb0 : b ≠ 0) (hN : ∀ i, 0 ≤ (S.T.getD i default).num ∧ (S.T.getD i default).num ≤ 2147483647) (h : Rw w b S k) (hO : Ops w) (hkd : Kds w b S) {R : Except Nat (De × Nat)} (hR : pD S.T k = some R) :
  Calls Tryz.prog 79 #[.pointer (some ⟨b, 0, none⟩)] w (WP w b S R (deOk w)) := by
 unfold pD at hR
 have hda := deAt_eq S.T k
 obtain ⟨d55, hu55, hr55⟩ := under55
 have hbw := h.lt
 have HH := Lib.hid h
 have h0 := h.alloc (.cells #[.int .i64 0, .int .i64 0, .int .i64 0, .string ⟨#[]⟩, .int .i64 0, .slice none 0 0] 55)
 have hp := peek_any h0
 obtain ⟨wd, hwd⟩ : ∃ wd, nextW S.T S.en k = wd := ⟨_, rfl⟩
 have hat : k < S.T.length → wd = S.T.getD k default := fun e => by rw [← hwd]; unfold nextW; rw [if_pos e]
 rw [hwd] at hp
 obtain ⟨kd, tx, nu, li, co⟩ := wd
 have hf := field_p kd tx nu li co
 have HA := Lib.hid hat
 clear hwd hat h
 have hz0 : Blk (w.alloc (.cells #[.int .i64 0, .int .i64 0, .int .i64 0, .string ⟨#[]⟩, .int .i64 0, .slice none 0 0] 55)) w.heap.size 55 [.int .i64 0, .int .i64 0, .int .i64 0, .string ⟨#[]⟩, .int .i64 0, .slice none 0 0] := World.alloc_heap_new _ _
 have hk0 : Kp w (w.alloc (.cells #[.int .i64 0, .int .i64 0, .int .i64 0, .string ⟨#[]⟩, .int .i64 0, .slice none 0 0] 55)) b b := (Kp.refl w b b).alloc _
 have hsz0 : (w.alloc (.cells #[.int .i64 0, .int .i64 0, .int .i64 0, .string ⟨#[]⟩, .int .i64 0, .slice none 0 0] 55)).heap.size = w.heap.size + 1 := by simp
 go_enter Tryz.func79, Tryz.ntmps79
 go_wp2_with fail
 refine hp.mono ?_
 rintro e W1 ⟨rfl, hb1⟩
 simp only [Wd.val]
 have h1 := (h0.below hb1).alloc (.cells #[.int .i64 0, .int .i64 li, .int .i64 co, .string ⟨#[]⟩, .int .i64 0, .slice none 0 0] 55)
 have hz1 := (hz0.below hb1).alloc (.cells #[.int .i64 0, .int .i64 li, .int .i64 co, .string ⟨#[]⟩, .int .i64 0, .slice none 0 0] 55)
 have hK1 := (hk0.trans (kp_same (b := b) hb1)).alloc (.cells #[.int .i64 0, .int .i64 li, .int .i64 co, .string ⟨#[]⟩, .int .i64 0, .slice none 0 0] 55)
 have hd1 : Blk (W1.alloc (.cells #[.int .i64 0, .int .i64 li, .int .i64 co, .string ⟨#[]⟩, .int .i64 0, .slice none 0 0] 55)) W1.heap.size 55 [.int .i64 0, .int .i64 li, .int .i64 co, .string ⟨#[]⟩, .int .i64 0, .slice none 0 0] := World.alloc_heap_new _ _
 have hs1 := hb1.size
 rw [hsz0] at hs1
 have hy1 : (W1.alloc (.cells #[.int .i64 0, .int .i64 li, .int .i64 co, .string ⟨#[]⟩, .int .i64 0, .slice none 0 0] 55)).heap.size = W1.heap.size + 1 := by simp
 clear h0 hz0 hk0 hb1 hp hsz0
 go_wp2_with fail
 obtain ⟨y, hy⟩ : ∃ y, W1.heap.size = y := ⟨_, rfl⟩
 rw [hy] at hd1 hs1 hy1 ⊢
 generalize W1.alloc (.cells #[.int .i64 0, .int .i64 li, .int .i64 co, .string ⟨#[]⟩, .int .i64 0, .slice none 0 0] 55) = W at *
 have hyb : y ≠ b := by omega
 have hzb : w.heap.size ≠ b := by omega
 have hzy : w.heap.size ≠ y := by omega
 have hyw : w.heap.size ≤ y := by omega
 refine (accept_any h1 (deW.getD 1 noB)).mono ?_
 rintro e W2 ⟨hk2, rfl, h2⟩
 have hd2 := hd1.kp hk2 hyb hyb
 have hz2 := hz1.kp hk2 hzb hzb
 have hK2 := hK1.trans hk2
 obtain ⟨m, hm⟩ : ∃ m, isT S.T k (deW.getD 1 noB) = m := ⟨_, rfl⟩
 rw [hm] at h2 hda
 rw [hm]
 clear hm hk2
 clear h1 hK1 hd1 hz1
 cases m
 case true =>
  have hdk : deAt S.T k = 1 := by simpa using hda
  clear hda
  have hkl := deAt_lt S.T (i := k) (by rw [hdk]; decide)
  have hpos : plOf S.T k = (li, co) := by
   unfold plOf
   rw [← HA.out hkl]
  rw [hdk, hpos, if_neg (by decide)] at hR
  simp only [if_true] at h2
  clear hdk
  go_wp2_with fail
  rcases hx3 : pName S.T (k + 1) with _ | (j3 | ⟨x3, j3⟩)
  ·rw [hx3] at hR
   cases hR
  ·rw [hx3] at hR
   cases hR
   refine (name_rd h2 hx3).mono ?_
   rintro e W3 ⟨hk3, rfl⟩
   exact ⟨rfl, hK2.trans hk3, rfl⟩
  rw [hx3, andT_ok] at hR
  refine (name_rd h2 hx3).mono ?_
  rintro e W3 ⟨hk3, rfl, h3⟩
  have hd3 := hd2.kp hk3 hyb hyb
  have hz3 := hz2.kp hk3 hzb hzb
  have hK3 := hK2.trans hk3
  clear h2 hK2 hd2 hz2 hx3 hk3
  have c0 := hd3.cell 0
  have f0 := hd3.frozen 0
  have c3 := hd3.cell 3
  have f3 := hd3.frozen 3
  have hd4 : Blk ((W3.setCell ⟨y, 0, none⟩ (.int .i64 1)).setCell ⟨y, 3, none⟩ (.string x3)) y 55 [.int .i64 1, .int .i64 li, .int .i64 co, .string x3, .int .i64 0, .slice none 0 0] := ((hd3.set1 0 (.int .i64 1)).set1 3 (.string x3))
  have hz4 := ((hz3.other hzy 0 (.int .i64 1)).other hzy 3 (.string x3))
  have h4 := (rw_new HH.out (hK3.setNew hyw 0 (.int .i64 1)) (rw_new HH.out hK3 h3 hyw hyb 0 (.int .i64 1)) hyw hyb 3 (.string x3))
  have hK4 := ((hK3.setNew hyw 0 (.int .i64 1)).setNew hyw 3 (.string x3))
  have HE := Lib.hid (And.intro hd4 (And.intro hz4 (And.intro h4 hK4)))
  clear hd4 hz4 h4 hK4 hd3 hz3 h3 hK3
  go_wp2_with fail
  clear c0 f0 c3 f3
  obtain ⟨hd4, hz4, h4, hK4⟩ := HE.out
  clear HE
  generalize (W3.setCell ⟨y, 0, none⟩ (.int .i64 1)).setCell ⟨y, 3, none⟩ (.string x3) = W4 at *
  rw [if_pos (by decide)] at hR
  rcases hx5 : want S.T sEq j3 with _ | (j5 | ⟨x5, j5⟩)
  ·rw [hx5] at hR
   cases hR
  ·rw [hx5] at hR
   cases hR
   refine (want_any h4 sEq hx5).mono ?_
   rintro e W5 ⟨hk5, rfl⟩
   exact ⟨rfl, hK4.trans hk5, rfl⟩
  rw [hx5, andT_ok] at hR
  refine (want_any h4 sEq hx5).mono ?_
  rintro e W5 ⟨hk5, rfl, h5⟩
  have hd5 := hd4.kp hk5 hyb hyb
  have hz5 := hz4.kp hk5 hzb hzb
  have hK5 := hK4.trans hk5
  clear h4 hK4 hd4 hz4 hx5 hk5
  go_wp2_with fail
  refine (accept_any h5 sMinus).mono ?_
  rintro e W6 ⟨hk6, rfl, h6⟩
  have hd6 := hd5.kp hk6 hyb hyb
  have hz6 := hz5.kp hk6 hzb hzb
  have hK6 := hK5.trans hk6
  obtain ⟨m, hm⟩ : ∃ m, isT S.T j5 sMinus = m := ⟨_, rfl⟩
  rw [hm] at h6 hR
  rw [hm]
  clear hm hk6
  clear h5 hK5 hd5 hz5
  cases m
  case false =>
   rw [if_neg Bool.false_ne_true] at hR
   simp only [Bool.false_eq_true, if_false] at h6
   go_wp2_with fail
   rcases hx7 : pNumb S.T j5 with _ | (j7 | ⟨x7, j7⟩)
   ·rw [hx7] at hR
    cases hR
   ·rw [hx7] at hR
    cases hR
    refine (numb_rd h6 hx7).mono ?_
    rintro e W7 ⟨hk7, rfl⟩
    exact ⟨rfl, hK6.trans hk7, rfl⟩
   rw [hx7, andT_ok] at hR
   refine (numb_rd h6 hx7).mono ?_
   rintro e W7 ⟨hk7, rfl, h7⟩
   have hd7 := hd6.kp hk7 hyb hyb
   have hz7 := hz6.kp hk7 hzb hzb
   have hK7 := hK6.trans hk7
   have hnb := pNumb_bd hN hx7
   clear h6 hK6 hd6 hz6 hx7 hk7
   have c4 := hd7.cell 4
   have f4 := hd7.frozen 4
   have hd8 : Blk (W7.setCell ⟨y, 4, none⟩ (.int .i64 x7)) y 55 [.int .i64 1, .int .i64 li, .int .i64 co, .string x3, .int .i64 x7, .slice none 0 0] := (hd7.set1 4 (.int .i64 x7))
   have hz8 := (hz7.other hzy 4 (.int .i64 x7))
   have h8 := (rw_new HH.out hK7 h7 hyw hyb 4 (.int .i64 x7))
   have hK8 := (hK7.setNew hyw 4 (.int .i64 x7))
   have HE := Lib.hid (And.intro hd8 (And.intro hz8 (And.intro h8 hK8)))
   clear hd8 hz8 h8 hK8 hd7 hz7 h7 hK7
   go_wp2_with fail
   clear c4 f4
   obtain ⟨hd8, hz8, h8, hK8⟩ := HE.out
   clear HE
   generalize W7.setCell ⟨y, 4, none⟩ (.int .i64 x7) = W8 at *
   rcases hx9 : want S.T sSemi j7 with _ | (j9 | ⟨x9, j9⟩)
   ·rw [hx9] at hR
    cases hR
   ·rw [hx9] at hR
    cases hR
    refine (want_any h8 sSemi hx9).mono ?_
    rintro e W9 ⟨hk9, rfl⟩
    exact ⟨rfl, hK8.trans hk9, rfl⟩
   rw [hx9, andT_ok] at hR
   refine (want_any h8 sSemi hx9).mono ?_
   rintro e W9 ⟨hk9, rfl, h9⟩
   have hd9 := hd8.kp hk9 hyb hyb
   have hz9 := hz8.kp hk9 hzb hzb
   have hK9 := hK8.trans hk9
   clear h8 hK8 hd8 hz8 hx9 hk9
   cases hR
   have hdl : DeL (fun c => w.heap.size ≤ c ∧ c ≠ y ∧ c ≠ w.heap.size) W9 [.int .i64 1, .int .i64 li, .int .i64 co, .string x3, .int .i64 x7, .slice none 0 0] (mkDe 1 (li, co) x3 x7 []) := de_none _ 1 li co x7 x3
   have hdl := decl_told (y := y) HH.out hK9 h9 hz9 rfl (Nat.le_refl _) hbw hdl
   have h1c : ∀ v ∈ ([.int .i64 1, .int .i64 li, .int .i64 co, .string x3, .int .i64 x7, .slice none 0 0] : List Value), v.oneCell' = true := by
    intro v hv
    simp only [List.mem_cons, List.not_mem_nil, or_false] at hv
    rcases hv with rfl | rfl | rfl | rfl | rfl | rfl <;> rfl
   have hl : ([.int .i64 1, .int .i64 li, .int .i64 co, .string x3, .int .i64 x7, .slice none 0 0] : List Value).length = 6 := rfl
   obtain ⟨cs, hcs⟩ : ∃ cs : List Value, [.int .i64 1, .int .i64 li, .int .i64 co, .string x3, .int .i64 x7, .slice none 0 0] = cs := ⟨_, rfl⟩
   rw [hcs] at hdl h1c hl hd9
   clear hcs
   have HCB := Lib.hid hd9
   have HZ := Lib.hid hz9
   have HF := Lib.hid hdl
   clear hd9 hz9 h9 hK9 hdl
   go_wp2_with (first | ((with_reducible show wpList _ _ _ (Oper.mk _ (.load 55 _) _ _ _ _ :: _) _ _); refine wpList_load_blk hu55 hr55 info55 rfl (.tmp 3) rfl y cs rfl HCB hl ?_) | ((with_reducible show wpList _ _ _ (Oper.mk none (.store 55 _ _) _ _ _ _ :: _) _ _); refine wpList_store_blk info55 rfl (.tmp 2) (.tmp 117) rfl w.heap.size cs _ rfl rfl HZ rfl hl h1c ?_))
   exact end_blk hu55 hr55 info55 HF.out.1 hl rfl rfl rfl HF.out.2
  case true =>
   rw [if_pos rfl] at hR
   simp only [if_true] at h6
   go_wp2_with fail
   rcases hx7 : pNumb S.T (j5 + 1) with _ | (j7 | ⟨x7, j7⟩)
   ·rw [hx7] at hR
    cases hR
   ·rw [hx7] at hR
    cases hR
    refine (numb_rd h6 hx7).mono ?_
    rintro e W7 ⟨hk7, rfl⟩
    exact ⟨rfl, hK6.trans hk7, rfl⟩
   rw [hx7, andT_ok] at hR
   refine (numb_rd h6 hx7).mono ?_
   rintro e W7 ⟨hk7, rfl, h7⟩
   have hd7 := hd6.kp hk7 hyb hyb
   have hz7 := hz6.kp hk7 hzb hzb
   have hK7 := hK6.trans hk7
   have hnb := pNumb_bd hN hx7
   clear h6 hK6 hd6 hz6 hx7 hk7
   have hw : IntKind.i64.wrap (-x7) = -x7 := by
    rw [IntKind.wrap_i64]
    omega
   have c4 := hd7.cell 4
   have f4 := hd7.frozen 4
   have hd8 : Blk ((W7.setCell ⟨y, 4, none⟩ (.int .i64 x7)).setCell ⟨y, 4, none⟩ (.int .i64 (-x7))) y 55 [.int .i64 1, .int .i64 li, .int .i64 co, .string x3, .int .i64 (-x7), .slice none 0 0] := (hd7.set1 4 (.int .i64 x7)).set1 4 (.int .i64 (-x7))
   have hz8 := (hz7.other hzy 4 (.int .i64 x7)).other hzy 4 (.int .i64 (-x7))
   have h8 := rw_new HH.out (hK7.setNew hyw 4 (.int .i64 x7)) (rw_new HH.out hK7 h7 hyw hyb 4 (.int .i64 x7)) hyw hyb 4 (.int .i64 (-x7))
   have hK8 := (hK7.setNew hyw 4 (.int .i64 x7)).setNew hyw 4 (.int .i64 (-x7))
   have HE := Lib.hid (And.intro hd8 (And.intro hz8 (And.intro h8 hK8)))
   clear hd8 hz8 h8 hK8 hd7 hz7 h7 hK7
   go_wp2_with fail
   clear c4 f4 hw
   obtain ⟨hd8, hz8, h8, hK8⟩ := HE.out
   clear HE
   generalize (W7.setCell ⟨y, 4, none⟩ (.int .i64 x7)).setCell ⟨y, 4, none⟩ (.int .i64 (-x7)) = W8 at *
   rcases hx9 : want S.T sSemi j7 with _ | (j9 | ⟨x9, j9⟩)
   ·rw [hx9] at hR
    cases hR
   ·rw [hx9] at hR
    cases hR
    refine (want_any h8 sSemi hx9).mono ?_
    rintro e W9 ⟨hk9, rfl⟩
    exact ⟨rfl, hK8.trans hk9, rfl⟩
   rw [hx9, andT_ok] at hR
   refine (want_any h8 sSemi hx9).mono ?_
   rintro e W9 ⟨hk9, rfl, h9⟩
   have hd9 := hd8.kp hk9 hyb hyb
   have hz9 := hz8.kp hk9 hzb hzb
   have hK9 := hK8.trans hk9
   clear h8 hK8 hd8 hz8 hx9 hk9
   cases hR
   have hdl : DeL (fun c => w.heap.size ≤ c ∧ c ≠ y ∧ c ≠ w.heap.size) W9 [.int .i64 1, .int .i64 li, .int .i64 co, .string x3, .int .i64 (-x7), .slice none 0 0] (mkDe 1 (li, co) x3 (-x7) []) := de_none _ 1 li co (-x7) x3
   have hdl := decl_told (y := y) HH.out hK9 h9 hz9 rfl (Nat.le_refl _) hbw hdl
   have h1c : ∀ v ∈ ([.int .i64 1, .int .i64 li, .int .i64 co, .string x3, .int .i64 (-x7), .slice none 0 0] : List Value), v.oneCell' = true := by
    intro v hv
    simp only [List.mem_cons, List.not_mem_nil, or_false] at hv
    rcases hv with rfl | rfl | rfl | rfl | rfl | rfl <;> rfl
   have hl : ([.int .i64 1, .int .i64 li, .int .i64 co, .string x3, .int .i64 (-x7), .slice none 0 0] : List Value).length = 6 := rfl
   obtain ⟨cs, hcs⟩ : ∃ cs : List Value, [.int .i64 1, .int .i64 li, .int .i64 co, .string x3, .int .i64 (-x7), .slice none 0 0] = cs := ⟨_, rfl⟩
   rw [hcs] at hdl h1c hl hd9
   clear hcs
   have HCB := Lib.hid hd9
   have HZ := Lib.hid hz9
   have HF := Lib.hid hdl
   clear hd9 hz9 h9 hK9 hdl
   go_wp2_with (first | ((with_reducible show wpList _ _ _ (Oper.mk _ (.load 55 _) _ _ _ _ :: _) _ _); refine wpList_load_blk hu55 hr55 info55 rfl (.tmp 3) rfl y cs rfl HCB hl ?_) | ((with_reducible show wpList _ _ _ (Oper.mk none (.store 55 _ _) _ _ _ _ :: _) _ _); refine wpList_store_blk info55 rfl (.tmp 2) (.tmp 117) rfl w.heap.size cs _ rfl rfl HZ rfl hl h1c ?_))
   exact end_blk hu55 hr55 info55 HF.out.1 hl rfl rfl rfl HF.out.2
 case false =>
  simp only [Bool.false_eq_true, if_false] at h2
  rw [if_neg Bool.false_ne_true] at hda
  go_wp2_with fail
  refine (accept_any h2 (deW.getD 2 noB)).mono ?_
  rintro e W3 ⟨hk3, rfl, h3⟩
  have hd3 := hd2.kp hk3 hyb hyb
  have hz3 := hz2.kp hk3 hzb hzb
  have hK3 := hK2.trans hk3
  obtain ⟨m, hm⟩ : ∃ m, isT S.T k (deW.getD 2 noB) = m := ⟨_, rfl⟩
  rw [hm] at h3 hda
  rw [hm]
  clear hm hk3
  clear h2 hK2 hd2 hz2
  cases m
  case true =>
   have hdk : deAt S.T k = 2 := by simpa using hda
   clear hda
   have hkl := deAt_lt S.T (i := k) (by rw [hdk]; decide)
   have hpos : plOf S.T k = (li, co) := by
    unfold plOf
    rw [← HA.out hkl]
   rw [hdk, hpos, if_neg (by decide)] at hR
   simp only [if_true] at h3
   clear hdk
   go_wp2_with fail
   rcases hx4 : pName S.T (k + 1) with _ | (j4 | ⟨x4, j4⟩)
   ·rw [hx4] at hR
    cases hR
   ·rw [hx4] at hR
    cases hR
    refine (name_rd h3 hx4).mono ?_
    rintro e W4 ⟨hk4, rfl⟩
    exact ⟨rfl, hK3.trans hk4, rfl⟩
   rw [hx4, andT_ok] at hR
   refine (name_rd h3 hx4).mono ?_
   rintro e W4 ⟨hk4, rfl, h4⟩
   have hd4 := hd3.kp hk4 hyb hyb
   have hz4 := hz3.kp hk4 hzb hzb
   have hK4 := hK3.trans hk4
   clear h3 hK3 hd3 hz3 hx4 hk4
   have c0 := hd4.cell 0
   have f0 := hd4.frozen 0
   have c3 := hd4.cell 3
   have f3 := hd4.frozen 3
   have hd5 : Blk ((W4.setCell ⟨y, 0, none⟩ (.int .i64 2)).setCell ⟨y, 3, none⟩ (.string x4)) y 55 [.int .i64 2, .int .i64 li, .int .i64 co, .string x4, .int .i64 0, .slice none 0 0] := ((hd4.set1 0 (.int .i64 2)).set1 3 (.string x4))
   have hz5 := ((hz4.other hzy 0 (.int .i64 2)).other hzy 3 (.string x4))
   have h5 := (rw_new HH.out (hK4.setNew hyw 0 (.int .i64 2)) (rw_new HH.out hK4 h4 hyw hyb 0 (.int .i64 2)) hyw hyb 3 (.string x4))
   have hK5 := ((hK4.setNew hyw 0 (.int .i64 2)).setNew hyw 3 (.string x4))
   have HE := Lib.hid (And.intro hd5 (And.intro hz5 (And.intro h5 hK5)))
   clear hd5 hz5 h5 hK5 hd4 hz4 h4 hK4
   go_wp2_with fail
   clear c0 f0 c3 f3
   obtain ⟨hd5, hz5, h5, hK5⟩ := HE.out
   clear HE
   generalize (W4.setCell ⟨y, 0, none⟩ (.int .i64 2)).setCell ⟨y, 3, none⟩ (.string x4) = W5 at *
   rw [if_neg (by decide), if_pos (by decide)] at hR
   rcases hx6 : pNumb S.T j4 with _ | (j6 | ⟨x6, j6⟩)
   ·rw [hx6] at hR
    cases hR
   ·rw [hx6] at hR
    cases hR
    refine (numb_rd h5 hx6).mono ?_
    rintro e W6 ⟨hk6, rfl⟩
    exact ⟨rfl, hK5.trans hk6, rfl⟩
   rw [hx6, andT_ok] at hR
   refine (numb_rd h5 hx6).mono ?_
   rintro e W6 ⟨hk6, rfl, h6⟩
   have hd6 := hd5.kp hk6 hyb hyb
   have hz6 := hz5.kp hk6 hzb hzb
   have hK6 := hK5.trans hk6
   clear h5 hK5 hd5 hz5 hx6 hk6
   have c4 := hd6.cell 4
   have f4 := hd6.frozen 4
   have hd7 : Blk (W6.setCell ⟨y, 4, none⟩ (.int .i64 x6)) y 55 [.int .i64 2, .int .i64 li, .int .i64 co, .string x4, .int .i64 x6, .slice none 0 0] := (hd6.set1 4 (.int .i64 x6))
   have hz7 := (hz6.other hzy 4 (.int .i64 x6))
   have h7 := (rw_new HH.out hK6 h6 hyw hyb 4 (.int .i64 x6))
   have hK7 := (hK6.setNew hyw 4 (.int .i64 x6))
   have HE := Lib.hid (And.intro hd7 (And.intro hz7 (And.intro h7 hK7)))
   clear hd7 hz7 h7 hK7 hd6 hz6 h6 hK6
   go_wp2_with fail
   clear c4 f4
   obtain ⟨hd7, hz7, h7, hK7⟩ := HE.out
   clear HE
   generalize W6.setCell ⟨y, 4, none⟩ (.int .i64 x6) = W7 at *
   rcases hx8 : want S.T sSemi j6 with _ | (j8 | ⟨x8, j8⟩)
   ·rw [hx8] at hR
    cases hR
   ·rw [hx8] at hR
    cases hR
    refine (want_any h7 sSemi hx8).mono ?_
    rintro e W8 ⟨hk8, rfl⟩
    exact ⟨rfl, hK7.trans hk8, rfl⟩
   rw [hx8, andT_ok] at hR
   refine (want_any h7 sSemi hx8).mono ?_
   rintro e W8 ⟨hk8, rfl, h8⟩
   have hd8 := hd7.kp hk8 hyb hyb
   have hz8 := hz7.kp hk8 hzb hzb
   have hK8 := hK7.trans hk8
   clear h7 hK7 hd7 hz7 hx8 hk8
   cases hR
   have hdl : DeL (fun c => w.heap.size ≤ c ∧ c ≠ y ∧ c ≠ w.heap.size) W8 [.int .i64 2, .int .i64 li, .int .i64 co, .string x4, .int .i64 x6, .slice none 0 0] (mkDe 2 (li, co) x4 x6 []) := de_none _ 2 li co x6 x4
   have hdl := decl_told (y := y) HH.out hK8 h8 hz8 rfl (Nat.le_refl _) hbw hdl
   have h1c : ∀ v ∈ ([.int .i64 2, .int .i64 li, .int .i64 co, .string x4, .int .i64 x6, .slice none 0 0] : List Value), v.oneCell' = true := by
    intro v hv
    simp only [List.mem_cons, List.not_mem_nil, or_false] at hv
    rcases hv with rfl | rfl | rfl | rfl | rfl | rfl <;> rfl
   have hl : ([.int .i64 2, .int .i64 li, .int .i64 co, .string x4, .int .i64 x6, .slice none 0 0] : List Value).length = 6 := rfl
   obtain ⟨cs, hcs⟩ : ∃ cs : List Value, [.int .i64 2, .int .i64 li, .int .i64 co, .string x4, .int .i64 x6, .slice none 0 0] = cs := ⟨_, rfl⟩
   rw [hcs] at hdl h1c hl hd8
   clear hcs
   have HCB := Lib.hid hd8
   have HZ := Lib.hid hz8
   have HF := Lib.hid hdl
   clear hd8 hz8 h8 hK8 hdl
   go_wp2_with (first | ((with_reducible show wpList _ _ _ (Oper.mk _ (.load 55 _) _ _ _ _ :: _) _ _); refine wpList_load_blk hu55 hr55 info55 rfl (.tmp 3) rfl y cs rfl HCB hl ?_) | ((with_reducible show wpList _ _ _ (Oper.mk none (.store 55 _ _) _ _ _ _ :: _) _ _); refine wpList_store_blk info55 rfl (.tmp 2) (.tmp 117) rfl w.heap.size cs _ rfl rfl HZ rfl hl h1c ?_))
   exact end_blk hu55 hr55 info55 HF.out.1 hl rfl rfl rfl HF.out.2
  case false =>
   simp only [Bool.false_eq_true, if_false] at h3
   rw [if_neg Bool.false_ne_true] at hda
   go_wp2_with fail
   refine (accept_any h3 (deW.getD 3 noB)).mono ?_
   rintro e W4 ⟨hk4, rfl, h4⟩
   have hd4 := hd3.kp hk4 hyb hyb
   have hz4 := hz3.kp hk4 hzb hzb
   have hK4 := hK3.trans hk4
   obtain ⟨m, hm⟩ : ∃ m, isT S.T k (deW.getD 3 noB) = m := ⟨_, rfl⟩
   rw [hm] at h4 hda
   rw [hm]
   clear hm hk4
   clear h3 hK3 hd3 hz3
   cases m
   case true =>
    have hdk : deAt S.T k = 3 := by simpa using hda
    clear hda
    have hkl := deAt_lt S.T (i := k) (by rw [hdk]; decide)
    have hpos : plOf S.T k = (li, co) := by
     unfold plOf
     rw [← HA.out hkl]
    rw [hdk, hpos, if_neg (by decide)] at hR
    simp only [if_true] at h4
    clear hdk
    go_wp2_with fail
    rcases hx5 : pName S.T (k + 1) with _ | (j5 | ⟨x5, j5⟩)
    ·rw [hx5] at hR
     cases hR
    ·rw [hx5] at hR
     cases hR
     refine (name_rd h4 hx5).mono ?_
     rintro e W5 ⟨hk5, rfl⟩
     exact ⟨rfl, hK4.trans hk5, rfl⟩
    rw [hx5, andT_ok] at hR
    refine (name_rd h4 hx5).mono ?_
    rintro e W5 ⟨hk5, rfl, h5⟩
    have hd5 := hd4.kp hk5 hyb hyb
    have hz5 := hz4.kp hk5 hzb hzb
    have hK5 := hK4.trans hk5
    clear h4 hK4 hd4 hz4 hx5 hk5
    have c0 := hd5.cell 0
    have f0 := hd5.frozen 0
    have c3 := hd5.cell 3
    have f3 := hd5.frozen 3
    have hd6 : Blk ((W5.setCell ⟨y, 0, none⟩ (.int .i64 3)).setCell ⟨y, 3, none⟩ (.string x5)) y 55 [.int .i64 3, .int .i64 li, .int .i64 co, .string x5, .int .i64 0, .slice none 0 0] := ((hd5.set1 0 (.int .i64 3)).set1 3 (.string x5))
    have hz6 := ((hz5.other hzy 0 (.int .i64 3)).other hzy 3 (.string x5))
    have h6 := (rw_new HH.out (hK5.setNew hyw 0 (.int .i64 3)) (rw_new HH.out hK5 h5 hyw hyb 0 (.int .i64 3)) hyw hyb 3 (.string x5))
    have hK6 := ((hK5.setNew hyw 0 (.int .i64 3)).setNew hyw 3 (.string x5))
    have HE := Lib.hid (And.intro hd6 (And.intro hz6 (And.intro h6 hK6)))
    clear hd6 hz6 h6 hK6 hd5 hz5 h5 hK5
    go_wp2_with fail
    clear c0 f0 c3 f3
    obtain ⟨hd6, hz6, h6, hK6⟩ := HE.out
    clear HE
    generalize (W5.setCell ⟨y, 0, none⟩ (.int .i64 3)).setCell ⟨y, 3, none⟩ (.string x5) = W6 at *
    rw [if_neg (by decide), if_neg (by decide), if_neg (by decide)] at hR
    rcases hx7 : want S.T sSemi j5 with _ | (j7 | ⟨x7, j7⟩)
    ·rw [hx7] at hR
     cases hR
    ·rw [hx7] at hR
     cases hR
     refine (want_any h6 sSemi hx7).mono ?_
     rintro e W7 ⟨hk7, rfl⟩
     exact ⟨rfl, hK6.trans hk7, rfl⟩
    rw [hx7, andT_ok] at hR
    refine (want_any h6 sSemi hx7).mono ?_
    rintro e W7 ⟨hk7, rfl, h7⟩
    have hd7 := hd6.kp hk7 hyb hyb
    have hz7 := hz6.kp hk7 hzb hzb
    have hK7 := hK6.trans hk7
    clear h6 hK6 hd6 hz6 hx7 hk7
    cases hR
    have hdl : DeL (fun c => w.heap.size ≤ c ∧ c ≠ y ∧ c ≠ w.heap.size) W7 [.int .i64 3, .int .i64 li, .int .i64 co, .string x5, .int .i64 0, .slice none 0 0] (mkDe 3 (li, co) x5 0 []) := de_none _ 3 li co 0 x5
    have hdl := decl_told (y := y) HH.out hK7 h7 hz7 rfl (Nat.le_refl _) hbw hdl
    have h1c : ∀ v ∈ ([.int .i64 3, .int .i64 li, .int .i64 co, .string x5, .int .i64 0, .slice none 0 0] : List Value), v.oneCell' = true := by
     intro v hv
     simp only [List.mem_cons, List.not_mem_nil, or_false] at hv
     rcases hv with rfl | rfl | rfl | rfl | rfl | rfl <;> rfl
    have hl : ([.int .i64 3, .int .i64 li, .int .i64 co, .string x5, .int .i64 0, .slice none 0 0] : List Value).length = 6 := rfl
    obtain ⟨cs, hcs⟩ : ∃ cs : List Value, [.int .i64 3, .int .i64 li, .int .i64 co, .string x5, .int .i64 0, .slice none 0 0] = cs := ⟨_, rfl⟩
    rw [hcs] at hdl h1c hl hd7
    clear hcs
    have HCB := Lib.hid hd7
    have HZ := Lib.hid hz7
    have HF := Lib.hid hdl
    clear hd7 hz7 h7 hK7 hdl
    go_wp2_with (first | ((with_reducible show wpList _ _ _ (Oper.mk _ (.load 55 _) _ _ _ _ :: _) _ _); refine wpList_load_blk hu55 hr55 info55 rfl (.tmp 3) rfl y cs rfl HCB hl ?_) | ((with_reducible show wpList _ _ _ (Oper.mk none (.store 55 _ _) _ _ _ _ :: _) _ _); refine wpList_store_blk info55 rfl (.tmp 2) (.tmp 117) rfl w.heap.size cs _ rfl rfl HZ rfl hl h1c ?_))
    exact end_blk hu55 hr55 info55 HF.out.1 hl rfl rfl rfl HF.out.2
   case false =>
    simp only [Bool.false_eq_true, if_false] at h4
    rw [if_neg Bool.false_ne_true] at hda
    go_wp2_with fail
    refine (accept_any h4 (deW.getD 4 noB)).mono ?_
    rintro e W5 ⟨hk5, rfl, h5⟩
    have hd5 := hd4.kp hk5 hyb hyb
    have hz5 := hz4.kp hk5 hzb hzb
    have hK5 := hK4.trans hk5
    obtain ⟨m, hm⟩ : ∃ m, isT S.T k (deW.getD 4 noB) = m := ⟨_, rfl⟩
    rw [hm] at h5 hda
    rw [hm]
    clear hm hk5
    clear h4 hK4 hd4 hz4
    cases m
    case true =>
     have hdk : deAt S.T k = 4 := by simpa using hda
     clear hda
     have hkl := deAt_lt S.T (i := k) (by rw [hdk]; decide)
     have hpos : plOf S.T k = (li, co) := by
      unfold plOf
      rw [← HA.out hkl]
     rw [hdk, hpos, if_neg (by decide)] at hR
     simp only [if_true] at h5
     clear hdk
     go_wp2_with fail
     rcases hx6 : pName S.T (k + 1) with _ | (j6 | ⟨x6, j6⟩)
     ·rw [hx6] at hR
      cases hR
     ·rw [hx6] at hR
      cases hR
      refine (name_rd h5 hx6).mono ?_
      rintro e W6 ⟨hk6, rfl⟩
      exact ⟨rfl, hK5.trans hk6, rfl⟩
     rw [hx6, andT_ok] at hR
     refine (name_rd h5 hx6).mono ?_
     rintro e W6 ⟨hk6, rfl, h6⟩
     have hd6 := hd5.kp hk6 hyb hyb
     have hz6 := hz5.kp hk6 hzb hzb
     have hK6 := hK5.trans hk6
     clear h5 hK5 hd5 hz5 hx6 hk6
     have c0 := hd6.cell 0
     have f0 := hd6.frozen 0
     have c3 := hd6.cell 3
     have f3 := hd6.frozen 3
     have hd7 : Blk ((W6.setCell ⟨y, 0, none⟩ (.int .i64 4)).setCell ⟨y, 3, none⟩ (.string x6)) y 55 [.int .i64 4, .int .i64 li, .int .i64 co, .string x6, .int .i64 0, .slice none 0 0] := ((hd6.set1 0 (.int .i64 4)).set1 3 (.string x6))
     have hz7 := ((hz6.other hzy 0 (.int .i64 4)).other hzy 3 (.string x6))
     have h7 := (rw_new HH.out (hK6.setNew hyw 0 (.int .i64 4)) (rw_new HH.out hK6 h6 hyw hyb 0 (.int .i64 4)) hyw hyb 3 (.string x6))
     have hK7 := ((hK6.setNew hyw 0 (.int .i64 4)).setNew hyw 3 (.string x6))
     have HE := Lib.hid (And.intro hd7 (And.intro hz7 (And.intro h7 hK7)))
     clear hd7 hz7 h7 hK7 hd6 hz6 h6 hK6
     go_wp2_with fail
     clear c0 f0 c3 f3
     obtain ⟨hd7, hz7, h7, hK7⟩ := HE.out
     clear HE
     generalize (W6.setCell ⟨y, 0, none⟩ (.int .i64 4)).setCell ⟨y, 3, none⟩ (.string x6) = W7 at *
     rw [if_neg (by decide), if_neg (by decide), if_neg (by decide)] at hR
     rcases hx8 : want S.T sSemi j6 with _ | (j8 | ⟨x8, j8⟩)
     ·rw [hx8] at hR
      cases hR
     ·rw [hx8] at hR
      cases hR
      refine (want_any h7 sSemi hx8).mono ?_
      rintro e W8 ⟨hk8, rfl⟩
      exact ⟨rfl, hK7.trans hk8, rfl⟩
     rw [hx8, andT_ok] at hR
     refine (want_any h7 sSemi hx8).mono ?_
     rintro e W8 ⟨hk8, rfl, h8⟩
     have hd8 := hd7.kp hk8 hyb hyb
     have hz8 := hz7.kp hk8 hzb hzb
     have hK8 := hK7.trans hk8
     clear h7 hK7 hd7 hz7 hx8 hk8
     cases hR
     have hdl : DeL (fun c => w.heap.size ≤ c ∧ c ≠ y ∧ c ≠ w.heap.size) W8 [.int .i64 4, .int .i64 li, .int .i64 co, .string x6, .int .i64 0, .slice none 0 0] (mkDe 4 (li, co) x6 0 []) := de_none _ 4 li co 0 x6
     have hdl := decl_told (y := y) HH.out hK8 h8 hz8 rfl (Nat.le_refl _) hbw hdl
     have h1c : ∀ v ∈ ([.int .i64 4, .int .i64 li, .int .i64 co, .string x6, .int .i64 0, .slice none 0 0] : List Value), v.oneCell' = true := by
      intro v hv
      simp only [List.mem_cons, List.not_mem_nil, or_false] at hv
      rcases hv with rfl | rfl | rfl | rfl | rfl | rfl <;> rfl
     have hl : ([.int .i64 4, .int .i64 li, .int .i64 co, .string x6, .int .i64 0, .slice none 0 0] : List Value).length = 6 := rfl
     obtain ⟨cs, hcs⟩ : ∃ cs : List Value, [.int .i64 4, .int .i64 li, .int .i64 co, .string x6, .int .i64 0, .slice none 0 0] = cs := ⟨_, rfl⟩
     rw [hcs] at hdl h1c hl hd8
     clear hcs
     have HCB := Lib.hid hd8
     have HZ := Lib.hid hz8
     have HF := Lib.hid hdl
     clear hd8 hz8 h8 hK8 hdl
     go_wp2_with (first | ((with_reducible show wpList _ _ _ (Oper.mk _ (.load 55 _) _ _ _ _ :: _) _ _); refine wpList_load_blk hu55 hr55 info55 rfl (.tmp 3) rfl y cs rfl HCB hl ?_) | ((with_reducible show wpList _ _ _ (Oper.mk none (.store 55 _ _) _ _ _ _ :: _) _ _); refine wpList_store_blk info55 rfl (.tmp 2) (.tmp 117) rfl w.heap.size cs _ rfl rfl HZ rfl hl h1c ?_))
     exact end_blk hu55 hr55 info55 HF.out.1 hl rfl rfl rfl HF.out.2
    case false =>
     simp only [Bool.false_eq_true, if_false] at h5
     rw [if_neg Bool.false_ne_true] at hda
     go_wp2_with fail
     refine (accept_any h5 (deW.getD 5 noB)).mono ?_
     rintro e W6 ⟨hk6, rfl, h6⟩
     have hd6 := hd5.kp hk6 hyb hyb
     have hz6 := hz5.kp hk6 hzb hzb
     have hK6 := hK5.trans hk6
     obtain ⟨m, hm⟩ : ∃ m, isT S.T k (deW.getD 5 noB) = m := ⟨_, rfl⟩
     rw [hm] at h6 hda
     rw [hm]
     clear hm hk6
     clear h5 hK5 hd5 hz5
     cases m
     case true =>
      have hdk : deAt S.T k = 5 := by simpa using hda
      clear hda
      have hkl := deAt_lt S.T (i := k) (by rw [hdk]; decide)
      have hpos : plOf S.T k = (li, co) := by
       unfold plOf
       rw [← HA.out hkl]
      rw [hdk, hpos, if_neg (by decide)] at hR
      simp only [if_true] at h6
      clear hdk
      go_wp2_with fail
      rcases hx7 : pName S.T (k + 1) with _ | (j7 | ⟨x7, j7⟩)
      ·rw [hx7] at hR
       cases hR
      ·rw [hx7] at hR
       cases hR
       refine (name_rd h6 hx7).mono ?_
       rintro e W7 ⟨hk7, rfl⟩
       exact ⟨rfl, hK6.trans hk7, rfl⟩
      rw [hx7, andT_ok] at hR
      refine (name_rd h6 hx7).mono ?_
      rintro e W7 ⟨hk7, rfl, h7⟩
      have hd7 := hd6.kp hk7 hyb hyb
      have hz7 := hz6.kp hk7 hzb hzb
      have hK7 := hK6.trans hk7
      clear h6 hK6 hd6 hz6 hx7 hk7
      have c0 := hd7.cell 0
      have f0 := hd7.frozen 0
      have c3 := hd7.cell 3
      have f3 := hd7.frozen 3
      have hd8 : Blk ((W7.setCell ⟨y, 0, none⟩ (.int .i64 5)).setCell ⟨y, 3, none⟩ (.string x7)) y 55 [.int .i64 5, .int .i64 li, .int .i64 co, .string x7, .int .i64 0, .slice none 0 0] := ((hd7.set1 0 (.int .i64 5)).set1 3 (.string x7))
      have hz8 := ((hz7.other hzy 0 (.int .i64 5)).other hzy 3 (.string x7))
      have h8 := (rw_new HH.out (hK7.setNew hyw 0 (.int .i64 5)) (rw_new HH.out hK7 h7 hyw hyb 0 (.int .i64 5)) hyw hyb 3 (.string x7))
      have hK8 := ((hK7.setNew hyw 0 (.int .i64 5)).setNew hyw 3 (.string x7))
      have HE := Lib.hid (And.intro hd8 (And.intro hz8 (And.intro h8 hK8)))
      clear hd8 hz8 h8 hK8 hd7 hz7 h7 hK7
      go_wp2_with fail
      clear c0 f0 c3 f3
      obtain ⟨hd8, hz8, h8, hK8⟩ := HE.out
      clear HE
      generalize (W7.setCell ⟨y, 0, none⟩ (.int .i64 5)).setCell ⟨y, 3, none⟩ (.string x7) = W8 at *
      rw [if_neg (by decide), if_pos (by decide)] at hR
      rcases hx9 : pNumb S.T j7 with _ | (j9 | ⟨x9, j9⟩)
      ·rw [hx9] at hR
       cases hR
      ·rw [hx9] at hR
       cases hR
       refine (numb_rd h8 hx9).mono ?_
       rintro e W9 ⟨hk9, rfl⟩
       exact ⟨rfl, hK8.trans hk9, rfl⟩
      rw [hx9, andT_ok] at hR
      refine (numb_rd h8 hx9).mono ?_
      rintro e W9 ⟨hk9, rfl, h9⟩
      have hd9 := hd8.kp hk9 hyb hyb
      have hz9 := hz8.kp hk9 hzb hzb
      have hK9 := hK8.trans hk9
      clear h8 hK8 hd8 hz8 hx9 hk9
      have c4 := hd9.cell 4
      have f4 := hd9.frozen 4
      have hd10 : Blk (W9.setCell ⟨y, 4, none⟩ (.int .i64 x9)) y 55 [.int .i64 5, .int .i64 li, .int .i64 co, .string x7, .int .i64 x9, .slice none 0 0] := (hd9.set1 4 (.int .i64 x9))
      have hz10 := (hz9.other hzy 4 (.int .i64 x9))
      have h10 := (rw_new HH.out hK9 h9 hyw hyb 4 (.int .i64 x9))
      have hK10 := (hK9.setNew hyw 4 (.int .i64 x9))
      have HE := Lib.hid (And.intro hd10 (And.intro hz10 (And.intro h10 hK10)))
      clear hd10 hz10 h10 hK10 hd9 hz9 h9 hK9
      go_wp2_with fail
      clear c4 f4
      obtain ⟨hd10, hz10, h10, hK10⟩ := HE.out
      clear HE
      generalize W9.setCell ⟨y, 4, none⟩ (.int .i64 x9) = W10 at *
      rcases hx11 : want S.T sSemi j9 with _ | (j11 | ⟨x11, j11⟩)
      ·rw [hx11] at hR
       cases hR
      ·rw [hx11] at hR
       cases hR
       refine (want_any h10 sSemi hx11).mono ?_
       rintro e W11 ⟨hk11, rfl⟩
       exact ⟨rfl, hK10.trans hk11, rfl⟩
      rw [hx11, andT_ok] at hR
      refine (want_any h10 sSemi hx11).mono ?_
      rintro e W11 ⟨hk11, rfl, h11⟩
      have hd11 := hd10.kp hk11 hyb hyb
      have hz11 := hz10.kp hk11 hzb hzb
      have hK11 := hK10.trans hk11
      clear h10 hK10 hd10 hz10 hx11 hk11
      cases hR
      have hdl : DeL (fun c => w.heap.size ≤ c ∧ c ≠ y ∧ c ≠ w.heap.size) W11 [.int .i64 5, .int .i64 li, .int .i64 co, .string x7, .int .i64 x9, .slice none 0 0] (mkDe 5 (li, co) x7 x9 []) := de_none _ 5 li co x9 x7
      have hdl := decl_told (y := y) HH.out hK11 h11 hz11 rfl (Nat.le_refl _) hbw hdl
      have h1c : ∀ v ∈ ([.int .i64 5, .int .i64 li, .int .i64 co, .string x7, .int .i64 x9, .slice none 0 0] : List Value), v.oneCell' = true := by
       intro v hv
       simp only [List.mem_cons, List.not_mem_nil, or_false] at hv
       rcases hv with rfl | rfl | rfl | rfl | rfl | rfl <;> rfl
      have hl : ([.int .i64 5, .int .i64 li, .int .i64 co, .string x7, .int .i64 x9, .slice none 0 0] : List Value).length = 6 := rfl
      obtain ⟨cs, hcs⟩ : ∃ cs : List Value, [.int .i64 5, .int .i64 li, .int .i64 co, .string x7, .int .i64 x9, .slice none 0 0] = cs := ⟨_, rfl⟩
      rw [hcs] at hdl h1c hl hd11
      clear hcs
      have HCB := Lib.hid hd11
      have HZ := Lib.hid hz11
      have HF := Lib.hid hdl
      clear hd11 hz11 h11 hK11 hdl
      go_wp2_with (first | ((with_reducible show wpList _ _ _ (Oper.mk _ (.load 55 _) _ _ _ _ :: _) _ _); refine wpList_load_blk hu55 hr55 info55 rfl (.tmp 3) rfl y cs rfl HCB hl ?_) | ((with_reducible show wpList _ _ _ (Oper.mk none (.store 55 _ _) _ _ _ _ :: _) _ _); refine wpList_store_blk info55 rfl (.tmp 2) (.tmp 117) rfl w.heap.size cs _ rfl rfl HZ rfl hl h1c ?_))
      exact end_blk hu55 hr55 info55 HF.out.1 hl rfl rfl rfl HF.out.2
     case false =>
      simp only [Bool.false_eq_true, if_false] at h6
      rw [if_neg Bool.false_ne_true] at hda
      go_wp2_with fail
      refine (accept_any h6 (deW.getD 6 noB)).mono ?_
      rintro e W7 ⟨hk7, rfl, h7⟩
      have hd7 := hd6.kp hk7 hyb hyb
      have hz7 := hz6.kp hk7 hzb hzb
      have hK7 := hK6.trans hk7
      obtain ⟨m, hm⟩ : ∃ m, isT S.T k (deW.getD 6 noB) = m := ⟨_, rfl⟩
      rw [hm] at h7 hda
      rw [hm]
      clear hm hk7
      clear h6 hK6 hd6 hz6
      cases m
      case true =>
       have hdk : deAt S.T k = 6 := by simpa using hda
       clear hda
       have hkl := deAt_lt S.T (i := k) (by rw [hdk]; decide)
       have hpos : plOf S.T k = (li, co) := by
        unfold plOf
        rw [← HA.out hkl]
       rw [hdk, hpos, if_neg (by decide)] at hR
       simp only [if_true] at h7
       clear hdk
       go_wp2_with fail
       rcases hx8 : pName S.T (k + 1) with _ | (j8 | ⟨x8, j8⟩)
       ·rw [hx8] at hR
        cases hR
       ·rw [hx8] at hR
        cases hR
        refine (name_rd h7 hx8).mono ?_
        rintro e W8 ⟨hk8, rfl⟩
        exact ⟨rfl, hK7.trans hk8, rfl⟩
       rw [hx8, andT_ok] at hR
       refine (name_rd h7 hx8).mono ?_
       rintro e W8 ⟨hk8, rfl, h8⟩
       have hd8 := hd7.kp hk8 hyb hyb
       have hz8 := hz7.kp hk8 hzb hzb
       have hK8 := hK7.trans hk8
       clear h7 hK7 hd7 hz7 hx8 hk8
       have c0 := hd8.cell 0
       have f0 := hd8.frozen 0
       have c3 := hd8.cell 3
       have f3 := hd8.frozen 3
       have hd9 : Blk ((W8.setCell ⟨y, 0, none⟩ (.int .i64 6)).setCell ⟨y, 3, none⟩ (.string x8)) y 55 [.int .i64 6, .int .i64 li, .int .i64 co, .string x8, .int .i64 0, .slice none 0 0] := ((hd8.set1 0 (.int .i64 6)).set1 3 (.string x8))
       have hz9 := ((hz8.other hzy 0 (.int .i64 6)).other hzy 3 (.string x8))
       have h9 := (rw_new HH.out (hK8.setNew hyw 0 (.int .i64 6)) (rw_new HH.out hK8 h8 hyw hyb 0 (.int .i64 6)) hyw hyb 3 (.string x8))
       have hK9 := ((hK8.setNew hyw 0 (.int .i64 6)).setNew hyw 3 (.string x8))
       have HE := Lib.hid (And.intro hd9 (And.intro hz9 (And.intro h9 hK9)))
       clear hd9 hz9 h9 hK9 hd8 hz8 h8 hK8
       go_wp2_with fail
       clear c0 f0 c3 f3
       obtain ⟨hd9, hz9, h9, hK9⟩ := HE.out
       clear HE
       generalize (W8.setCell ⟨y, 0, none⟩ (.int .i64 6)).setCell ⟨y, 3, none⟩ (.string x8) = W9 at *
       rw [if_neg (by decide), if_neg (by decide), if_pos (by decide)] at hR
       have hyl := hd9.lt
       have hzl := hz9.lt
       rcases hx10 : pBlk S.T j8 with _ | (j10 | ⟨x10, j10⟩)
       ·rw [hx10] at hR
        cases hR
       ·rw [hx10] at hR
        cases hR
        refine (block_any hb0 h9 (hO.kp hK9 hb0) (hkd.kp hK9 (Nat.le_refl _)) hx10).mono ?_
        rintro e W10 ⟨hk10, rfl⟩
        exact ⟨rfl, hK9.trans hk10, rfl⟩
       rw [hx10, andT_ok] at hR
       refine (block_any hb0 h9 (hO.kp hK9 hb0) (hkd.kp hK9 (Nat.le_refl _)) hx10).mono ?_
       rintro e W10 ⟨hk10, ⟨a, cap, rfl, hcap, hZ⟩, h10⟩
       have hd10 := hd9.kp hk10 hyb hyb
       have hz10 := hz9.kp hk10 hzb hzb
       have hK10 := hK9.trans hk10
       clear h9 hK9 hd9 hz9 hx10 hk10
       have hZ2 : StsL (fun c => w.heap.size ≤ c ∧ c ≠ y ∧ c ≠ w.heap.size) W10 a 0 x10 := StsL.weak (fun c hc => by have hc2 : W9.heap.size ≤ c := hc; exact ⟨by omega, by omega, by omega⟩) hZ
       have hZ3 : StsL (fun c => w.heap.size ≤ c ∧ c ≠ y ∧ c ≠ w.heap.size) (W10.setCell ⟨y, 5, none⟩ (.slice a x10.length cap)) a 0 x10 := StsL.keep (fun c o v hc hv => by rw [← hv]; exact World.cellU_setCell_far W10 ⟨y, 5, none⟩ ⟨c, o, none⟩ _ (Ne.symm hc.2.1)) hZ2
       clear hZ hZ2
       have c5 := hd10.cell 5
       have f5 := hd10.frozen 5
       have hd11 : Blk (W10.setCell ⟨y, 5, none⟩ (.slice a x10.length cap)) y 55 [.int .i64 6, .int .i64 li, .int .i64 co, .string x8, .int .i64 0, .slice a x10.length cap] := hd10.set1 5 (.slice a x10.length cap)
       have hz11 := hz10.other hzy 5 (.slice a x10.length cap)
       have h11 := rw_new HH.out hK10 h10 hyw hyb 5 (.slice a x10.length cap)
       have hK11 := hK10.setNew hyw 5 (.slice a x10.length cap)
       clear hd10 hz10 h10 hK10
       cases hR
       have hdl : DeL (fun c => w.heap.size ≤ c ∧ c ≠ y ∧ c ≠ w.heap.size) (W10.setCell ⟨y, 5, none⟩ (.slice a x10.length cap)) [.int .i64 6, .int .i64 li, .int .i64 co, .string x8, .int .i64 0, .slice a x10.length cap] (mkDe 6 (li, co) x8 0 x10) := ⟨a, cap, rfl, hcap, hZ3⟩
       have hdl := decl_told (y := y) HH.out hK11 h11 hz11 rfl (Nat.le_refl _) hbw hdl
       have h1c : ∀ v ∈ ([.int .i64 6, .int .i64 li, .int .i64 co, .string x8, .int .i64 0, .slice a x10.length cap] : List Value), v.oneCell' = true := by
        intro v hv
        simp only [List.mem_cons, List.not_mem_nil, or_false] at hv
        rcases hv with rfl | rfl | rfl | rfl | rfl | rfl <;> rfl
       have hl : ([.int .i64 6, .int .i64 li, .int .i64 co, .string x8, .int .i64 0, .slice a x10.length cap] : List Value).length = 6 := rfl
       obtain ⟨cs, hcs⟩ : ∃ cs : List Value, [.int .i64 6, .int .i64 li, .int .i64 co, .string x8, .int .i64 0, .slice a x10.length cap] = cs := ⟨_, rfl⟩
       rw [hcs] at hdl h1c hl hd11
       clear hcs
       have HCB := Lib.hid hd11
       have HZ := Lib.hid hz11
       have HF := Lib.hid hdl
       clear hd11 hz11 h11 hK11 hdl
       go_wp2_with (first | ((with_reducible show wpList _ _ _ (Oper.mk _ (.load 55 _) _ _ _ _ :: _) _ _); refine wpList_load_blk hu55 hr55 info55 rfl (.tmp 3) rfl y cs rfl HCB hl ?_) | ((with_reducible show wpList _ _ _ (Oper.mk none (.store 55 _ _) _ _ _ _ :: _) _ _); refine wpList_store_blk info55 rfl (.tmp 2) (.tmp 112) rfl w.heap.size cs _ rfl rfl HZ rfl hl h1c ?_))
       exact end_blk hu55 hr55 info55 HF.out.1 hl rfl rfl rfl HF.out.2
      case false =>
       simp only [Bool.false_eq_true, if_false] at h7
       rw [if_neg Bool.false_ne_true] at hda
       go_wp2_with fail
       rw [if_pos hda] at hR
       cases hR
       refine (fail_any h7).mono ?_
       rintro e W99 ⟨rfl, hb⟩
       exact ⟨rfl, hK7.trans (kp_same hb), rfl⟩
end Go.Proofs.YtjmlmelcppbefaaGreatDoor
