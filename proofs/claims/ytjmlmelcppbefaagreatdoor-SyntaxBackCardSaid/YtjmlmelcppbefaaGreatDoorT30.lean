/- What the syntax texts share, part 30. No condition. -/
import Derived.Test.YtjmlmelcppbefaaGreatDoorT20
import Derived.Test.YtjmlmelcppbefaaGreatDoorT21
import Derived.Test.YtjmlmelcppbefaaGreatDoorT28
import Derived.Test.YtjmlmelcppbefaaGreatDoorT29
set_option maxRecDepth 100000
namespace Go.Proofs.YtjmlmelcppbefaaGreatDoor
open Go.RowKit Go.Maps
def parseR (s : ByteArray) : List De × (Int × Int) × Int :=
 if (lexR s).2.2 = 0 then match pDs (lexR s).1 ((lexR s).1.length + 1) [] 0 with
  | some (.ok (l, _)) => (match deDeep l with | some p => ([], p, 121) | none => (l, (0, 0), 0))
  | some (.error j) => ([], ((nextW (lexR s).1 (posAt s s.size) j).line, (nextW (lexR s).1 (posAt s s.size) j).col), 120)
  | none => ([], (0, 0), 0)
 else ([], (lexR s).2.1, (lexR s).2.2)
def PaOk (w : World) (R : List De × (Int × Int) × Int) (e : Ending) (w' : World) : Prop := Below w.heap.size w w' ∧ ∃ (a : Option Addr) (cap : Nat), e = .returned (.tuple #[.slice a R.1.length cap, .agg #[.int .i64 R.2.1.1, .int .i64 R.2.1.2], .int .i64 R.2.2]) ∧ Roomy R.1.length cap ∧ DesL (w.heap.size ≤ ·) w' a R.1
theorem end_pa {fn : Func} {R : Ending → World → Prop} {act : Act} {W : World} {b : Nat} {s t u : Tmp} {x y : Int} {v v2 : Value} (h : Blk W b 25 [.int .i64 x, .int .i64 y]) (hres : fn.results = #[.tmp t, .cell s 25, .tmp u])
  (ht : act.tmps.getD t undef = v2) (hs : act.tmps.getD s undef = .pointer (some ⟨b, 0, none⟩)) (hu : act.tmps.getD u undef = v) (hd : act.defers = []) (hR : R (.returned (.tuple #[v2, .agg #[.int .i64 x, .int .i64 y], v])) W) : bodyPost Tryz.prog fn R .ret act W := by
 have e0 := h.cell 0
 have e1 := h.cell 1
 simp only [List.getElem?_cons_zero, List.getElem?_cons_succ] at e0 e1
 have hs' : act.tmps[s]?.getD undef = .pointer (some ⟨b, 0, none⟩) := by rw [← hs]; simp
 have hu' : act.tmps[u]?.getD undef = v := by rw [← hu]; simp
 have ht' : act.tmps[t]?.getD undef = v2 := by rw [← ht]; simp
 refine bodyPost_ret (v := .tuple #[v2, .agg #[.int .i64 x, .int .i64 y], v]) ?_ hd hR
 simp [results, hres, go_sem, hs', hu', ht', e0, e1]
theorem de_drop {l : List De} {i : Nat} (h : i < l.length) : deDeep (l.drop i) = match St.deeps (l.getD i default).body 1 with | some p => some p | none => deDeep (l.drop (i + 1)) := by
 rw [List.drop_eq_getElem_cons h, deDeep, List.getD_eq_getElem?_getD, List.getElem?_eq_getElem h]
 cases hd : St.deeps l[i].body 1 <;> simp [hd]
theorem des_nil {ok : Nat → Prop} (w : World) : DesL ok w none [] := fun j hj => by cases hj
theorem lex_out2 (s : ByteArray) (w : World) (hE : ErrR w) : Calls Tryz.prog 34 #[.string s] w fun e w' =>
  ∃ a cap, e = .returned (.tuple #[.slice a (lexR s).1.length cap, .agg #[.int .i64 (lexR s).2.1.1, .int .i64 (lexR s).2.1.2], .int .i64 (lexR s).2.2]) ∧ LOut (lexR s).1 a cap w' ∧ Below w.heap.size w w' ∧ ∀ g o, a = some ⟨g, o, none⟩ → g < w'.heap.size := (lex_any s w hE).mono fun _ _ h => by
 obtain ⟨v, rfl, hown, hb⟩ := h
 have hw := wds_of hown
 have hlt := hown.lt
 rcases hown.2 with ⟨rfl, h0⟩ | ⟨g, cap, cur, rfl, _, _, h1, h2, _⟩
 ·exact ⟨none, 0, by rw [h0], ⟨hw, by omega, Nat.zero_le _⟩, hb, fun g o e => by cases e⟩
 ·exact ⟨some ⟨g, 0, none⟩, cap, rfl, ⟨hw, h1, h2⟩, hb, fun g' o e => by cases e; exact (hlt g rfl).2⟩
set_option maxRecDepth 100000 in
set_option maxHeartbeats 16000000 in
theorem parse_any (s : ByteArray) (w : World) (hE : ErrR w) (hO : Ops w) : Calls Tryz.prog 16 #[.string s] w (PaOk w (parseR s)) := by
 have hz0 := Blk.new w 25 [.int .i64 0, .int .i64 0]
 have hb0 : Below w.heap.size w (w.alloc (.cells #[.int .i64 0, .int .i64 0] 25)) := (Below.refl _ w).alloc (Nat.le_refl _) _
 have hs0 : (w.alloc (.cells #[.int .i64 0, .int .i64 0] 25)).heap.size = w.heap.size + 1 := by simp
 have hlx := lex_out2 s (w.alloc (.cells #[.int .i64 0, .int .i64 0] 25)) (hE.below hb0 (by have := hE.1; omega))
 have hlen := lexR_len s
 have hnum := num_bd s
 obtain ⟨RR, hRR⟩ : ∃ RR, parseR s = RR := ⟨_, rfl⟩
 rw [hRR]
 have hsz : (lexR s).2.2 = 0 → s.size ≤ 65536 := fun h => by
  unfold lexR at h
  split at h
  ·cases h
  ·omega
 unfold parseR at hRR
 obtain ⟨⟨T, ⟨px, py⟩, er⟩, hL⟩ : ∃ L, lexR s = L := ⟨_, rfl⟩
 rw [hL] at hlx hRR hlen hnum hsz
 dsimp only at hRR hlen hnum hsz
 have HL := Lib.hid hL
 clear hL
 go_enter Tryz.func16, Tryz.ntmps16
 go_wp2_with fail
 refine hlx.mono ?_
 rintro e W1 ⟨a1, cap1, rfl, hl1, hb1, ha1⟩
 dsimp only at hl1 ⊢
 have hz1 := hz0.below hb1
 have hbb1 := hb0.trans (hb1.mono hb0.size)
 have hs1 := hb1.size
 clear hz0 hb0 hb1 hlx
 by_cases he : er = 0
 ·subst he
  rw [if_pos rfl] at hRR
  obtain ⟨D, hD⟩ : ∃ D, pDs T (T.length + 1) [] 0 = some D := pDs_total T (T.length + 1) [] 0 (Nat.zero_le _) (by omega)
  rw [hD] at hRR
  have hs65 := hsz rfl
  have hz2 := hz1.alloc (.cells #[.int .i64 px, .int .i64 py] 25)
  have hb2 := hbb1.alloc hbb1.size (.cells #[.int .i64 px, .int .i64 py] 25)
  have ht2 := Blk.new W1 25 [.int .i64 px, .int .i64 py]
  have hl2 := hl1.below ((Below.refl _ W1).alloc (Nat.le_refl _) (.cells #[.int .i64 px, .int .i64 py] 25))
  have hs2 : (W1.alloc (.cells #[.int .i64 px, .int .i64 py] 25)).heap.size = W1.heap.size + 1 := by simp
  have hen := end_any s (W1.alloc (.cells #[.int .i64 px, .int .i64 py] 25)) (by omega)
  obtain ⟨⟨ex, ey⟩, hexy⟩ : ∃ p, posAt s s.size = p := ⟨_, rfl⟩
  rw [hexy] at hen hRR
  dsimp only at hen hRR
  have HRR := Lib.hid hRR
  clear hRR hexy hz1 hbb1 hl1
  go_wp2_with fail
  obtain ⟨q, hq⟩ : ∃ q, W1.heap.size = q := ⟨_, rfl⟩
  rw [hq] at ht2 hs1 hs2 ⊢
  change Blk (W1.alloc (.cells #[.int .i64 px, .int .i64 py] 25)) q 25 [.int .i64 px, .int .i64 py] at ht2
  generalize W1.alloc (.cells #[.int .i64 px, .int .i64 py] 25) = W2 at *
  refine hen.mono ?_
  rintro e W3 ⟨rfl, hb3⟩
  have hz3 := hz2.below hb3
  have ht3 := ht2.below hb3
  have hl3 := hl2.below hb3
  have hbb3 := hb2.trans (hb3.mono hb2.size)
  have hs3 := hb3.size
  clear hz2 ht2 hl2 hb2 hb3 hen
  go_wp2_with fail
  refine (kinds_any W3).mono ?_
  rintro e W4 ⟨g, rfl, hkm⟩
  have hb4 := hkm.blw
  obtain ⟨l, n, hg, hreads⟩ := hkm.reads
  have hgl := (Array.getElem?_eq_some_iff.1 hg).1
  have hz4 := hz3.below hb4
  have ht4 := ht3.below hb4
  have hl4 := hl3.below hb4
  have hbb4 := hbb3.trans (hb4.mono hbb3.size)
  have hs4 := hb4.size
  clear hz3 ht3 hl3 hbb3
  go_wp2_with fail
  have hb0' : W4.heap.size ≠ 0 := by omega
  have hRw : Rw (W4.alloc (.cells #[.slice a1 T.length cap1, .int .i64 0, .int .i64 ex, .int .i64 ey, .map (some g)] 79)) W4.heap.size ⟨a1, cap1, T, (ex, ey), .map (some g)⟩ 0 :=
   ⟨World.alloc_heap_new _ _, hl4.wds.alloc _, fun g' o e => by have := ha1 g' o e; omega, Nat.zero_le _, by dsimp only; omega⟩
  have hb5 : Below W4.heap.size W4 (W4.alloc (.cells #[.slice a1 T.length cap1, .int .i64 0, .int .i64 ex, .int .i64 ey, .map (some g)] 79)) := (Below.refl _ W4).alloc (Nat.le_refl _) _
  have hbb5 := hbb4.trans (hb5.mono hbb4.size)
  have hz5 := hz4.below hb5
  have ht5 := ht4.below hb5
  have hO5 := hO.below hbb5
  have hkd5 : Kds (W4.alloc (.cells #[.slice a1 T.length cap1, .int .i64 0, .int .i64 ex, .int .i64 ey, .map (some g)] 79)) W4.heap.size ⟨a1, cap1, T, (ex, ey), .map (some g)⟩ :=
   ⟨g, l, n, rfl, hgl, (hb5.block g hgl).trans hg, fun s => (hreads s).move (Nat.le_refl _) (fun c o u hc hu => by rw [← hu]; simp only [World.cell?]; rw [hb5.block c hc])⟩
  have hpr := program_any (S := ⟨a1, cap1, T, (ex, ey), .map (some g)⟩) hb0' hnum hRw hO5 hkd5 hD
  have hs5 : (W4.alloc (.cells #[.slice a1 T.length cap1, .int .i64 0, .int .i64 ex, .int .i64 ey, .map (some g)] 79)).heap.size = W4.heap.size + 1 := by simp
  clear hRw hO5 hkd5 hb5 hz4 ht4 hbb4 hb4 hkm hreads hg hl4
  obtain ⟨b, hb⟩ : ∃ b, W4.heap.size = b := ⟨_, rfl⟩
  rw [hb] at hpr hb0' hs5 hs4 hgl ⊢
  generalize W4.alloc (.cells #[.slice a1 T.length cap1, .int .i64 0, .int .i64 ex, .int .i64 ey, .map (some g)] 79) = W5 at *
  refine hpr.mono ?_
  rintro e W6 ⟨hk6, hr6⟩
  have hwb : w.heap.size < b := by omega
  have hqb : q ≠ b := by omega
  have hzb : w.heap.size ≠ b := by omega
  have hbb6 : Below w.heap.size w W6 := hk6.to_below hbb5 (by omega) (by omega) (by omega)
  have hz6 := hz5.kp hk6 hzb hzb
  have ht6 := ht5.kp hk6 hqb hqb
  have hs6 := hk6.size
  clear hpr hz5 ht5 hbb5 hk6
  have hqz : q ≠ w.heap.size := by omega
  have y0 := ht6.cell 0
  have y1 := ht6.cell 1
  have e0 := ht6.frozen 0
  have e1 := ht6.frozen 1
  rcases D with j | ⟨dl, j⟩
  ·obtain rfl := hr6
   have hRR := HRR.out
   dsimp only at hRR
   subst hRR
   dsimp only
   clear hD HRR
   have ht7 := (ht6.set1 0 (.int .i64 (nextW T (ex, ey) j).line)).set1 1 (.int .i64 (nextW T (ex, ey) j).col)
   have hz7 := (hz6.other (Ne.symm hqz) 0 (.int .i64 (nextW T (ex, ey) j).line)).other (Ne.symm hqz) 1 (.int .i64 (nextW T (ex, ey) j).col)
   have hbb7 := (hbb6.setCell (p := ⟨q, 0, none⟩) (by show w.heap.size ≤ q; omega) (.int .i64 (nextW T (ex, ey) j).line)).setCell (p := ⟨q, 1, none⟩) (by show w.heap.size ≤ q; omega) (.int .i64 (nextW T (ex, ey) j).col)
   have HX := Lib.hid (And.intro ht7 (And.intro hz7 hbb7))
   clear ht7 hz7 hbb7 ht6 hz6 hbb6
   go_wp2_with fail
   obtain ⟨ht7, hz7, hbb7⟩ := HX.out
   clear HX y0 y1 e0 e1
   change Blk ((W6.setCell ⟨q, 0, none⟩ (.int .i64 (nextW T (ex, ey) j).line)).setCell ⟨q, 1, none⟩ (.int .i64 (nextW T (ex, ey) j).col)) q 25 [.int .i64 (nextW T (ex, ey) j).line, .int .i64 (nextW T (ex, ey) j).col] at ht7
   generalize (W6.setCell ⟨q, 0, none⟩ (.int .i64 (nextW T (ex, ey) j).line)).setCell ⟨q, 1, none⟩ (.int .i64 (nextW T (ex, ey) j).col) = W7 at *
   have HZ := Lib.hid (And.intro ((hz7.set1 0 (.int .i64 (nextW T (ex, ey) j).line)).set1 1 (.int .i64 (nextW T (ex, ey) j).col)) ((hbb7.setCell (p := ⟨w.heap.size, 0, none⟩) (Nat.le_refl _) (.int .i64 (nextW T (ex, ey) j).line)).setCell (p := ⟨w.heap.size, 1, none⟩) (Nat.le_refl _) (.int .i64 (nextW T (ex, ey) j).col)))
   have y0 := ht7.cell 0
   have y1 := ht7.cell 1
   have z0 := hz7.cell 0
   have z1 := hz7.cell 1
   have g0 := hz7.frozen 0
   have g1 := hz7.frozen 1
   clear ht7 hz7 hbb7
   go_region
   go_wp2_with fail
   first
    | exact end_pa HZ.out.1 rfl rfl rfl rfl rfl ⟨HZ.out.2, none, 0, rfl, ⟨Nat.le_refl _, by decide⟩, des_nil _⟩
    | exact end_pa HZ.out.1.drew rfl rfl rfl rfl rfl ⟨below_drewN HZ.out.2 1, none, 0, rfl, ⟨Nat.le_refl _, by decide⟩, des_nil _⟩
  ·obtain ⟨a2, cap2, rfl, hroom, hdes⟩ := hr6
   have ht7 := (ht6.set1 0 (.int .i64 0)).set1 1 (.int .i64 0)
   have hz7 := (hz6.other (Ne.symm hqz) 0 (.int .i64 0)).other (Ne.symm hqz) 1 (.int .i64 0)
   have hbb7 := (hbb6.setCell (p := ⟨q, 0, none⟩) (by show w.heap.size ≤ q; omega) (.int .i64 0)).setCell (p := ⟨q, 1, none⟩) (by show w.heap.size ≤ q; omega) (.int .i64 0)
   have hds7 : DesL (fun c => w.heap.size + 1 ≤ c) ((W6.setCell ⟨q, 0, none⟩ (.int .i64 0)).setCell ⟨q, 1, none⟩ (.int .i64 0)) a2 dl := (hdes.keep (fun c o v hc hv => by
    have hc2 : W5.heap.size ≤ c := hc
    rw [← hv]
    simp only [World.cellU, World.cell?, World.frozen?]
    rw [Below.heap_setCell _ ⟨q, 1, none⟩ _ c (show c ≠ q by omega), Below.heap_setCell _ ⟨q, 0, none⟩ _ c (show c ≠ q by omega)])).weak (fun c hc => by have hc2 : W5.heap.size ≤ c := hc; show w.heap.size + 1 ≤ c; omega)
   have HX := Lib.hid (And.intro hz7 (And.intro hbb7 hds7))
   clear ht7 hz7 hbb7 ht6 hz6 hbb6 hdes hds7
   go_wp2_with fail
   obtain ⟨hz7, hbb7, hds7⟩ := HX.out
   clear HX y0 y1 e0 e1
   generalize (W6.setCell ⟨q, 0, none⟩ (.int .i64 0)).setCell ⟨q, 1, none⟩ (.int .i64 0) = W7 at *
   obtain ⟨M, hM⟩ : ∃ M, dl.length = M := ⟨_, rfl⟩
   rw [hM] at hroom ⊢
   have HM := Lib.hid hM
   have HE := Lib.hid (And.intro hz7 (And.intro hbb7 hds7))
   have hRR := HRR.out
   have HD : Hid ((match deDeep dl with | some p => ([], p, 121) | none => (dl, (0, 0), 0)) = RR) := Lib.hid hRR
   clear hM hz7 hbb7 hds7 hRR HRR hD
   go_loopg [43] M (fun x iv wr => ∃ i : Nat, i ≤ M ∧ x = M - i ∧ iv = .int .i64 (i : Int) ∧ Hid (Blk wr w.heap.size 25 [.int .i64 0, .int .i64 0] ∧ Below w.heap.size w wr ∧ DesL (fun c => w.heap.size + 1 ≤ c) wr a2 dl) ∧ Hid ((match deDeep (dl.drop i) with | some p => ([], p, 121) | none => (dl, (0, 0), 0)) = RR))
   case atStart => exact ⟨0, Nat.zero_le _, rfl, rfl, HE, HD⟩
   case round =>
    clear HE HD
    obtain ⟨i, hi, rfl, rfl, HE, HD⟩ := hrel
    obtain ⟨hz1, hb1, hds⟩ := HE.out
    by_cases hiM : i < M
    ·have hlt : (i : Int) < (M : Int) := by omega
     have hp0 : (0 : Int) ≤ (i : Int) := by omega
     have hroom2 : (i : Int) + 1 ≤ 9223372036854775807 := by
      have h1 := hroom.1
      have h2 := hroom.2
      omega
     obtain ⟨b2, off2, cs, rfl, -, hcs, hdl⟩ := hds i (by rw [HM.out]; exact hiM)
     obtain ⟨d, hd⟩ : ∃ d, dl.getD i default = d := ⟨_, rfl⟩
     rw [hd] at hdl
     obtain ⟨dk, dli, dco, dn, du, db⟩ := d
     obtain ⟨ab, capb, rfl, hrb, hsb⟩ := hdl
     have x0 := World.cellU_cell (hcs 0 _ rfl)
     have x1 := World.cellU_cell (hcs 1 _ rfl)
     have x2 := World.cellU_cell (hcs 2 _ rfl)
     have x3 := World.cellU_cell (hcs 3 _ rfl)
     have x4 := World.cellU_cell (hcs 4 _ rfl)
     have x5 := World.cellU_cell (hcs 5 _ rfl)
     dsimp only [Nat.add_zero] at x0 x1 x2 x3 x4 x5
     have hsl : SlAt wr ab capb db := ⟨hrb, StsL.weak (fun _ _ => trivial) hsb⟩
     have hba : Below wr.heap.size wr (wr.alloc (.cells #[.int .i64 dk, .int .i64 dli, .int .i64 dco, .string dn, .int .i64 du, .slice ab db.length capb] 55)) := (Below.refl _ wr).alloc (Nat.le_refl _) _
     have hdp := deep_any 24 1 (by decide) db ab capb _ (hsl.below hba)
     have hz2 := hz1.below hba
     have hb2 := hb1.trans (hba.mono hb1.size)
     have hds2 : DesL (fun c => w.heap.size + 1 ≤ c) (wr.alloc (.cells #[.int .i64 dk, .int .i64 dli, .int .i64 dco, .string dn, .int .i64 du, .slice ab db.length capb] 55)) (some ⟨b2, off2, none⟩) dl := hds.keep (fun c o v _ hv => by rw [← hv]; simp only [World.cellU, World.cell?, World.frozen?]; rw [hba.block c (World.block_lt_of_cellU wr hv)])
     have HX := Lib.hid (And.intro hz2 (And.intro hb2 hds2))
     clear hz1 hb1 hds hcs hsb hsl hba hz2 hb2 hds2
     go_wp2_with fail
     obtain ⟨hz2, hb2, hds2⟩ := HX.out
     clear HX x0 x1 x2 x3 x4 x5
     generalize wr.alloc (.cells #[.int .i64 dk, .int .i64 dli, .int .i64 dco, .string dn, .int .i64 du, .slice ab db.length capb] 55) = W8 at *
     refine hdp.mono ?_
     rintro e W9 ⟨hb9, rfl⟩
     have hz9 := hz2.below hb9
     have hbb9 := hb2.trans (hb9.mono hb2.size)
     have hds9 : DesL (fun c => w.heap.size + 1 ≤ c) W9 (some ⟨b2, off2, none⟩) dl := hds2.keep (fun c o v _ hv => by rw [← hv]; simp only [World.cellU, World.cell?, World.frozen?]; rw [hb9.block c (World.block_lt_of_cellU W8 hv)])
     clear hz2 hb2 hds2 hb9 hdp
     have hD := HD.out
     have hde : deDeep (dl.drop i) = match St.deeps db 1 with | some p => some p | none => deDeep (dl.drop (i + 1)) := by
      rw [de_drop (by rw [HM.out]; exact hiM), hd]
     rw [hde] at hD
     have hw9 : w.heap.size < W9.heap.size := hz9.lt
     rcases hdd : St.deeps db 1 with _ | ⟨pl, pc⟩
     ·rw [hdd] at hD
      unfold deepV
      have hba : Below W9.heap.size W9 (W9.alloc (.cells #[.int .i64 0, .int .i64 0] 25)) := (Below.refl _ W9).alloc (Nat.le_refl _) _
      have hds10 : DesL (fun c => w.heap.size + 1 ≤ c) (W9.alloc (.cells #[.int .i64 0, .int .i64 0] 25)) (some ⟨b2, off2, none⟩) dl := hds9.keep (fun c o v _ hv => by rw [← hv]; simp only [World.cellU, World.cell?, World.frozen?]; rw [hba.block c (World.block_lt_of_cellU W9 hv)])
      have HE10 := Lib.hid (And.intro (hz9.below hba) (And.intro (hbb9.trans (hba.mono hbb9.size)) hds10))
      have HD10 : Hid ((match deDeep (dl.drop (i + 1)) with | some p => ([], p, 121) | none => (dl, (0, 0), 0)) = RR) := Lib.hid hD
      clear hz9 hbb9 hds9 hba hds10 hD hde hdd HE HD
      go_wp2_with fail
      go_roundg (M - (i + 1))
      case measure => omega
      case rel => exact ⟨i + 1, by omega, rfl, rfl, HE10, HD10⟩
     ·rw [hdd] at hD
      dsimp only at hD
      subst hD
      unfold deepV
      have hz10 := hz9.alloc (.cells #[.int .i64 pl, .int .i64 pc] 25)
      have hbb10 := hbb9.alloc hbb9.size (.cells #[.int .i64 pl, .int .i64 pc] 25)
      have ht10 := Blk.new W9 25 [.int .i64 pl, .int .i64 pc]
      have HX := Lib.hid (And.intro hz10 (And.intro hbb10 ht10))
      clear hz10 hbb10 ht10 hz9 hbb9 hds9 hde hdd HE HD
      go_upto_region 13 with fail
      obtain ⟨hz10, hbb10, ht10⟩ := HX.out
      clear HX
      obtain ⟨q9, hq9⟩ : ∃ q9, W9.heap.size = q9 := ⟨_, rfl⟩
      rw [hq9] at ht10 hw9 ⊢
      change Blk (W9.alloc (.cells #[.int .i64 pl, .int .i64 pc] 25)) q9 25 [.int .i64 pl, .int .i64 pc] at ht10
      generalize W9.alloc (.cells #[.int .i64 pl, .int .i64 pc] 25) = W10 at *
      have hqz9 : q9 ≠ w.heap.size := by omega
      have HZ := Lib.hid (And.intro ((hz10.set1 0 (.int .i64 pl)).set1 1 (.int .i64 pc)) ((hbb10.setCell (p := ⟨w.heap.size, 0, none⟩) (Nat.le_refl _) (.int .i64 pl)).setCell (p := ⟨w.heap.size, 1, none⟩) (Nat.le_refl _) (.int .i64 pc)))
      have y0 := ht10.cell 0
      have y1 := ht10.cell 1
      have z0 := hz10.cell 0
      have z1 := hz10.cell 1
      have g0 := hz10.frozen 0
      have g1 := hz10.frozen 1
      clear hz10 hbb10 ht10
      go_region
      go_wp2_with fail
      first
       | exact end_pa HZ.out.1 rfl rfl rfl rfl rfl ⟨HZ.out.2, none, 0, rfl, ⟨Nat.le_refl _, by decide⟩, des_nil _⟩
       | exact end_pa HZ.out.1.drew rfl rfl rfl rfl rfl ⟨below_drewN HZ.out.2 1, none, 0, rfl, ⟨Nat.le_refl _, by decide⟩, des_nil _⟩
    ·obtain rfl : i = M := by omega
     have hlt : ¬ (i : Int) < (i : Int) := by omega
     have hD := HD.out
     rw [List.drop_eq_nil_of_le (by rw [HM.out]; exact Nat.le_refl _)] at hD
     dsimp only [deDeep] at hD
     subst hD
     have HZ := Lib.hid (And.intro ((hz1.set1 0 (.int .i64 0)).set1 1 (.int .i64 0)) (And.intro ((hb1.setCell (p := ⟨w.heap.size, 0, none⟩) (Nat.le_refl _) (.int .i64 0)).setCell (p := ⟨w.heap.size, 1, none⟩) (Nat.le_refl _) (.int .i64 0)) hds))
     have z0 := hz1.cell 0
     have z1 := hz1.cell 1
     have g0 := hz1.frozen 0
     have g1 := hz1.frozen 1
     clear hz1 hb1 hds
     go_wp2_with fail
     refine end_pa HZ.out.1 rfl rfl rfl rfl rfl ⟨HZ.out.2.1, a2, cap2, ?_, ?_, ?_⟩
     ·dsimp only
      rw [HM.out]
      rfl
     ·dsimp only
      rw [HM.out]
      exact hroom
     ·dsimp only
      refine (HZ.out.2.2.keep (fun c o v hc hv => ?_)).weak (fun c hc => (by have hc2 : w.heap.size + 1 ≤ c := hc; omega : w.heap.size ≤ c))
      have hc2 : w.heap.size + 1 ≤ c := hc
      rw [← hv]
      simp only [World.cellU, World.cell?, World.frozen?]
      rw [Below.heap_setCell _ ⟨w.heap.size, 1, none⟩ _ c (show c ≠ w.heap.size by omega), Below.heap_setCell _ ⟨w.heap.size, 0, none⟩ _ c (show c ≠ w.heap.size by omega)]
 ·rw [if_neg he] at hRR
  have he' : (er != 0) = true := by simpa using he
  subst hRR
  have hz2 := hz1.alloc (.cells #[.int .i64 px, .int .i64 py] 25)
  have hb2 := hbb1.alloc hbb1.size (.cells #[.int .i64 px, .int .i64 py] 25)
  have ht2 := Blk.new W1 25 [.int .i64 px, .int .i64 py]
  have HZ := Lib.hid (And.intro ((hz2.set1 0 (.int .i64 px)).set1 1 (.int .i64 py)) ((hb2.setCell (p := ⟨w.heap.size, 0, none⟩) (Nat.le_refl _) (.int .i64 px)).setCell (p := ⟨w.heap.size, 1, none⟩) (Nat.le_refl _) (.int .i64 py)))
  have HX := Lib.hid (And.intro hz2 ht2)
  clear hz2 hb2 ht2 hz1 hbb1 hl1
  go_wp2_with fail
  obtain ⟨hz2, ht2⟩ := HX.out
  obtain ⟨q, hq⟩ : ∃ q, W1.heap.size = q := ⟨_, rfl⟩
  rw [hq] at ht2 hs1 ⊢
  change Blk (W1.alloc (.cells #[.int .i64 px, .int .i64 py] 25)) q 25 [.int .i64 px, .int .i64 py] at ht2
  clear HX
  generalize W1.alloc (.cells #[.int .i64 px, .int .i64 py] 25) = W2 at *
  have hne : q ≠ w.heap.size := by omega
  have y0 := ht2.cell 0
  have y1 := ht2.cell 1
  have z0 := hz2.cell 0
  have z1 := hz2.cell 1
  have g0 := hz2.frozen 0
  have g1 := hz2.frozen 1
  clear hz2 ht2
  go_region
  go_wp2_with fail
  first
   | exact end_pa HZ.out.1 rfl rfl rfl rfl rfl ⟨HZ.out.2, none, 0, rfl, ⟨Nat.le_refl _, by decide⟩, des_nil _⟩
   | exact end_pa HZ.out.1.drew rfl rfl rfl rfl rfl ⟨below_drewN HZ.out.2 1, none, 0, rfl, ⟨Nat.le_refl _, by decide⟩, des_nil _⟩
end Go.Proofs.YtjmlmelcppbefaaGreatDoor
