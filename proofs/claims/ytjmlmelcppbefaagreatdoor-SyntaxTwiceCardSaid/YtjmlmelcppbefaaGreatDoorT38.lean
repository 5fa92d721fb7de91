/- What the syntax texts share, part 38. No condition. -/
import Derived.Test.YtjmlmelcppbefaaGreatDoorT22
import Derived.Test.YtjmlmelcppbefaaGreatDoorT30
import Derived.Test.YtjmlmelcppbefaaGreatDoorT35
import Derived.Test.YtjmlmelcppbefaaGreatDoorT37
set_option maxRecDepth 100000
namespace Go.Proofs.YtjmlmelcppbefaaGreatDoor
open Go.RowKit Go.Maps
theorem rlex_out2 (s : ByteArray) (w : World) : Calls Tryz.prog 39 #[.string s] w fun e w' =>
  ∃ a cap, e = .returned (.tuple #[.slice a (lexR s).1.length cap, .agg #[.int .i64 (lexR s).2.1.1, .int .i64 (lexR s).2.1.2], .int .i64 (lexR s).2.2]) ∧ LOut (lexR s).1 a cap w' ∧ Below w.heap.size w w' ∧ ∀ g o, a = some ⟨g, o, none⟩ → g < w'.heap.size := (rlex_any s w).mono fun _ _ h => by
 obtain ⟨v, rfl, hown, hb⟩ := h
 have hw := wds_of hown
 have hlt := hown.lt
 rcases hown.2 with ⟨rfl, h0⟩ | ⟨g, cap, cur, rfl, _, _, h1, h2, _⟩
 ·exact ⟨none, 0, by rw [h0], ⟨hw, by omega, Nat.zero_le _⟩, hb, fun g o e => by cases e⟩
 ·exact ⟨some ⟨g, 0, none⟩, cap, rfl, ⟨hw, h1, h2⟩, hb, fun g' o e => by cases e; exact (hlt g rfl).2⟩
def RestD (T : List Wd) (D : Except Nat (List De × Nat)) (g : Nat) (acc : List De) (j : Nat) (bd : Bool) : Prop := if bd = true then D = .error j else pDs T g acc j = some D
theorem RestD.next {T : List Wd} {D : Except Nat (List De × Nat)} {g j j2 : Nat} {acc : List De} {d : De} {bd2 : Bool} (h : RestD T D (g + 1) acc j false) (hj : j < T.length) (ho : Out false j (pD T j) d j2 bd2) : RestD T D g (acc ++ [d]) j2 bd2 := by
 unfold RestD at h ⊢
 rw [if_neg Bool.false_ne_true, pDs, if_pos hj] at h
 rcases ho with ⟨h1, -⟩ | ⟨-, rfl, h2⟩ | ⟨-, rfl, h2⟩
 ·cases h1
 ·rw [h2, andT_ok] at h
  rw [if_neg Bool.false_ne_true]
  exact h
 ·rw [h2, andT_err] at h
  rw [if_pos rfl]
  cases h
  rfl
theorem RestD.pos {T : List Wd} {D : Except Nat (List De × Nat)} {g j : Nat} {acc : List De} (h : RestD T D g acc j false) : ∃ g', g = g' + 1 := by
 unfold RestD at h
 rw [if_neg Bool.false_ne_true] at h
 cases g with
 | zero => simp [pDs] at h
 | succ g => exact ⟨g, rfl⟩
theorem RestD.stop {T : List Wd} {D : Except Nat (List De × Nat)} {g j : Nat} {acc : List De} (h : RestD T D g acc j false) (hj : ¬ j < T.length) : D = .ok (acc, j) := by
 obtain ⟨g', rfl⟩ := h.pos
 unfold RestD at h
 rw [if_neg Bool.false_ne_true, pDs, if_neg hj] at h
 cases h
 rfl
set_option maxHeartbeats 16000000 in
theorem rparse_any (s : ByteArray) (w : World) : Calls Tryz.prog 17 #[.string s] w (PaOk w (parseR s)) := by
 obtain ⟨i0, z0, hi0, hz0', hsz0', hzc0, hby0⟩ := info_el infoDe
 have hz0 := Blk.new w 25 [.int .i64 0, .int .i64 0]
 have hb0 : Below w.heap.size w (w.alloc (.cells #[.int .i64 0, .int .i64 0] 25)) := (Below.refl _ w).alloc (Nat.le_refl _) _
 have hs0 : (w.alloc (.cells #[.int .i64 0, .int .i64 0] 25)).heap.size = w.heap.size + 1 := by simp
 have hlx := rlex_out2 s (w.alloc (.cells #[.int .i64 0, .int .i64 0] 25))
 have hlen := lexR_len s
 have hnum := num_bd s
 have hk4 := lexR_k4 s
 have hk3 := lexR_k3 s
 have hk5 := lexR_k5 s
 obtain ⟨RR, hRR⟩ : ∃ RR, parseR s = RR := ⟨_, rfl⟩
 rw [hRR]
 have hsz : (lexR s).2.2 = 0 → s.size ≤ 65536 := fun h => by
  unfold lexR at h
  split at h
  ·cases h
  ·omega
 unfold parseR at hRR
 obtain ⟨⟨T, ⟨px, py⟩, er⟩, hL⟩ : ∃ L, lexR s = L := ⟨_, rfl⟩
 rw [hL] at hlx hRR hlen hnum hsz hk4 hk3 hk5
 dsimp only at hRR hlen hnum hsz hk4 hk3 hk5
 have HL := Lib.hid hL
 have HK := Lib.hid (And.intro hk4 (And.intro hk3 hk5))
 have HNM := Lib.hid hnum
 clear hL hk4 hk3 hk5 hnum
 go_enter Tryz.func17, Tryz.ntmps17
 go_wp2_with fail
 refine hlx.mono ?_
 rintro e W1 ⟨a1, cap1, rfl, hl1, hb1, ha1⟩
 dsimp only at hl1 ⊢
 have hz1 := hz0.below hb1
 have hbb1 := hb0.trans (hb1.mono hb0.size)
 have hs1 := hb1.size
 clear hz0 hb0 hb1 hlx
 by_cases he : er = 0
 ·subst he
  rw [if_pos rfl] at hRR
  obtain ⟨D, hD⟩ : ∃ D, pDs T (T.length + 1) [] 0 = some D := pDs_total T (T.length + 1) [] 0 (Nat.zero_le _) (by omega)
  rw [hD] at hRR
  have hs65 := hsz rfl
  have hz2 := hz1.alloc (.cells #[.int .i64 px, .int .i64 py] 25)
  have hb2 := hbb1.alloc hbb1.size (.cells #[.int .i64 px, .int .i64 py] 25)
  have hl2 := hl1.below ((Below.refl _ W1).alloc (Nat.le_refl _) (.cells #[.int .i64 px, .int .i64 py] 25))
  have hs2 : (W1.alloc (.cells #[.int .i64 px, .int .i64 py] 25)).heap.size = W1.heap.size + 1 := by simp
  have HRR := Lib.hid hRR
  clear hRR hz1 hbb1 hl1
  have HX := Lib.hid (And.intro hz2 (And.intro hb2 hl2))
  clear hz2 hb2 hl2
  go_upto_region 4 with fail
  obtain ⟨hz2, hb2, hl2⟩ := HX.out
  clear HX
  generalize W1.alloc (.cells #[.int .i64 px, .int .i64 py] 25) = W2 at *
  have hb3 : Below W2.heap.size W2 (W2.alloc (.cells #[.slice a1 T.length cap1, .int .i64 0, .bool false] 87)) := (Below.refl _ W2).alloc (Nat.le_refl _) _
  have hl3 := hl2.below hb3
  have hz3 := hz2.below hb3
  have hbb3 := hb2.trans (hb3.mono hb2.size)
  have hDr : Dr (W2.alloc (.cells #[.slice a1 T.length cap1, .int .i64 0, .bool false] 87)) W2.heap.size ⟨a1, cap1, T, (0, 0), .map none⟩ 0 false :=
   ⟨Blk.new W2 87 _, hl3.wds, fun g' o e => by have := ha1 g' o e; omega, Nat.zero_le _, by dsimp only; omega, HK.out.1, HK.out.2.1, HK.out.2.2⟩
  have hs3 : (W2.alloc (.cells #[.slice a1 T.length cap1, .int .i64 0, .bool false] 87)).heap.size = W2.heap.size + 1 := by simp
  have HX := Lib.hid (And.intro hz3 (And.intro hbb3 hDr))
  clear hl3 hz3 hbb3 hDr hb3 hz2 hb2 hl2
  go_wp2_with fail
  obtain ⟨hz3, hbb3, hDr⟩ := HX.out
  clear HX
  obtain ⟨b, hb⟩ : ∃ b, W1.heap.size + 1 = b := ⟨_, rfl⟩
  rw [hs2] at hs3 hDr
  rw [hb] at hDr hs3 ⊢
  generalize W2.alloc (.cells #[.slice a1 T.length cap1, .int .i64 0, .bool false] 87) = W3 at *
  have HF := Lib.hid (And.intro hz3 hbb3)
  have HE := Lib.hid (And.intro hDr (Kp.refl W3 b b))
  have HD3 := Lib.hid hDr
  have HR : Hid (RestD T D (T.length + 1) [] 0 false) := Lib.hid hD
  have HD0 := Lib.hid hD
  have hwb : w.heap.size + 2 ≤ b := by omega
  have hTm : T.length ≤ 65536 := by omega
  clear hDr hz3 hbb3 hD hs0 hs1 hs2 hb
  go_loopg [9] (T.length + 1) (fun x v wr => ∃ (g : Nat) (acc : List De) (j : Nat) (bd : Bool), (x = if bd = true then 0 else g) ∧ (bd = false → acc.length ≤ j) ∧ acc.length ≤ T.length ∧ Hid (RestD T D g acc j bd) ∧ Hid (Grow elDe (b + 1) wr v acc) ∧ Hid (Dr wr b ⟨a1, cap1, T, (0, 0), .map none⟩ j bd ∧ Kp W3 wr b b))
  case atStart => exact ⟨_, [], 0, false, rfl, fun _ => by simp, by simp, HR, Lib.hid (Grow.nil _ _ _), HE⟩
  case round =>
   clear HR HE
   obtain ⟨g0, acc, j, bd, hgk, hai, haT, HR, HG, HE⟩ := hrel
   obtain ⟨a, cap, rfl, hcap⟩ := HG.out.form
   have c0 := HE.out.1.c0
   have c1 := HE.out.1.c1
   have c2 := HE.out.1.c2
   dsimp only at c0
   cases bd
   ·have hai2 := hai rfl
    by_cases hj : j < T.length
    ·obtain ⟨g, rfl⟩ := HR.out.pos
     have hjj : (j : Int) < (T.length : Int) := by omega
     have hN : ∀ (x : Int) {i : Nat}, x = (T.getD i default).num → 0 ≤ x ∧ x ≤ 2147483647 := fun x i e => by rw [e]; exact HNM.out i
     have hcl := rdecl_any (S := ⟨a1, cap1, T, (0, 0), .map none⟩) hN HE.out.1
     go_wp2_with fail
     refine hcl.mono ?_
     rintro e W5 ⟨hk5, cs, d, j2, bd2, rfl, hL, hO5, h5⟩
     have hl := hL.cells.1
     have hs5 := hk5.size
     have hbw := HE.out.1.lt
     have hG5 : Grow elDe (b + 1) W5 (.slice a acc.length cap) acc := HG.out.kp hk5 (by omega) (by omega)
     have hbk : (Value.slice a acc.length cap).ownBlock = none ∨ ∃ g, (Value.slice a acc.length cap).ownBlock = some g ∧ g < wr.heap.size := by
      obtain ⟨cells, -, h6, -⟩ := HG.out.own
      rcases ho : (Value.slice a acc.length cap).ownBlock with _ | g
      ·exact .inl rfl
      ·exact .inr ⟨g, rfl, (h6.lt g ho).2⟩
     have HL2 := Lib.hid (show elDe.L (fun c => b + 1 ≤ c ∧ (Value.slice a acc.length cap).ownBlock ≠ some c) W5 cs d from DeL.weak (fun c hc => by
      have hc2 : wr.heap.size ≤ c := hc
      refine ⟨by omega, fun e => ?_⟩
      rcases hbk with h6 | ⟨g, h6, h7⟩
      ·rw [h6] at e
       cases e
      ·rw [h6] at e
       cases e
       omega) hL)
     have hjb : bd2 = false → j < j2 := fun e => by
      subst e
      exact (pD_adv T HE.out.1.le hO5.good.2).1
     have HR5 := Lib.hid (HR.out.next hj hO5)
     have HE5 := Lib.hid (And.intro h5 (HE.out.2.trans hk5))
     have HJ := Lib.hid hjb
     have hG6 := Lib.hid hG5
     have hst := fold_cells #[.int .i64 0, .int .i64 0, .int .i64 0, .string ⟨#[]⟩, .int .i64 0, .slice none 0 0] cs (by rw [hl]; rfl)
     have ht23 : Tryz.prog.underlying 23 = some (.slice 55) := by kernel_rfl
     have hacc : acc.length ≤ 10000000 := by omega
     have hwB : b + 1 ≤ W5.heap.size := by omega
     clear hL hk5 hcl hbk hO5 h5 HR HG HE hjb hG5 c0 c1 c2
     go_wp2_with (at_builtin; refine wpList_append_grow elDe rfl (.tmp 40) (.tmp 43) 23 rfl i0 z0 _ ht23 hi0 hz0' hsz0' rfl hzc0 (by decide) hby0 (b + 1) W5 _ (.slice a acc.length cap) acc rfl hG6 cs d HL2 rfl rfl hacc hwB ?_; intro gb gcap W6 hG7 hW6 hlt6)
     go_roundg (if bd2 = true then 0 else g)
     case measure =>
      rw [hgk, if_neg Bool.false_ne_true]
      split <;> omega
     case rel =>
      obtain ⟨h5, hK5⟩ := HE5.out
      have hb6 : Below (b + 1) W5 W6 := hW6.out
      have hbn : b < W5.heap.size := h5.lt
      refine ⟨g, acc ++ [d], j2, bd2, rfl, fun e => ?_, ?_, HR5, hG7, Lib.hid (And.intro ?_ ?_)⟩
      ·have := HJ.out e
       simp
       omega
      ·simp
       omega
      ·exact HD3.out.fin h5 (hK5.to hb6 (by omega)) (hb6.block b (Nat.lt_succ_self b))
      ·exact hK5.to hb6 (by omega)
    ·have hjj : ¬ (j : Int) < (T.length : Int) := by omega
     have hDe := HR.out.stop hj
     have hRR := HRR.out
     rw [hDe] at hRR
     have HR9 : Hid ((match deDeep acc with | some p => ([], p, 121) | none => (acc, (0, 0), 0)) = RR) := Lib.hid hRR
     have hbb9 : Below w.heap.size w wr := HE.out.2.to_below HF.out.2 (by omega) (by omega) (by omega)
     have hz9 : Blk wr w.heap.size 25 [.int .i64 0, .int .i64 0] := HF.out.1.kp HE.out.2 (by omega) (by omega)
     have hds9 := HG.out.des
     have hxb : ∀ d ∈ acc, St.xbs (T.length + 1) d.body := by
      refine pDs_xb T (T.length + 1) [] 0 acc j (Nat.zero_le _) (fun d hd => by cases hd) ?_
      rw [← hDe]
      exact HD0.out
     have HXB := Lib.hid hxb
     have hds10 : DesL (fun c => w.heap.size + 1 ≤ c) wr a acc := hds9.weak (fun c hc => by have hc2 : b + 1 ≤ c := hc; show w.heap.size + 1 ≤ c; omega)
     obtain ⟨M, hM⟩ : ∃ M, acc.length = M := ⟨_, rfl⟩
     rw [hM] at haT hcap
     have HM := Lib.hid hM
     have HE9 := Lib.hid (And.intro hz9 (And.intro hbb9 hds10))
     clear hDe hRR HRR hxb HG HE HR hai hds9 hds10 hz9 hbb9 hai2
     go_wp2_with fail
     clear hM
     go_loopg [10] M (fun x iv wr => ∃ i : Nat, i ≤ M ∧ x = M - i ∧ iv = .int .i64 (i : Int) ∧ Hid (Blk wr w.heap.size 25 [.int .i64 0, .int .i64 0] ∧ Below w.heap.size w wr ∧ DesL (fun c => w.heap.size + 1 ≤ c) wr a acc) ∧ Hid ((match deDeep (acc.drop i) with | some p => ([], p, 121) | none => (acc, (0, 0), 0)) = RR))
     case atStart => exact ⟨0, Nat.zero_le _, rfl, rfl, HE9, HR9⟩
     case round =>
      clear HE9 HR9 c0 c1 c2 hjj
      obtain ⟨i, hi, rfl, rfl, HE, HD⟩ := hrel
      obtain ⟨hz1, hb1, hds⟩ := HE.out
      by_cases hiM : i < M
      ·have hlt : (i : Int) < (M : Int) := by omega
       have hp0 : (0 : Int) ≤ (i : Int) := by omega
       have hroom2 : (i : Int) + 1 ≤ 9223372036854775807 := by omega
       obtain ⟨b2, off2, cs, rfl, -, hcs, hdl⟩ := hds i (by rw [HM.out]; exact hiM)
       have hmem : acc.getD i default ∈ acc := by
        rw [List.getD_eq_getElem?_getD, List.getElem?_eq_getElem (by rw [HM.out]; exact hiM)]
        exact List.getElem_mem _
       have hxd := HXB.out _ hmem
       obtain ⟨d, hd⟩ : ∃ d, acc.getD i default = d := ⟨_, rfl⟩
       rw [hd] at hdl hxd
       obtain ⟨dk, dli, dco, dn, du, db⟩ := d
       obtain ⟨ab, capb, rfl, hrb, hsb⟩ := hdl
       dsimp only at hxd
       have x5 := hcs 5 _ rfl
       have hsl : SlAt wr ab capb db := ⟨hrb, StsL.weak (fun _ _ => trivial) hsb⟩
       have hdp := rdeep_any (M := T.length + 1) (by omega) 24 1 (by decide) db ab capb _ hsl hxd
       have HX := Lib.hid (And.intro hz1 (And.intro hb1 hds))
       clear hz1 hb1 hds hcs hsb hsl hmem hxd
       go_wp2_with fail
       obtain ⟨hz2, hb2, hds2⟩ := HX.out
       clear HX x5
       refine hdp.mono ?_
       rintro e W9 ⟨hb9, rfl⟩
       have hz9 := hz2.below hb9
       have hbb9 := hb2.trans (hb9.mono hb2.size)
       have hds9 : DesL (fun c => w.heap.size + 1 ≤ c) W9 (some ⟨b2, off2, none⟩) acc := hds2.keep (fun c o v _ hv => by rw [← hv]; simp only [World.cell?]; rw [hb9.block c (World.block_lt_of_cell? _ _ hv)])
       clear hz2 hb2 hds2 hb9 hdp
       have hD := HD.out
       have hde : deDeep (acc.drop i) = match St.deeps db 1 with | some p => some p | none => deDeep (acc.drop (i + 1)) := by
        rw [de_drop (by rw [HM.out]; exact hiM), hd]
        rfl
       rw [hde] at hD
       have hw9 : w.heap.size < W9.heap.size := hz9.lt
       rcases hdd : St.deeps db 1 with _ | ⟨pl, pc⟩
       ·rw [hdd] at hD
        unfold deepV
        have hba : Below W9.heap.size W9 (W9.alloc (.cells #[.int .i64 0, .int .i64 0] 25)) := (Below.refl _ W9).alloc (Nat.le_refl _) _
        have hds10 : DesL (fun c => w.heap.size + 1 ≤ c) (W9.alloc (.cells #[.int .i64 0, .int .i64 0] 25)) (some ⟨b2, off2, none⟩) acc := hds9.keep (fun c o v _ hv => by rw [← hv]; simp only [World.cell?]; rw [hba.block c (World.block_lt_of_cell? _ _ hv)])
        have HE10 := Lib.hid (And.intro (hz9.below hba) (And.intro (hbb9.trans (hba.mono hbb9.size)) hds10))
        have HD10 : Hid ((match deDeep (acc.drop (i + 1)) with | some p => ([], p, 121) | none => (acc, (0, 0), 0)) = RR) := Lib.hid hD
        clear hz9 hbb9 hds9 hba hds10 hD hde hdd HE HD hd
        go_wp2_with fail
        go_roundg (M - (i + 1))
        case measure => omega
        case rel => exact ⟨i + 1, by omega, rfl, rfl, HE10, HD10⟩
       ·rw [hdd] at hD
        dsimp only at hD
        subst hD
        unfold deepV
        have hz10 := hz9.alloc (.cells #[.int .i64 pl, .int .i64 pc] 25)
        have hbb10 := hbb9.alloc hbb9.size (.cells #[.int .i64 pl, .int .i64 pc] 25)
        have ht10 := Blk.new W9 25 [.int .i64 pl, .int .i64 pc]
        have HX := Lib.hid (And.intro hz10 (And.intro hbb10 ht10))
        clear hz10 hbb10 ht10 hz9 hbb9 hds9 hde hdd HE HD
        go_upto_region 17 with fail
        obtain ⟨hz10, hbb10, ht10⟩ := HX.out
        clear HX
        obtain ⟨q9, hq9⟩ : ∃ q9, W9.heap.size = q9 := ⟨_, rfl⟩
        rw [hq9] at ht10 hw9 ⊢
        change Blk (W9.alloc (.cells #[.int .i64 pl, .int .i64 pc] 25)) q9 25 [.int .i64 pl, .int .i64 pc] at ht10
        generalize W9.alloc (.cells #[.int .i64 pl, .int .i64 pc] 25) = W10 at *
        have hqz9 : q9 ≠ w.heap.size := by omega
        have HZ := Lib.hid (And.intro ((hz10.set1 0 (.int .i64 pl)).set1 1 (.int .i64 pc)) ((hbb10.setCell (p := ⟨w.heap.size, 0, none⟩) (Nat.le_refl _) (.int .i64 pl)).setCell (p := ⟨w.heap.size, 1, none⟩) (Nat.le_refl _) (.int .i64 pc)))
        have y0 := ht10.cell 0
        have y1 := ht10.cell 1
        have z0 := hz10.cell 0
        have z1 := hz10.cell 1
        have g0 := hz10.frozen 0
        have g1 := hz10.frozen 1
        clear hz10 hbb10 ht10
        go_region
        go_wp2_with fail
        first
         | exact end_pa HZ.out.1 rfl rfl rfl rfl rfl ⟨HZ.out.2, none, 0, rfl, ⟨Nat.le_refl _, by decide⟩, des_nil _⟩
         | exact end_pa HZ.out.1.drew rfl rfl rfl rfl rfl ⟨below_drewN HZ.out.2 1, none, 0, rfl, ⟨Nat.le_refl _, by decide⟩, des_nil _⟩
      ·obtain rfl : i = M := by omega
       have hlt : ¬ (i : Int) < (i : Int) := by omega
       have hD := HD.out
       rw [List.drop_eq_nil_of_le (by rw [HM.out]; exact Nat.le_refl _)] at hD
       dsimp only [deDeep] at hD
       subst hD
       have HZ := Lib.hid (And.intro ((hz1.set1 0 (.int .i64 0)).set1 1 (.int .i64 0)) (And.intro ((hb1.setCell (p := ⟨w.heap.size, 0, none⟩) (Nat.le_refl _) (.int .i64 0)).setCell (p := ⟨w.heap.size, 1, none⟩) (Nat.le_refl _) (.int .i64 0)) hds))
       have z0 := hz1.cell 0
       have z1 := hz1.cell 1
       have g0 := hz1.frozen 0
       have g1 := hz1.frozen 1
       clear hz1 hb1 hds
       go_wp2_with fail
       refine end_pa HZ.out.1 rfl rfl rfl rfl rfl ⟨HZ.out.2.1, a, cap, ?_, ?_, ?_⟩
       ·dsimp only
        rw [HM.out]
        rfl
       ·dsimp only
        rw [HM.out]
        exact hcap
       ·dsimp only
        refine (HZ.out.2.2.keep (fun c o v hc hv => ?_)).weak (fun c hc => (by have hc2 : w.heap.size + 1 ≤ c := hc; omega : w.heap.size ≤ c))
        have hc2 : w.heap.size + 1 ≤ c := hc
        rw [← hv]
        simp only [World.cell?]
        rw [Below.heap_setCell _ ⟨w.heap.size, 1, none⟩ _ c (show c ≠ w.heap.size by omega), Below.heap_setCell _ ⟨w.heap.size, 0, none⟩ _ c (show c ≠ w.heap.size by omega)]
   ·have hDe : D = .error j := by
     have := HR.out
     unfold RestD at this
     rwa [if_pos rfl] at this
    have hRR := HRR.out
    rw [hDe] at hRR
    dsimp only at hRR
    have hbb9 : Below w.heap.size w wr := HE.out.2.to_below HF.out.2 (by omega) (by omega) (by omega)
    have hz9 : Blk wr w.heap.size 25 [.int .i64 0, .int .i64 0] := HF.out.1.kp HE.out.2 (by omega) (by omega)
    have hle := HE.out.1.le
    have hW := HE.out.1.wds
    dsimp only at hle hW
    have HD9 := Lib.hid hDe
    clear HRR HG HE HR hai hDe
    by_cases hj : j < T.length
    ·have hjj : ¬ (T.length : Int) ≤ (j : Int) := by omega
     have hp0 : (0 : Int) ≤ (j : Int) := by omega
     have hj2 : (j : Int) < (T.length : Int) := by omega
     obtain ⟨gb, off, rfl, x0, x1, x2, x3, x4⟩ := hW j hj
     have hnx : nextW T (posAt s s.size) j = T.getD j default := by unfold nextW; rw [if_pos hj]
     rw [hnx] at hRR
     obtain ⟨wd, hwd⟩ : ∃ wd, T.getD j default = wd := ⟨_, rfl⟩
     rw [hwd] at x0 x1 x2 x3 x4 hRR
     obtain ⟨kd, tx, nu, li, co⟩ := wd
     dsimp only at x3 x4 hRR
     subst hRR
     clear hW x0 x1 x2 hwd hnx
     have HZ := Lib.hid (And.intro ((hz9.set1 0 (.int .i64 li)).set1 1 (.int .i64 co)) ((hbb9.setCell (p := ⟨w.heap.size, 0, none⟩) (Nat.le_refl _) (.int .i64 li)).setCell (p := ⟨w.heap.size, 1, none⟩) (Nat.le_refl _) (.int .i64 co)))
     have z0 := hz9.cell 0
     have z1 := hz9.cell 1
     have g0 := hz9.frozen 0
     have g1 := hz9.frozen 1
     clear hz9 hbb9
     go_wp2_with fail
     go_region
     go_wp2_with fail
     first
      | exact end_pa HZ.out.1 rfl rfl rfl rfl rfl ⟨HZ.out.2, none, 0, rfl, ⟨Nat.le_refl _, by decide⟩, des_nil _⟩
      | exact end_pa HZ.out.1.drew rfl rfl rfl rfl rfl ⟨below_drewN HZ.out.2 1, none, 0, rfl, ⟨Nat.le_refl _, by decide⟩, des_nil _⟩
    ·have hjj : (T.length : Int) ≤ (j : Int) := by omega
     have hnx : nextW T (posAt s s.size) j = ⟨0, noB, 0, (posAt s s.size).1, (posAt s s.size).2⟩ := by unfold nextW; rw [if_neg hj]
     rw [hnx] at hRR
     obtain ⟨⟨ex, ey⟩, hexy⟩ : ∃ p, posAt s s.size = p := ⟨_, rfl⟩
     have hen := rend_any s wr (by omega)
     rw [hexy] at hen hRR
     dsimp only at hen hRR
     subst hRR
     clear hW hnx hexy
     go_wp2_with fail
     refine hen.mono ?_
     rintro e W5 ⟨rfl, hb5⟩
     have hz5 := hz9.below hb5
     have hbb5 := hbb9.trans (hb5.mono hbb9.size)
     have HZ := Lib.hid (And.intro ((hz5.set1 0 (.int .i64 ex)).set1 1 (.int .i64 ey)) ((hbb5.setCell (p := ⟨w.heap.size, 0, none⟩) (Nat.le_refl _) (.int .i64 ex)).setCell (p := ⟨w.heap.size, 1, none⟩) (Nat.le_refl _) (.int .i64 ey)))
     have z0 := hz5.cell 0
     have z1 := hz5.cell 1
     have g0 := hz5.frozen 0
     have g1 := hz5.frozen 1
     clear hz5 hbb5 hen hb5
     go_wp2_with fail
     exact end_pa HZ.out.1 rfl rfl rfl rfl rfl ⟨HZ.out.2, none, 0, rfl, ⟨Nat.le_refl _, by decide⟩, des_nil _⟩
 ·rw [if_neg he] at hRR
  have he' : (er != 0) = true := by simpa using he
  subst hRR
  have hz2 := hz1.alloc (.cells #[.int .i64 px, .int .i64 py] 25)
  have hb2 := hbb1.alloc hbb1.size (.cells #[.int .i64 px, .int .i64 py] 25)
  have ht2 := Blk.new W1 25 [.int .i64 px, .int .i64 py]
  have HZ := Lib.hid (And.intro ((hz2.set1 0 (.int .i64 px)).set1 1 (.int .i64 py)) ((hb2.setCell (p := ⟨w.heap.size, 0, none⟩) (Nat.le_refl _) (.int .i64 px)).setCell (p := ⟨w.heap.size, 1, none⟩) (Nat.le_refl _) (.int .i64 py)))
  have HX := Lib.hid (And.intro hz2 ht2)
  clear hz2 hb2 ht2 hz1 hbb1 hl1
  go_wp2_with fail
  obtain ⟨hz2, ht2⟩ := HX.out
  obtain ⟨q, hq⟩ : ∃ q, W1.heap.size = q := ⟨_, rfl⟩
  rw [hq] at ht2 hs1 ⊢
  change Blk (W1.alloc (.cells #[.int .i64 px, .int .i64 py] 25)) q 25 [.int .i64 px, .int .i64 py] at ht2
  clear HX
  generalize W1.alloc (.cells #[.int .i64 px, .int .i64 py] 25) = W2 at *
  have hne : q ≠ w.heap.size := by omega
  have y0 := ht2.cell 0
  have y1 := ht2.cell 1
  have z0 := hz2.cell 0
  have z1 := hz2.cell 1
  have g0 := hz2.frozen 0
  have g1 := hz2.frozen 1
  clear hz2 ht2
  go_region
  go_wp2_with fail
  first
   | exact end_pa HZ.out.1 rfl rfl rfl rfl rfl ⟨HZ.out.2, none, 0, rfl, ⟨Nat.le_refl _, by decide⟩, des_nil _⟩
   | exact end_pa HZ.out.1.drew rfl rfl rfl rfl rfl ⟨below_drewN HZ.out.2 1, none, 0, rfl, ⟨Nat.le_refl _, by decide⟩, des_nil _⟩
end Go.Proofs.YtjmlmelcppbefaaGreatDoor
