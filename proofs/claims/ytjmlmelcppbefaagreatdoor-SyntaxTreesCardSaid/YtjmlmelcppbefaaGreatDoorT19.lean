/- What the syntax texts share, part 19. No condition. -/
import Derived.Test.YtjmlmelcppbefaaGreatDoorT18
namespace Go.Proofs.YtjmlmelcppbefaaGreatDoor
open Go.RowKit
structure InvD (w : World) (s : ByteArray) (R : List Wd × (Int × Int) × Int) (e k : Nat) (acc : List Wd) (v : Value) (W : World) : Prop where
 lx : lexA s e acc = R
 ln : acc.length ≤ k
 le : k ≤ s.size
 ow : W.ownsRow (w.heap.size + 2) 91 5 v acc.length (acc.flatMap Wd.cells)
 b1 : Ps W (w.heap.size + 1) (posAt s k)
 b0 : Ps W w.heap.size (0, 0)
 bl : Below w.heap.size w W
 sz : w.heap.size + 2 ≤ W.heap.size
theorem own_set1 {W : World} {B e size n b j : Nat} {v u : Value} {xs : List Value} (h : W.ownsRow B e size v n xs) (hb : b < B) : (W.setCell ⟨b, j, none⟩ u).ownsRow B e size v n xs :=
 h.kept (row := some b) ⟨rfl, rfl, rfl, by simp [World.setCell], fun k _ hk => Below.heap_setCell W ⟨b, j, none⟩ u k (fun e => hk (by rw [e]))⟩ (.inr (row_ne h hb).symm)
theorem ownsRow_blw {w w' : World} {B e size n : Nat} {v : Value} {xs : List Value} (h : w.ownsRow B e size v n xs) (hb : Below w.heap.size w w') : w'.ownsRow B e size v n xs := by
 have hg : w.grownBy w' none := ⟨hb.os, hb.tape, hb.output, hb.size, fun k hk _ => hb.block k hk⟩
 exact h.kept hg (by cases hv : v.ownBlock <;> simp)
theorem cells_new (W : World) (l : List Value) (e : TypeId) (j : Nat) (u : Value) (h : l[j]? = some u) : (W.alloc (.cells l.toArray e)).cell? ((⟨W.heap.size, 0, none⟩ : Addr).add j) = some u := by
 have hadd : (⟨W.heap.size, 0, none⟩ : Addr).add j = ⟨W.heap.size, j, none⟩ := by unfold Addr.add; split <;> simp_all
 rw [hadd, cell_of_row _ W.heap.size j l.toArray e (0, 0) (World.alloc_heap_new _ _)]
 simpa using h
section
variable {w W : World} {s : ByteArray} {R : List Wd × (Int × Int) × Int} {e k : Nat} {acc : List Wd} {v : Value}
theorem InvD.line (h : InvD w s R e k acc v W) (hk : k < s.size) (hb : byte s k = 10) {e' : Nat} (he : lexA s e' acc = R) :
  InvD w s R e' (k + 1) acc v ((W.setCell ⟨w.heap.size + 1, 0, none⟩ (.int .i64 ((posAt s k).1 + 1))).setCell ⟨w.heap.size + 1, 1, none⟩ (.int .i64 1)) := by
 refine ⟨he, by have := h.ln; omega, hk, own_set1 (own_set1 h.ow (by omega)) (by omega), ?_, (h.b0.other (by omega) _ _).other (by omega) _ _, (h.bl.setCell (p := ⟨w.heap.size + 1, 0, none⟩) (Nat.le_succ _) _).setCell (p := ⟨w.heap.size + 1, 1, none⟩) (Nat.le_succ _) _, by simpa [World.setCell] using h.sz⟩
 have h2 := (h.b1.set0 ((posAt s k).1 + 1)).set1 1
 show Ps _ _ (adv (posAt s k) (byte s k))
 unfold adv
 rw [if_pos hb]
 exact h2
theorem InvD.col (h : InvD w s R e k acc v W) (hk : k < s.size) (hb : byte s k ≠ 10) {e' : Nat} (he : lexA s e' acc = R) :
  InvD w s R e' (k + 1) acc v (W.setCell ⟨w.heap.size + 1, 1, none⟩ (.int .i64 ((posAt s k).2 + 1))) := by
 refine ⟨he, by have := h.ln; omega, hk, own_set1 h.ow (by omega), ?_, h.b0.other (by omega) _ _, h.bl.setCell (p := ⟨w.heap.size + 1, 1, none⟩) (Nat.le_succ _) _, by simpa [World.setCell] using h.sz⟩
 have h2 := h.b1.set1 ((posAt s k).2 + 1)
 show Ps _ _ (adv (posAt s k) (byte s k))
 unfold adv
 rw [if_neg hb]
 exact h2
theorem InvD.push (h : InvD w s R e k acc v W) {w1 w2 : World} (hb1 : Below W.heap.size W w1) {o1 o2 : Obj} {t : Wd} {v' : Value} {n : Nat}
  (hown : w2.ownsRow (w.heap.size + 2) 91 5 v' (acc.length + 1) (acc.flatMap Wd.cells ++ t.cells)) (hgrow : ((w1.alloc o1).alloc o2).grownBy w2 v.ownBlock)
  (hR : lexA s (k + n) (acc ++ [t]) = R) (hn : 0 < n) (hle : k + n ≤ s.size) (hp : posAt s (k + n) = ((posAt s k).1, (posAt s k).2 + n)) :
  Ps w2 (w.heap.size + 1) (posAt s k) ∧ InvD w s R (k + n) (k + n) (acc ++ [t]) v' (w2.setCell ⟨w.heap.size + 1, 1, none⟩ (.int .i64 ((posAt s k).2 + n))) := by
 have p1 : Ps w2 (w.heap.size + 1) (posAt s k) := (((h.b1.below hb1 h.b1.lt).alloc o1).alloc o2).kept hgrow (row_ne h.ow (by omega))
 have p0 : Ps w2 w.heap.size (0, 0) := (((h.b0.below hb1 h.b0.lt).alloc o1).alloc o2).kept hgrow (row_ne h.ow (by omega))
 have hsz := hb1.size
 have hsz2 := h.sz
 have hsz3 := hgrow.size
 simp at hsz3
 refine ⟨p1, hR, by have := h.ln; simp; omega, hle, ?_, ?_, p0.other (by omega) _ _, ?_, by simp [World.setCell]; omega⟩
 ·have h2 := own_set1 (j := 1) (u := .int .i64 ((posAt s k).2 + n)) hown (by omega : w.heap.size + 1 < w.heap.size + 2)
  simpa using h2
 ·rw [hp]
  exact p1.set1 _
 ·refine Below.setCell (p := ⟨w.heap.size + 1, 1, none⟩) ?_ (Nat.le_succ _) _
  refine ((((h.bl.trans (hb1.mono (by omega))).alloc (by omega) o1).alloc (by simp; omega) o2)).grown hgrow (by simp; omega) (fun r er => ?_)
  have := (h.ow.lt r er).1
  omega
end
theorem end_lx {fn : Func} {R : Ending → World → Prop} {act : Act} {W : World} {b : Nat} {s u u2 : Tmp} {p : Int × Int} {v v2 : Value} (h : Ps W b p) (hres : fn.results = #[.tmp u, .cell s 25, .tmp u2])
  (hs : act.tmps.getD s undef = .pointer (some ⟨b, 0, none⟩)) (hu : act.tmps.getD u undef = v) (hu2 : act.tmps.getD u2 undef = v2) (hd : act.defers = []) (hR : R (.returned (.tuple #[v, .agg #[.int .i64 p.1, .int .i64 p.2], v2])) W) : bodyPost Tryz.prog fn R .ret act W := by
 have e0 := h.c0
 have e1 := h.c1
 have hs' : act.tmps[s]?.getD undef = .pointer (some ⟨b, 0, none⟩) := by rw [← hs]; simp
 have hu' : act.tmps[u]?.getD undef = v := by rw [← hu]; simp
 have hu2' : act.tmps[u2]?.getD undef = v2 := by rw [← hu2]; simp
 refine bodyPost_ret (v := .tuple #[v, .agg #[.int .i64 p.1, .int .i64 p.2], v2]) ?_ hd hR
 simp [results, hres, go_sem, hs', hu', hu2', e0, e1]
set_option maxRecDepth 100000 in
set_option maxHeartbeats 16000000 in
theorem rlex_any (s : ByteArray) (w : World) : Calls Tryz.prog 39 #[.string s] w (LPost w (lexR s)) := by
 unfold lexR
 by_cases h : 65536 < s.size
 ·rw [if_pos h]
  have hsi : (65536 : Int) < (s.size : Int) := by omega
  have hA : Ps (w.alloc (.cells #[.int .i64 0, .int .i64 0] 25)) w.heap.size (0, 0) := World.alloc_heap_new _ _
  have hB : Below w.heap.size w (w.alloc (.cells #[.int .i64 0, .int .i64 0] 25)) := (Below.refl _ w).alloc (Nat.le_refl _) _
  go_enter Tryz.func39, Tryz.ntmps39
  go_wp2_with fail
  have e0 := hA.c0
  have e1 := hA.c1
  refine bodyPost_ret (v := .tuple #[.slice none 0 0, .agg #[.int .i64 0, .int .i64 0], .int .i64 3]) (by simp [results, Tryz.f39, go_sem, e0, e1]) rfl ⟨_, rfl, World.ownsRow_nil _ _ _ _, ?_⟩
  exact hB
 ·rw [if_neg h]
  have hs : s.size ≤ 65536 := by omega
  have hsi : ¬ (65536 : Int) < (s.size : Int) := by omega
  obtain ⟨R, hR⟩ : ∃ R, lexA s 0 [] = R := ⟨_, rfl⟩
  rw [hR]
  have hA : Ps ((w.alloc (.cells #[.int .i64 0, .int .i64 0] 25)).alloc (.cells #[.int .i64 1, .int .i64 1] 25)) w.heap.size (0, 0) := by
   have h : Ps (w.alloc (.cells #[.int .i64 0, .int .i64 0] 25)) w.heap.size (0, 0) := World.alloc_heap_new _ _
   exact h.alloc _
  have hP : Ps ((w.alloc (.cells #[.int .i64 0, .int .i64 0] 25)).alloc (.cells #[.int .i64 1, .int .i64 1] 25)) (w.heap.size + 1) (posAt s 0) := by
   have h : Ps ((w.alloc (.cells #[.int .i64 0, .int .i64 0] 25)).alloc (.cells #[.int .i64 1, .int .i64 1] 25)) (w.alloc (.cells #[.int .i64 0, .int .i64 0] 25)).heap.size (1, 1) := World.alloc_heap_new _ _
   rw [World.size_alloc] at h
   exact h
  have hB : Below w.heap.size w ((w.alloc (.cells #[.int .i64 0, .int .i64 0] 25)).alloc (.cells #[.int .i64 1, .int .i64 1] 25)) := ((Below.refl _ w).alloc (Nat.le_refl _) _).alloc (by simp) _
  have hI : InvD w s R 0 0 [] (.slice none 0 0) ((w.alloc (.cells #[.int .i64 0, .int .i64 0] 25)).alloc (.cells #[.int .i64 1, .int .i64 1] 25)) :=
   ⟨hR, Nat.le_refl _, Nat.zero_le _, World.ownsRow_nil _ _ _ _, hP, hA, hB, by simp⟩
  clear hR hA hP hB
  obtain ⟨i0, hi0, hz0, hz1, hz2⟩ := info_parts info39
  go_enter Tryz.func39, Tryz.ntmps39
  go_wp2_with fail
  change Code.wp _ _ _ _ ((w.alloc (.cells #[.int .i64 0, .int .i64 0] 25)).alloc (.cells #[.int .i64 1, .int .i64 1] 25))
  generalize (w.alloc (.cells #[.int .i64 0, .int .i64 0] 25)).alloc (.cells #[.int .i64 1, .int .i64 1] 25) = W0 at *
  go_loopw [5, 7] (fun v i wr => ∃ (k : Nat) (acc : List Wd), i = .int .i64 k ∧ InvD w s R k k acc v wr) (fun _ i _ => s.size - (intOf i).toNat)
  case atStart => exact ⟨0, [], rfl, hI⟩
  case round =>
   clear hI
   obtain ⟨k, acc, rfl, hI⟩ := hrel
   have c10 := hI.b1.c0
   have c11 := hI.b1.c1
   have f10 := hI.b1.frozen 0
   have f11 := hI.b1.frozen 1
   have hle := hI.le
   have hpl := posAt_le s k
   by_cases hks : k < s.size
   ·have hki : (k : Int) < (s.size : Int) := by omega
    have hbt := byte_at hks
    obtain ⟨c, hc⟩ : ∃ c, byte s k = c := ⟨_, rfl⟩
    rw [hc] at hbt
    have HC := Lib.hid hc
    clear hc hle
    obtain ⟨l, hl⟩ : ∃ l, (posAt s k).1 = l := ⟨_, rfl⟩
    obtain ⟨q, hq⟩ : ∃ q, (posAt s k).2 = q := ⟨_, rfl⟩
    rw [hl, hq] at hpl
    rw [hl] at c10
    rw [hq] at c11
    have HL := Lib.hid hl
    have HQ := Lib.hid hq
    clear hl hq
    obtain ⟨q1, h1⟩ : ∃ q, (c.toNat == 10) = q := ⟨_, rfl⟩
    obtain ⟨q2, h2⟩ : ∃ q, (c.toNat == 32) = q := ⟨_, rfl⟩
    obtain ⟨q3, h3⟩ : ∃ q, (c.toNat == 9) = q := ⟨_, rfl⟩
    obtain ⟨q4, h4⟩ : ∃ q, (c.toNat == 13) = q := ⟨_, rfl⟩
    obtain ⟨q5, h5⟩ : ∃ q, (c.toNat == 35) = q := ⟨_, rfl⟩
    have i1 : ((c.toNat : Int) == 10) = q1 := by rw [← h1]; exact fact_eq (m := 10)
    have i2 : ((c.toNat : Int) == 32) = q2 := by rw [← h2]; exact fact_eq (m := 32)
    have i3 : ((c.toNat : Int) == 9) = q3 := by rw [← h3]; exact fact_eq (m := 9)
    have i4 : ((c.toNat : Int) == 13) = q4 := by rw [← h4]; exact fact_eq (m := 13)
    have i5 : ((c.toNat : Int) == 35) = q5 := by rw [← h5]; exact fact_eq (m := 35)
    have hbl : isBl (byte s k) = (q2 || q3 || q4 || q1) := by rw [HC.out]; unfold isBl; rw [h1, h2, h3, h4]
    have hnl : q1 = true → byte s k = 10 := fun h => by
     rw [HC.out]
     rw [h, beq_iff_eq] at h1
     exact UInt8.toNat_inj.1 (by simpa using h1)
    have hnn : q1 = false → byte s k ≠ 10 := fun h e => by
     rw [HC.out] at e
     rw [h, beq_eq_false_iff_ne] at h1
     exact h1 (by rw [e]; rfl)
    have h35 : q5 = true → (byte s k).toNat = 35 := fun h => by
     rw [HC.out]
     rw [h, beq_iff_eq] at h5
     exact h5
    have h35n : q5 = false → ¬ (byte s k).toNat = 35 := fun h => by
     rw [HC.out]
     rw [h, beq_eq_false_iff_ne] at h5
     exact h5
    have HBL := Lib.hid hbl
    have HNL := Lib.hid hnl
    have HNN := Lib.hid hnn
    have H35 := Lib.hid h35
    have H35N := Lib.hid h35n
    clear hbl hnl hnn h35 h35n h1 h2 h3 h4 h5
    have HI := Lib.hid hI
    clear hI
    have stepcol : q1 = false → (q2 || q3 || q4 || q1) = true → InvD w s R (k + 1) (k + 1) acc u5 (wr.setCell ⟨w.heap.size + 1, 1, none⟩ (.int .i64 (q + 1))) := fun hq1 hb => by
     rw [← HQ.out]
     exact HI.out.col hks (HNN.out hq1) ((lexA_gap (gap_bl hks (HBL.out.trans hb))).trans HI.out.lx)
    have HCOL := Lib.hid stepcol
    clear stepcol
    cases q1
    ·cases q2
     ·cases q3
      ·cases q4
       ·cases q5
        ·have hga := gap_at hks HBL.out (H35N.out rfl)
         obtain ⟨kd, tx, nm, nn, hone, hok⟩ := one_any s k hks (by omega)
         obtain ⟨er, her⟩ : ∃ er, wErr s k = er := ⟨_, rfl⟩
         rw [her] at hone hok
         by_cases he : er = 0
         ·subst he
          obtain ⟨rfl, rfl, rfl, hnn⟩ := hok rfl
          have hgt := wEnd_gt hks her
          have hwl := wEnd_le hks
          have hpos := posAt_run nn (s := s) (k := k) (fun j h1 h2 => word_nl hks j h1 (by omega))
          have hlx : lexA s (k + nn) (acc ++ [tokW s k]) = R := by
           rw [hnn, ← HI.out.lx]
           have h3 := lexA_on (s := s) (k := k) (acc := acc) (by rw [hga]; exact hks) (by rw [hga]; exact her)
           rw [hga] at h3
           exact h3
          have hpush := fun w1 hb1 w2 o1 o2 v' hown hgrow => HI.out.push (w1 := w1) hb1 (w2 := w2) (o1 := o1) (o2 := o2) (t := tokW s k) (v' := v') (n := nn) hown hgrow hlx (by omega) (by omega) hpos
          have HPU := Lib.hid hpush
          have hnn2 : k + nn ≤ s.size := by omega
          have hnn3 : 0 < nn := by omega
          obtain ⟨K, hK⟩ : ∃ K, wKind s k = K := ⟨_, rfl⟩
          obtain ⟨T, hT⟩ : ∃ T, s.extract k (wEnd s k) = T := ⟨_, rfl⟩
          obtain ⟨N, hN⟩ : ∃ N, wNum s k = N := ⟨_, rfl⟩
          rw [hK, hT, hN] at hone
          have htok : tokW s k = ⟨K, T, N, l, q⟩ := by
           unfold tokW
           rw [hK, hT, hN, HL.out, HQ.out]
          have HTOK := Lib.hid htok
          clear hga hok her hnn hgt hwl hpos hlx hpush hK hT hN htok
          go_wp2_with fail
          refine (hone _).mono ?_
          rintro e w1 ⟨rfl, hb1⟩
          have p1 := HI.out.b1.below hb1 HI.out.b1.lt
          have ow1 := HI.out.ow
          have d0 : w1.cell? ⟨w.heap.size + 1, 0, none⟩ = some (.int .i64 l) := by rw [← HL.out]; exact p1.c0
          have d1 : w1.cell? ⟨w.heap.size + 1, 1, none⟩ = some (.int .i64 q) := by rw [← HQ.out]; exact p1.c1
          have g0 := p1.frozen 0
          have g1 := p1.frozen 1
          have hown1 := ((ownsRow_blw HI.out.ow hb1).alloc (.cells #[.int .i64 K, .string T, .int .i64 N, .int .i64 l, .int .i64 q] 91)).alloc (.cells #[.int .i64 K, .string T, .int .i64 N, .int .i64 l, .int .i64 q] 91)
          have hacc := HI.out.ln
          have hsz1 := hb1.size
          have hltp : w.heap.size + 1 < w1.heap.size := p1.lt
          have hsz0 := HI.out.sz
          go_wp2_with (at_builtin; refine wpList_append_own _ rfl (.tmp 80) (.tmp 82) 69 rfl (w.heap.size + 2) 91 i0 (.agg #[.int .i64 0, .string ⟨#[]⟩, .int .i64 0, .int .i64 0, .int .i64 0]) 5 48 under23 hi0 hz0 hz1 hz2 rfl (by decide) u5 acc.length (acc.flatMap Wd.cells) rfl hown1 ⟨w1.heap.size + 1, 0, none⟩ 1 1 (tokW s k).cells ?c0 rfl ?c2 ?c3 ?c4 ?c5 ?c6 ?_)
          case c0 => rfl
          case c2 =>
           rw [HTOK.out]
           intro j u h
           have h2 := cells_new (w1.alloc (.cells #[.int .i64 K, .string T, .int .i64 N, .int .i64 l, .int .i64 q] 91)) [.int .i64 K, .string T, .int .i64 N, .int .i64 l, .int .i64 q] 91 j u h
           rw [World.size_alloc] at h2
           exact h2
          case c3 => rw [HTOK.out]; simp [Wd.cells, Value.oneCell']
          case c4 => unfold maxLen; omega
          case c5 => omega
          case c6 => simp; omega
          intro v' w2 hown2 hgrow _
          obtain ⟨g, cap, rfl⟩ := ownsRow_succ hown2
          obtain ⟨p2, hI2⟩ := HPU.out w1 hb1 w2 _ _ _ hown2 hgrow
          have e0 : w2.cell? ⟨w.heap.size + 1, 0, none⟩ = some (.int .i64 l) := by rw [← HL.out]; exact p2.c0
          have e1 : w2.cell? ⟨w.heap.size + 1, 1, none⟩ = some (.int .i64 q) := by rw [← HQ.out]; exact p2.c1
          have j0 := p2.frozen 0
          have j1 := p2.frozen 1
          rw [HQ.out] at hI2
          have HI2 := Lib.hid hI2
          clear hI2 p2 hown1 ow1 p1 d0 d1 g0 g1 hgrow hown2
          go_wp2_with fail
          go_roundw
          case rel => exact ⟨k + nn, acc ++ [tokW s k], by go_num, HI2.out⟩
          case measure => simp [intOf]; omega
         ·have hei : (er == 0) = false := by rw [beq_eq_false_iff_ne]; exact he
          have hei2 : (er != 0) = true := by rw [bne_iff_ne]; exact he
          have hR : R = ([], (l, q), er) := by
           have h2 := lexA_err (s := s) (k := k) (acc := acc) (by rw [hga]; exact hks) (by rw [hga, her]; exact he)
           rw [← HI.out.lx, h2, hga, her, ← HL.out, ← HQ.out]
          have HR := Lib.hid hR
          clear hR he her hok hga
          go_wp2_with fail
          refine (hone _).mono ?_
          rintro e w1 ⟨rfl, hb1⟩
          have p1 := HI.out.b1.below hb1 HI.out.b1.lt
          have p0 := HI.out.b0.below hb1 HI.out.b0.lt
          have d0 : w1.cell? ⟨w.heap.size + 1, 0, none⟩ = some (.int .i64 l) := by rw [← HL.out]; exact p1.c0
          have d1 : w1.cell? ⟨w.heap.size + 1, 1, none⟩ = some (.int .i64 q) := by rw [← HQ.out]; exact p1.c1
          have d2 := p0.c0
          have d3 := p0.c1
          have g2 := p0.frozen 0
          have g3 := p0.frozen 1
          have hltp : w.heap.size + 1 < w1.heap.size := p1.lt
          have hltp0 : w.heap.size < w1.heap.size := p0.lt
          go_wp2_with fail
          go_region
          go_wp2_with fail
          have hb2 := hb1.mono (show w.heap.size ≤ wr.heap.size by have := HI.out.sz; omega)
          have hR2 := HR.out
          subst hR2
          refine end_lx (p := (l, q)) (show Ps (World.drew _) _ _ from ((p0.set0 l).set1 q).alloc _) rfl rfl rfl rfl rfl ⟨_, rfl, World.ownsRow_nil _ _ _ _, ?_⟩
          exact ((((HI.out.bl.trans hb2).setCell (p := ⟨w.heap.size, 0, none⟩) (Nat.le_refl _) _).setCell (p := ⟨w.heap.size, 1, none⟩) (Nat.le_refl _) _).alloc (by simp [World.setCell]; omega) _).drew
        ·have hlx0 : lexA s (endOf isNoNl s k) acc = R := (lexA_gap (gap_hs hks (H35.out rfl))).trans HI.out.lx
         have hI0 : InvD w s R (endOf isNoNl s k) k acc u5 wr := ⟨hlx0, HI.out.ln, HI.out.le, HI.out.ow, HI.out.b1, HI.out.b0, HI.out.bl, HI.out.sz⟩
         have HON := Lib.hid (hash_on hks (H35.out rfl))
         have HI0 := Lib.hid hI0
         clear hlx0 hI0
         go_wp2_with fail
         obtain ⟨wo, rfl⟩ : ∃ wo : World, wo = wr := ⟨_, rfl⟩
         clear c10 c11 f10 f11 hbt
         go_loopw [7] (fun i wr => ∃ j : Nat, k ≤ j ∧ i = .int .i64 j ∧ Hid (j ≤ endOf isNoNl s k) ∧ Hid (endOf isNoNl s j = endOf isNoNl s k) ∧ Hid (InvD w s R (endOf isNoNl s j) j acc u5 wr)) (fun i _ => s.size - (intOf i).toNat)
         case atStart => exact ⟨k, Nat.le_refl _, rfl, Lib.hid (endOf_ge _ _ _), Lib.hid rfl, HI0⟩
         case round =>
          clear HI0
          obtain ⟨j, hkj, rfl, HLE, HEQ, HJ⟩ := hrel
          have hjl := HJ.out.le
          have fin : ∀ E, endOf isNoNl s j = j → endOf isNoNl s k = E → InvD w s R j j acc u5 wr ∧ k < j := fun E h1 _ => by
           have h2 := HJ.out
           rw [h1] at h2
           have h3 := HEQ.out
           have h4 := HON.out
           rw [h1] at h3
           exact ⟨h2, by omega⟩
          have HFIN := Lib.hid fin
          clear fin
          by_cases hjs : j < s.size
          ·have hji : (j : Int) < (s.size : Int) := by omega
           have hbt2 := byte_at hjs
           obtain ⟨d, hd⟩ : ∃ d, byte s j = d := ⟨_, rfl⟩
           rw [hd] at hbt2
           obtain ⟨z, hz⟩ : ∃ z, (d.toNat == 10) = z := ⟨_, rfl⟩
           have z1 : ((d.toNat : Int) == 10) = z := by rw [← hz]; exact fact_eq (m := 10)
           have z2 : ((d.toNat : Int) != 10) = !z := by rw [← z1]; rfl
           have hnn2 : isNoNl (byte s j) = !z := by unfold isNoNl; rw [hd, hz]
           have hne : z = false → byte s j ≠ 10 := fun h e => by
            rw [h, beq_eq_false_iff_ne, ← hd, e] at hz
            exact hz rfl
           have HNE := Lib.hid hne
           have HNN2 := Lib.hid hnn2
           clear hd hz hnn2 hne
           cases z
           ·have e1 : endOf isNoNl s (j + 1) = endOf isNoNl s j := endOf_yes hjs HNN2.out
            have hst := HJ.out.col hjs (HNE.out rfl) (e' := endOf isNoNl s (j + 1)) (by rw [e1]; exact HJ.out.lx)
            have hpl2 := posAt_le s j
            have d1 := HJ.out.b1.c1
            have g1 := HJ.out.b1.frozen 1
            obtain ⟨y, hy⟩ : ∃ y, (posAt s j).2 = y := ⟨_, rfl⟩
            rw [hy] at hst d1 hpl2
            have HST := Lib.hid hst
            have HE1 := Lib.hid (show endOf isNoNl s (j + 1) = endOf isNoNl s k from e1.trans HEQ.out)
            have HL1 := Lib.hid (show j + 1 ≤ endOf isNoNl s k by rw [← HE1.out]; exact endOf_ge _ _ _)
            clear hst hy e1
            go_wp2
            go_roundw
            case rel => exact ⟨j + 1, by omega, by go_num, HL1, HE1, HST⟩
            case measure => simp [intOf]; omega
           ·have e1 : endOf isNoNl s j = j := endOf_no hjs HNN2.out
            obtain ⟨hI3, hkj2⟩ := HFIN.out _ e1 rfl
            have HI3 := Lib.hid hI3
            clear e1 hI3
            go_wp2
            go_roundw
            case rel => exact ⟨j, acc, by go_num, HI3.out⟩
            case measure => simp [intOf]; omega
          ·obtain rfl : j = s.size := by omega
           obtain ⟨hI3, hkj2⟩ := HFIN.out _ (endOf_end (Nat.le_refl _)) rfl
           have HI3 := Lib.hid hI3
           clear hI3
           go_wp2
           go_roundw
           case rel => exact ⟨s.size, acc, by go_num, HI3.out⟩
           case measure => simp [intOf]; omega
       ·clear i5
        go_wp2
        go_roundw
        case rel => exact ⟨k + 1, acc, by go_num, HCOL.out rfl rfl⟩
        case measure => simp [intOf]; omega
      ·clear i4 i5
       go_wp2
       go_roundw
       case rel => exact ⟨k + 1, acc, by go_num, HCOL.out rfl rfl⟩
       case measure => simp [intOf]; omega
     ·clear i3 i4 i5
      go_wp2
      go_roundw
      case rel => exact ⟨k + 1, acc, by go_num, HCOL.out rfl rfl⟩
      case measure => simp [intOf]; omega
    ·clear i2 i3 i4 i5
     have hst : InvD w s R (k + 1) (k + 1) acc u5 ((wr.setCell ⟨w.heap.size + 1, 0, none⟩ (.int .i64 (l + 1))).setCell ⟨w.heap.size + 1, 1, none⟩ (.int .i64 1)) := by
      rw [← HL.out]
      exact HI.out.line hks (HNL.out rfl) ((lexA_gap (gap_bl hks (HBL.out.trans (by simp)))).trans HI.out.lx)
     have HST := Lib.hid hst
     clear hst
     go_wp2
     go_roundw
     case rel => exact ⟨k + 1, acc, by go_num, HST.out⟩
     case measure => simp [intOf]; omega
   ·obtain rfl : k = s.size := by omega
    have hR := (lexA_end (s := s) (acc := acc) (k := s.size) (by rw [gap_out (Nat.le_refl _)]; omega)).symm.trans hI.lx
    subst hR
    have c00 := hI.b0.c0
    have c01 := hI.b0.c1
    have f00 := hI.b0.frozen 0
    have f01 := hI.b0.frozen 1
    go_wp2_with fail
    refine end_lx ((hI.b0.set0 0).set1 0) rfl rfl rfl rfl rfl ⟨u5, rfl, ?_, ?_⟩
    ·exact ownsRow_base (own_set1 (own_set1 hI.ow (by omega)) (by omega)) (by omega)
    ·exact (hI.bl.setCell (p := ⟨w.heap.size, 0, none⟩) (Nat.le_refl _) _).setCell (p := ⟨w.heap.size, 1, none⟩) (Nat.le_refl _) _
end Go.Proofs.YtjmlmelcppbefaaGreatDoor
