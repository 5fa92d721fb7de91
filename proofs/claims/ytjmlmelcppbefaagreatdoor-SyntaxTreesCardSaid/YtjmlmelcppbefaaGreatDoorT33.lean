/- What the syntax texts share, part 33. No condition. -/
import Derived.Test.YtjmlmelcppbefaaGreatDoorT26
import Derived.Test.YtjmlmelcppbefaaGreatDoorT32
namespace Go.Proofs.YtjmlmelcppbefaaGreatDoor
open Go.RowKit Go.Maps
theorem under25 : ∃ d, Tryz.prog.underlying 25 = some d ∧ d.isRow = true := by
 have h : (Tryz.prog.underlying 25).map (·.isRow) = some true := by kernel_rfl
 obtain ⟨d, h1, h2⟩ := Option.map_eq_some_iff.1 h
 exact ⟨d, h1, h2⟩
theorem infoP25 : (Tryz.prog.info? 25).map (·.size) = some 2 := by kernel_rfl
set_option maxRecDepth 100000 in
set_option maxHeartbeats 2000000 in
theorem rpos_any {w : World} {b k : Nat} {S : Src} {bad : Bool} (h : Dr w b S k bad) :
  Calls Tryz.prog 82 #[.pointer (some ⟨b, 0, none⟩)] w fun e w' => e = .returned (.agg #[.int .i64 (plOf S.T k).1, .int .i64 (plOf S.T k).2]) ∧ Below w.heap.size w w' := by
 obtain ⟨d25, hu25, hr25⟩ := under25
 have hmx := h.mx
 have hle := h.le
 have hbw := h.lt
 have h0 := h.alloc (.cells #[.int .i64 0, .int .i64 0] 25)
 have hz0 : Blk (w.alloc (.cells #[.int .i64 0, .int .i64 0] 25)) w.heap.size 25 [.int .i64 0, .int .i64 0] := World.alloc_heap_new _ _
 have hb0 : Below w.heap.size w (w.alloc (.cells #[.int .i64 0, .int .i64 0] 25)) := (Below.refl _ w).alloc (Nat.le_refl _) _
 clear h
 have c0 := h0.c0
 have c1 := h0.c1
 have hW := h0.wds
 obtain ⟨P, hP⟩ : ∃ P, plOf S.T k = P := ⟨_, rfl⟩
 rw [hP]
 obtain ⟨li, co⟩ := P
 have z0 := hz0.cell 0
 have z1 := hz0.cell 1
 have f0 := hz0.frozen 0
 have f1 := hz0.frozen 1
 have hwl := hz0.lt
 have HF := Lib.hid (fun (n : Nat) (x y : Int) (hx : x = li) (hy : y = co) => (show Blk ((((w.alloc (.cells #[.int .i64 0, .int .i64 0] 25)).drewN n).setCell ⟨w.heap.size, 0, none⟩ (.int .i64 x)).setCell ⟨w.heap.size, 1, none⟩ (.int .i64 y)) w.heap.size 25 [.int .i64 li, .int .i64 co] ∧ Below w.heap.size w ((((w.alloc (.cells #[.int .i64 0, .int .i64 0] 25)).drewN n).setCell ⟨w.heap.size, 0, none⟩ (.int .i64 x)).setCell ⟨w.heap.size, 1, none⟩ (.int .i64 y)) from by
  subst hx
  subst hy
  exact ⟨((hz0.drewN n).set1 0 _).set1 1 _, Below.setCell (p := ⟨w.heap.size, 1, none⟩) (Below.setCell (p := ⟨w.heap.size, 0, none⟩) (below_drewN hb0 n) (Nat.le_refl _) _) (Nat.le_refl _) _⟩))
 have hPl : (if k < S.T.length then (li, co) = ((S.T.getD k default).line, (S.T.getD k default).col) else (li, co) = (0, 0)) := by
  rw [← hP]
  unfold plOf
  split
  ·rfl
  ·rename_i hk
   rw [List.getD_eq_getElem?_getD, List.getElem?_eq_none (by omega)]
   rfl
 by_cases hk : k < S.T.length
 ·rw [if_pos hk] at hPl
  have hki : ¬ (S.T.length : Int) ≤ (k : Int) := by omega
  have hp0 : (0 : Int) ≤ (k : Int) := by omega
  obtain ⟨gb, off, hga, x0, x1, x2, x3, x4⟩ := hW k hk
  rw [hga] at c0
  injection hPl with e1 e2
  rw [← e1] at x3
  rw [← e2] at x4
  clear e1 e2
  have HKL := Lib.hid hk
  obtain ⟨N, hN⟩ : ∃ N, S.T.length = N := ⟨_, rfl⟩
  rw [hN] at c0 hki hle hmx hk
  clear hW h0 hga hN hP x0 x1 x2
  go_enter Tryz.func82, Tryz.ntmps82
  go_wp2_with fail
  go_quiet (fail)
  go_wp2_with fail
  have v0 : ((w.alloc (.cells #[.int .i64 0, .int .i64 0] 25)).drewN nq).cell? ⟨b, 0, none⟩ = _ := c0
  have v1 : ((w.alloc (.cells #[.int .i64 0, .int .i64 0] 25)).drewN nq).cell? ⟨b, 1, none⟩ = _ := c1
  have v3 : ((w.alloc (.cells #[.int .i64 0, .int .i64 0] 25)).drewN nq).cell? ⟨gb, off + k * 5 + 3, none⟩ = _ := x3
  have v4 : ((w.alloc (.cells #[.int .i64 0, .int .i64 0] 25)).drewN nq).cell? ⟨gb, off + k * 5 + 4, none⟩ = _ := x4
  have HB := Lib.hid (hz0.drewN (nq + 1))
  have HB2 := Lib.hid (below_drewN hb0 (nq + 1))
  clear HF c0 c1 x3 x4 z0 z1 f0 f1 hz0 hb0
  have hV : (w.alloc (.cells #[.int .i64 0, .int .i64 0] 25)).drewN (nq + 1) = ((w.alloc (.cells #[.int .i64 0, .int .i64 0] 25)).drewN nq).drew := rfl
  rw [hV] at HB HB2
  clear hV
  generalize (w.alloc (.cells #[.int .i64 0, .int .i64 0] 25)).drewN nq = V at *
  go_still_tail 10, (by kernel_rfl)
  change wpList _ _ _ _ _ V.drew
  have hr : V.drew.rangeAt gb (off + k * 5 + 3) [.int .i64 li, .int .i64 co] := fun j v hv => by
   rcases j with _ | _ | j
   ·cases hv
    exact v3
   ·cases hv
    exact v4
   ·cases hv
  have HRg := Lib.hid hr
  clear hr
  go_wp2_with (first | ((with_reducible show wpList _ _ _ (Oper.mk none (.store 25 _ _) _ _ _ _ :: _) _ _); refine wpList_store_blk infoP25 rfl (.tmp 2) (.tmp 24) rfl w.heap.size [.int .i64 li, .int .i64 co] _ rfl rfl HB rfl rfl (by intro v hv; simp only [List.mem_cons, List.not_mem_nil, or_false] at hv; rcases hv with rfl | rfl <;> rfl) ?_) | ((with_reducible show wpList _ _ _ (Oper.mk _ (.load 25 _) _ _ _ _ :: _) _ _); refine wpList_load_mid rfl 25 (.tmp 23) rfl gb (off + k * 5 + 3) rfl [.int .i64 li, .int .i64 co] d25 HRg.out hu25 hr25 infoP25 ?_))
  refine end_blk (cs := [.int .i64 li, .int .i64 co]) hu25 hr25 infoP25 (HB.out.putAll rfl) rfl rfl rfl rfl ⟨rfl, ?_⟩
  exact Below.setCell (p := ⟨w.heap.size, 1, none⟩) (Below.setCell (p := ⟨w.heap.size, 0, none⟩) HB2.out (Nat.le_refl _) _) (Nat.le_refl _) _
 ·rw [if_neg hk] at hPl
  have hki : (S.T.length : Int) ≤ (k : Int) := by omega
  cases hPl
  clear hW h0 hz0 hb0 hP
  go_enter Tryz.func82, Tryz.ntmps82
  go_wp2_with fail
  go_quiet (fail)
  go_wp2_with fail
  rename_i nq
  have HB := HF.out nq _ _ rfl rfl
  exact end_blk hu25 hr25 infoP25 HB.1 rfl rfl rfl rfl ⟨rfl, HB.2⟩
end Go.Proofs.YtjmlmelcppbefaaGreatDoor
namespace Go.Proofs.YtjmlmelcppbefaaGreatDoor
open Go.RowKit Go.Maps
def DBk (w : World) (b : Nat) (S : Src) (bad : Bool) (k : Nat) (R : PR (List St)) (e : Ending) (w' : World) : Prop := Kp w w' b b ∧ ∃ (a : Option Addr) (cap : Nat) (l : List St) (j : Nat) (bad' : Bool), e = .returned (.slice a l.length cap) ∧ Roomy l.length cap ∧ StsL (w.heap.size ≤ ·) w' a 0 l ∧ Out bad k R l j bad' ∧ Dr w' b S j bad'
def DSk (w : World) (b : Nat) (S : Src) (k : Nat) (R : PR St) (e : Ending) (w' : World) : Prop := Kp w w' b b ∧ ∃ (cs : List Value) (x : St) (j : Nat) (bad' : Bool), e = .returned (.agg cs.toArray) ∧ StL (w.heap.size ≤ ·) w' cs x ∧ Out false k R x j bad' ∧ Dr w' b S j bad'
def DB (b : Nat) (S : Src) (f : Nat) (bad : Bool) : Prop := ∀ (w : World) (k : Nat), Dr w b S k bad → (bad = false → pB S.T f k ≠ none) → Calls Tryz.prog 88 #[.pointer (some ⟨b, 0, none⟩)] w (DBk w b S bad k (pB S.T f k))
def DS (b : Nat) (S : Src) (f : Nat) : Prop := ∀ (w : World) (k : Nat), Dr w b S k false → pS S.T f k ≠ none → Calls Tryz.prog 124 #[.pointer (some ⟨b, 0, none⟩)] w (DSk w b S k (pS S.T f k))
def RestB (T : List Wd) (bad : Bool) (k f : Nat) (g : Nat) (acc : List St) (j : Nat) (bd : Bool) : Prop := (∀ x jf bf, Out bd j (pSs T g acc j) x jf bf → Out bad k (pB T f k) x jf bf) ∧ (bd = false → pSs T g acc j ≠ none)
theorem Out.bad {α : Type} {k j : Nat} {R : PR α} {x : α} {bf : Bool} (h : Out true k R x j bf) : bf = true ∧ j = k := by
 rcases h with ⟨-, h1, h2⟩ | ⟨h, -⟩ | ⟨h, -⟩
 ·exact ⟨h1, h2⟩
 ·cases h
 ·cases h
theorem Out.good {α : Type} {k j : Nat} {bad : Bool} {R : PR α} {x : α} (h : Out bad k R x j false) : bad = false ∧ R = some (.ok (x, j)) := by
 rcases h with ⟨-, h1, h2⟩ | ⟨h, -, h2⟩ | ⟨h, h2, -⟩
 ·cases h1
 ·exact ⟨h, h2⟩
 ·cases h2
theorem RestB.start {T : List Wd} {bad bd : Bool} {k f j : Nat} {u : Unit} (hne : bad = false → pB T f k ≠ none) (h : Out bad k (want T sBlO k) u j bd) : RestB T bad k f (f - 1) [] j bd := by
 cases f with
 | zero =>
  cases bad
  ·exact absurd (pB_zero T k) (hne rfl)
  ·obtain ⟨rfl, rfl⟩ := h.bad
   exact ⟨fun x jf bf hx => by obtain ⟨rfl, rfl⟩ := hx.bad; exact .inl ⟨rfl, rfl, rfl⟩, fun e => by cases e⟩
 | succ f =>
  refine ⟨fun x jf bf hx => ?_, fun e => ?_⟩
  ·rw [pB]
   exact h.bind (R2 := fun _ j => pSs T f [] j) hx
  ·subst e
   obtain ⟨h1, h2⟩ := h.good
   have h3 := hne h1
   rw [pB, h2, andT_ok] at h3
   exact h3
theorem RestB.next {T : List Wd} {bad bd : Bool} {k f g j j2 : Nat} {acc : List St} {st : St} (h : RestB T bad k f (g + 1) acc j false) (hs : isT T j sBlS = false) (ho : Out false j (pS T g j) st j2 bd) : RestB T bad k f g (acc ++ [st]) j2 bd := by
 have hp : pSs T (g + 1) acc j = andT (pS T g j) fun s j => pSs T g (acc ++ [s]) j := by
  rw [pSs, if_neg (by rw [hs]; exact Bool.false_ne_true)]
 refine ⟨fun x jf bf hx => ?_, fun e => ?_⟩
 ·refine h.1 x jf bf ?_
  rw [hp]
  exact ho.bind (R2 := fun s j => pSs T g (acc ++ [s]) j) hx
 ·subst e
  have h3 := h.2 rfl
  rw [hp, ho.good.2, andT_ok] at h3
  exact h3
theorem RestB.pos {T : List Wd} {bad : Bool} {k f g j : Nat} {acc : List St} (h : RestB T bad k f g acc j false) : ∃ g', g = g' + 1 ∧ (isT T j sBlS = false → pS T g' j ≠ none) := by
 have h2 := h.2 rfl
 cases g with
 | zero => exact absurd (pSs_zero T acc j) h2
 | succ g =>
  refine ⟨g, rfl, fun hs e => h2 ?_⟩
  rw [pSs, if_neg (by rw [hs]; exact Bool.false_ne_true), e]
  rfl
theorem RestB.stop {T : List Wd} {bad bd bf : Bool} {k f g j jf : Nat} {acc : List St} {u : Unit} (h : RestB T bad k f g acc j bd) (hs : bd = false → isT T j sBlS = true) (ho : Out bd j (want T sBlS j) u jf bf) : Out bad k (pB T f k) acc jf bf := by
 refine h.1 acc jf bf ?_
 cases bd
 ·obtain ⟨g, rfl, -⟩ := h.pos
  rw [pSs, if_pos (hs rfl)]
  unfold want at ho
  rw [if_pos (hs rfl)] at ho
  rcases ho with ⟨h1, -⟩ | ⟨-, rfl, h2⟩ | ⟨-, -, h2⟩
  ·cases h1
  ·cases h2
   exact .inr (.inl ⟨rfl, rfl, rfl⟩)
  ·cases h2
 ·obtain ⟨rfl, rfl⟩ := ho.bad
  exact .inl ⟨rfl, rfl, rfl⟩
set_option maxRecDepth 100000 in
set_option maxHeartbeats 8000000 in
theorem rblock_step {b : Nat} {S : Src} {f : Nat} {bad : Bool} (hS : ∀ g, g < f → DS b S g) : DB b S f bad := by
 intro w k h hne
 obtain ⟨i0, z0, hi0, hz0, hsz0, hzc0, hby0⟩ := info_el infoSt
 have hbw := h.lt
 have hmx := h.mx
 have hmust := rmust_any h sBlO
 have HN := Lib.hid hne
 have HH := Lib.hid h
 clear h hne
 go_enter Tryz.func88, Tryz.ntmps88
 go_wp2_with fail
 refine hmust.mono ?_
 rintro e W1 ⟨hk1, rfl, j1, bd1, hO1, h1⟩
 have HR := Lib.hid (RestB.start HN.out hO1)
 have HE := Lib.hid (And.intro h1 hk1)
 clear hmust h1 hk1 hO1 HN
 go_wp2_with fail
 go_loopg [3] (f - 1) (fun x v wr => ∃ (g : Nat) (acc : List St) (j : Nat) (bd : Bool), x = g ∧ (bd = false → acc.length ≤ j) ∧ g ≤ f - 1 ∧ Hid (RestB S.T bad k f g acc j bd) ∧ Hid (Grow elSt w.heap.size wr v acc) ∧ Hid (Dr wr b S j bd ∧ Kp w wr b b))
 case atStart => exact ⟨f - 1, [], j1, bd1, rfl, by simp, Nat.le_refl _, HR, Lib.hid (Grow.nil _ _ _), HE⟩
 case round =>
  clear HR HE
  obtain ⟨g0, acc, j, bd, hgk, hai, hgf, HR, HG, HE⟩ := hrel
  obtain ⟨a, cap, rfl, hcap⟩ := HG.out.form
  have c2 := HE.out.1.c2
  cases bd
  ·obtain ⟨g, rfl, hpS⟩ := HR.out.pos
   subst hgk
   have haj := hai rfl
   have hp := ris_any HE.out.1 sBlS
   obtain ⟨m, hm⟩ : ∃ m, isT S.T j sBlS = m := ⟨_, rfl⟩
   rw [hm] at hp hpS
   have HM := Lib.hid hm
   have HPS := Lib.hid hpS
   clear hm hpS hai
   go_wp2_with fail
   refine hp.mono ?_
   rintro e W2 ⟨rfl, hb2⟩
   obtain ⟨h1, hK1⟩ := HE.out
   have h2 := h1.below hb2
   have hK2 := hK1.trans (kp_same (b := b) hb2)
   have HG2 := Lib.hid (HG.out.kp (kp_same (b := b) hb2) hbw hbw)
   have hs1 := hK1.size
   have hs2 := hb2.size
   clear h1 hK1 HE HG hp hb2 c2
   cases m
   ·have hne2 := HPS.out rfl
    have hcl := hS g (by omega) W2 j h2 hne2
    obtain ⟨hjle, hjmx⟩ : j ≤ S.T.length ∧ S.T.length ≤ 1000000 := ⟨h2.le, h2.mx⟩
    go_wp2_with fail
    refine hcl.mono ?_
    rintro e W3 ⟨hk3, cs, st, j2, bd2, rfl, hL, hO3, h3⟩
    have hadv : bd2 = false → j < j2 := fun e => by
     subst e
     exact ((pS_adv S.T g).2.2 j st j2 h2.le hO3.good.2).1
    have hK3 := hK2.trans hk3
    have hG3 := Lib.hid (HG2.out.kp hk3 hbw hbw)
    have hs3 := hk3.size
    have hl := hL.cells.1
    have hbk : (Value.slice a acc.length cap).ownBlock = none ∨ ∃ g, (Value.slice a acc.length cap).ownBlock = some g ∧ g < W2.heap.size := by
     obtain ⟨cells, -, h5, -⟩ := HG2.out.own
     rcases ho : (Value.slice a acc.length cap).ownBlock with _ | g
     ·exact .inl rfl
     ·exact .inr ⟨g, rfl, (h5.lt g ho).2⟩
    have HL := Lib.hid (show elSt.L (fun c => w.heap.size ≤ c ∧ (Value.slice a acc.length cap).ownBlock ≠ some c) W3 cs st from StL.weak (fun c hc => by
     have hc2 : W2.heap.size ≤ c := hc
     refine ⟨by omega, fun e => ?_⟩
     rcases hbk with h6 | ⟨g, h6, h7⟩
     ·rw [h6] at e
      cases e
     ·rw [h6] at e
      cases e
      omega) hL)
    have HE := Lib.hid (And.intro h3 hK3)
    have HR3 := Lib.hid (HR.out.next HM.out hO3)
    have HB := Lib.hid hadv
    have hst := fold_cells zSt cs (by rw [hl]; rfl)
    unfold zSt at hst
    clear hL h3 hK3 hk3 hcl hbk HG2 h2 hK2 hne2 hO3 hadv HR HPS
    have ht53 : Tryz.prog.underlying 53 = some (.slice 64) := by kernel_rfl
    have hacc : acc.length ≤ 10000000 := by omega
    have hwB : w.heap.size ≤ W3.heap.size := by omega
    go_wp2_with (at_builtin; refine wpList_append_grow elSt rfl (.tmp 16) (.tmp 19) 53 rfl i0 z0 _ ht53 hi0 hz0 hsz0 rfl hzc0 (by decide) hby0 w.heap.size W3 _ (.slice a acc.length cap) acc rfl hG3 cs st HL rfl rfl hacc hwB ?_; intro gb gcap W4 hG4 hW4 hlt4)
    go_roundg g
    case measure => omega
    case rel =>
     obtain ⟨h3, hK3⟩ := HE.out
     have hb4 : Below w.heap.size W3 W4 := hW4.out
     refine ⟨g, acc ++ [st], j2, bd2, rfl, fun e => ?_, by omega, HR3, hG4, Lib.hid (And.intro ?_ (hK3.to hb4 (Nat.le_refl _)))⟩
     ·have := HB.out e
      simp
      omega
     ·exact HH.out.fin h3 (hK3.to hb4 (Nat.le_refl _)) (hb4.block b hbw)
   ·have hmust := rmust_any h2 sBlS
    go_wp2_with fail
    refine hmust.mono ?_
    rintro e W3 ⟨hk3, rfl, j3, bd3, hO3, h3⟩
    go_wp2_with fail
    go_ret
    exact ⟨hK2.trans hk3, a, cap, acc, j3, bd3, rfl, hcap, (HG2.out.kp hk3 hbw hbw).sts, HR.out.stop (fun _ => HM.out) hO3, h3⟩
  ·have hmust := rmust_any HE.out.1 sBlS
   go_wp2_with fail
   refine hmust.mono ?_
   rintro e W3 ⟨hk3, rfl, j3, bd3, hO3, h3⟩
   go_wp2_with fail
   go_ret
   exact ⟨HE.out.2.trans hk3, a, cap, acc, j3, bd3, rfl, hcap, (HG.out.kp hk3 hbw hbw).sts, HR.out.stop (fun e => by cases e) hO3, h3⟩
end Go.Proofs.YtjmlmelcppbefaaGreatDoor
namespace Go.Proofs.YtjmlmelcppbefaaGreatDoor
open Go.RowKit Go.Maps
def stV : List Value := stW.map .string
set_option maxRecDepth 100000 in
theorem rkinds_any (w : World) : Calls Tryz.prog 138 #[] w fun e w' => ∃ g, e = .returned (.slice (some ⟨g, 0, none⟩) 16 16) ∧ w.heap.size ≤ g ∧ Blk w' g 9 stV ∧ Below w.heap.size w w' := by
 go_enter Tryz.func138, Tryz.ntmps138
 go_wp2_with fail
 go_ret
 refine ⟨_, rfl, Nat.le_refl _, World.alloc_heap_new _ _, (Below.refl _ w).alloc (Nat.le_refl _) _⟩
def kwOf (T : List Wd) (i : Nat) : Nat := if kindAt T i = 3 then stOf (T.getD i default).text else 0
theorem stOf_iff (s : ByteArray) (k : Nat) (hk : k < 16) (h1 : 1 ≤ k) : (decide (stW.getD k noB ≠ noB) && decide (stW.getD k noB = s)) = decide (stOf s = k) := by
 have hall : ∀ a, a < 16 → ∀ c, c < 16 → stW.getD a noB ≠ noB → stW.getD a noB = stW.getD c noB → a = c := by decide
 by_cases h : stW.getD k noB ≠ noB ∧ stW.getD k noB = s
 ·have : stOf s = k := by
   unfold stOf
   rcases hf : (List.range 16).find? fun k => decide (stW.getD k noB ≠ noB) && decide (stW.getD k noB = s) with _ | j
   ·have := List.find?_eq_none.1 hf k (List.mem_range.2 hk)
    rw [decide_eq_true h.1, decide_eq_true h.2] at this
    exact absurd rfl this
   ·have hj := List.find?_some hf
    have hj2 := List.mem_of_find?_eq_some hf
    simp only [Bool.and_eq_true, decide_eq_true_eq] at hj
    exact hall j (by simpa using hj2) k hk hj.1 (hj.2.trans h.2.symm)
  rw [this, decide_eq_true h.1, decide_eq_true h.2]
  simp
 ·have : stOf s ≠ k := by
   intro e
   unfold stOf at e
   rcases hf : (List.range 16).find? fun k => decide (stW.getD k noB ≠ noB) && decide (stW.getD k noB = s) with _ | j
   ·rw [hf] at e
    simp at e
    omega
   ·rw [hf] at e
    have hj := List.find?_some hf
    simp only [Bool.and_eq_true, decide_eq_true_eq] at hj
    have e2 : j = k := e
    subst e2
    exact h hj
  rw [decide_eq_false this]
  by_cases ha : stW.getD k noB ≠ noB
  ·have : ¬ stW.getD k noB = s := fun e => h ⟨ha, e⟩
   rw [decide_eq_false this, Bool.and_false]
  ·rw [decide_eq_false ha, Bool.false_and]
theorem kw_iff {T : List Wd} (k5 : ∀ i, (T.getD i default).kind = 4 → stOf (T.getD i default).text = 0) {i : Nat} (_hi : i ≤ T.length) (k : Nat) (hk : k < 16) (h1 : 1 ≤ k) : (decide (stW.getD k noB ≠ noB) && isT T i (stW.getD k noB)) = decide (kwOf T i = k) := by
 unfold isT kwOf kindAt
 by_cases hlt : i < T.length
 ·by_cases h3 : (T.getD i default).kind = 3
  ·simp only [hlt, h3, decide_true, Bool.true_and, Bool.true_or, if_true]
   rw [← stOf_iff _ k hk h1]
   congr 1
   first | rfl | (exact decide_eq_decide.2 eq_comm)
  ·rw [if_pos hlt, if_neg h3]
   by_cases h4 : (T.getD i default).kind = 4
   ·have h5 := k5 i h4
    have := stOf_iff (T.getD i default).text k hk h1
    rw [h5] at this
    simp only [hlt, h4, decide_true, Bool.true_and, Bool.or_true]
    rw [← this]
    congr 1
    first | rfl | (exact decide_eq_decide.2 eq_comm)
   ·rw [decide_eq_false h3, decide_eq_false h4, decide_eq_false (show ¬ (0 = k) by omega)]
    simp
 ·rw [decide_eq_false hlt, if_neg hlt, if_neg (by decide), decide_eq_false (show ¬ (0 = k) by omega)]
  simp
theorem pS_kw (T : List Wd) (f i : Nat) : pS T (f + 1) i = if kwOf T i = 0 then pAssign T (plOf T i) i else if kwOf T i = 5 then andT (pX T (i + 1)) fun x j => andT (pB T f j) fun b m => some (.ok (mkSt 5 (plOf T i) noB noB x zEx b [], m))
  else if kwOf T i = 4 then andT (pX T (i + 1)) fun x j => andT (pB T f j) fun b m =>
   if isT T m wElse = true then andT (pB T f (m + 1)) fun c n => some (.ok (mkSt 4 (plOf T i) noB noB x zEx b c, n)) else some (.ok (mkSt 4 (plOf T i) noB noB x zEx b [], m))
  else pPlain T (plOf T i) (kwOf T i) (i + 1) := by
 rw [pS]
 unfold kwOf
 by_cases h1 : kindAt T i = 1
 ·rw [if_pos h1, if_neg (show ¬ kindAt T i = 3 by rw [h1]; decide), if_pos rfl]
 ·rw [if_neg h1]
  by_cases h3 : kindAt T i = 3
  ·rw [if_pos h3]
   by_cases h0 : stOf (T.getD i default).text = 0
   ·rw [if_pos (.inr h0), if_pos h0]
    unfold pAssign pName
    rw [if_neg h1]
    rfl
   ·rw [if_neg (fun e => e.elim (fun e => e h3) h0), if_neg h0]
  ·rw [if_pos (.inl h3), if_neg h3, if_pos rfl]
   unfold pAssign pName
   rw [if_neg h1]
   rfl
end Go.Proofs.YtjmlmelcppbefaaGreatDoor
namespace Go.Proofs.YtjmlmelcppbefaaGreatDoor
open Go.RowKit Go.Maps
structure Ds (w : World) (b sb : Nat) (S : Src) (V : World) (j : Nat) (bd : Bool) (st : St) : Prop where
 s : Sb (w.heap.size + 1) V sb st
 r : Dr V b S j bd
 p : Kp w V b b
 z : Blk V w.heap.size 64 zSt.toList
 o : ∃ k0 b0, Dr w b S k0 b0
 B : w.heap.size + 1 ≤ sb
section
variable {w V V' : World} {b sb j j' : Nat} {S : Src} {bd bd' : Bool} {st : St}
theorem Ds.blt (h : Ds w b sb S V j bd st) : b < w.heap.size := by
 obtain ⟨k0, b0, h0⟩ := h.o
 exact h0.lt
theorem Ds.call (h : Ds w b sb S V j bd st) (hk : Kp V V' b b) (hr : Dr V' b S j' bd') : Ds w b sb S V' j' bd' st :=
 ⟨h.s.kp hk (by have := h.blt; omega) h.B, hr, h.p.trans hk, h.z.kp hk (by have := h.blt; omega) (by have := h.blt; omega), h.o, h.B⟩
theorem Ds.write {st' : St} (h : Ds w b sb S V j bd st) (hs : Sb (w.heap.size + 1) V' sb st') (hk : Kp w V' b b) (hw : ∀ c, c ≠ sb → V'.heap[c]? = V.heap[c]?) : Ds w b sb S V' j bd st' := by
 obtain ⟨k0, b0, h0⟩ := h.o
 have h1 := h0.lt
 have h2 := h.B
 exact ⟨hs, h0.fin h.r hk (hw b (by omega)), hk, h.z.of (hw _ (by omega)), h.o, h.B⟩
theorem Ds.cell1 {st' : St} (h : Ds w b sb S V j bd st) (n : Nat) (u : Value) (hs : Sb (w.heap.size + 1) (V.setCell ⟨sb, n, none⟩ u) sb st') : Ds w b sb S (V.setCell ⟨sb, n, none⟩ u) j bd st' :=
 h.write hs (h.p.setNew (by have := h.B; omega) n u) (fun c hc => Below.heap_setCell V ⟨sb, n, none⟩ u c hc)
theorem Ds.cellN {st' : St} (h : Ds w b sb S V j bd st) (n : Nat) (cz : List Value) (hs : Sb (w.heap.size + 1) (V.setCells sb n cz) sb st') : Ds w b sb S (V.setCells sb n cz) j bd st' :=
 h.write hs (Kp.setCellsNew (by have := h.B; omega) cz n h.p) (fun c hc => heap_setCells hc cz n V)
theorem Ds.kind (h : Ds w b sb S V j bd st) (q : Int) : Ds w b sb S (V.setCell ⟨sb, 0, none⟩ (.int .i64 q)) j bd (st.setKind q) := h.cell1 0 _ (h.s.kind q)
theorem Ds.name (h : Ds w b sb S V j bd st) (q : ByteArray) : Ds w b sb S (V.setCell ⟨sb, 3, none⟩ (.string q)) j bd (st.setName q) := h.cell1 3 _ (h.s.name q)
theorem Ds.wth (h : Ds w b sb S V j bd st) (q : ByteArray) : Ds w b sb S (V.setCell ⟨sb, 4, none⟩ (.string q)) j bd (st.setWith q) := h.cell1 4 _ (h.s.wth q)
theorem Ds.expr (h : Ds w b sb S V j bd st) {cz : List Value} {x : Ex} (hx : ExL (fun c => w.heap.size + 1 ≤ c ∧ c ≠ sb) V cz x) : Ds w b sb S (V.setCells sb 5 cz) j bd (st.setExpr x) := h.cellN 5 cz (h.s.expr hx)
theorem Ds.index (h : Ds w b sb S V j bd st) {cz : List Value} {x : Ex} (hx : ExL (fun c => w.heap.size + 1 ≤ c ∧ c ≠ sb) V cz x) : Ds w b sb S (V.setCells sb 12 cz) j bd (st.setIndex x) := h.cellN 12 cz (h.s.index hx)
theorem Ds.body (h : Ds w b sb S V j bd st) {a0 : Option Addr} {l0 : List St} {cap0 : Nat} (hl : Roomy l0.length cap0) (hz : StsL (fun c => w.heap.size + 1 ≤ c ∧ c ≠ sb) V a0 0 l0) : Ds w b sb S (V.setCell ⟨sb, 19, none⟩ (.slice a0 l0.length cap0)) j bd (st.setBody l0) := h.cell1 19 _ (h.s.body hl hz)
theorem Ds.els (h : Ds w b sb S V j bd st) {a0 : Option Addr} {l0 : List St} {cap0 : Nat} (hl : Roomy l0.length cap0) (hz : StsL (fun c => w.heap.size + 1 ≤ c ∧ c ≠ sb) V a0 0 l0) : Ds w b sb S (V.setCell ⟨sb, 20, none⟩ (.slice a0 l0.length cap0)) j bd (st.setEls l0) := h.cell1 20 _ (h.s.els hl hz)
theorem Ds.step (h : Ds w b sb S V j bd st) (hj : j < S.T.length) : Ds w b sb S (V.setCell ⟨b, 1, none⟩ (.int .i64 ((j : Int) + 1))) (j + 1) bd st :=
 h.call ((Kp.refl V b b).setA 1 _) (h.r.step hj)
theorem Ds.part {cs : List Value} {x : Ex} (h : Ds w b sb S V j bd st) (hX : ExL (V.heap.size ≤ ·) V' cs x) : ExL (fun c => w.heap.size + 1 ≤ c ∧ c ≠ sb) V' cs x :=
 ExL.weak (fun c hc => by have h1 := h.B; have h2 := h.s.lt; have h3 : V.heap.size ≤ c := hc; exact ⟨by omega, by omega⟩) hX
theorem Ds.parts {a : Option Addr} {l : List St} (h : Ds w b sb S V j bd st) (hX : StsL (V.heap.size ≤ ·) V' a 0 l) : StsL (fun c => w.heap.size + 1 ≤ c ∧ c ≠ sb) V' a 0 l :=
 StsL.weak (fun c hc => by have h1 := h.B; have h2 := h.s.lt; have h3 : V.heap.size ≤ c := hc; exact ⟨by omega, by omega⟩) hX
def St.kd : St → Int
 | .mk k _ _ _ _ _ _ _ _ _ _ _ _ => k
theorem St.kind_cell {ok : Nat → Prop} {W : World} {cs : List Value} : ∀ {s : St}, StL ok W cs s → cs[0]? = some (.int .i64 s.kd)
 | .mk k l c s t x y b e i sl ot lo, h => by
  unfold StL at h
  obtain ⟨cx, cy, a, a', cap, cap', rfl, -⟩ := h
  rfl
theorem Ds.c0 (h : Ds w b sb S V j bd st) : V.cell? ⟨sb, 0, none⟩ = some (.int .i64 st.kd) := by
 obtain ⟨cs, h1, h2⟩ := h.s
 exact (h1.cell 0).trans (St.kind_cell h2)
theorem Ds.told {k : Nat} {R : PR St} (h : Ds w b sb S V j bd st) (hO : Out false k R st j bd) : ∃ cs : List Value, Blk V sb 64 cs ∧ cs.length = 25 ∧ (∀ v ∈ cs, v.oneCell' = true) ∧ Blk (V.setCells w.heap.size 0 cs) w.heap.size 64 cs ∧ DSk w b S k R (.returned (.agg cs.toArray)) (V.setCells w.heap.size 0 cs) := by
 obtain ⟨cs, h1, h2⟩ := h.s
 obtain ⟨k0, b0, h0⟩ := h.o
 have hl := h2.cells.1
 have hb := h.blt
 have hKV := Kp.setCellsNew (Nat.le_refl w.heap.size) cs 0 h.p
 refine ⟨cs, h1, hl, h2.cells.2, h.z.putAll (by rw [hl]; rfl), hKV, cs, st, j, bd, rfl, ?_, hO, h0.fin h.r hKV (heap_setCells (by omega) cs 0 V)⟩
 refine StL.weak (fun c hcc => (by have := hcc.1; omega : w.heap.size ≤ c)) (StL.keep (fun c o v hcc hv => ?_) h2)
 rw [← hv]
 simp [World.cell?, heap_setCells (w := V) (vs := cs) (o := 0) (show c ≠ w.heap.size by have := hcc.1; omega)]
end
theorem Out.from {α : Type} {k k' j : Nat} {R : PR α} {x : α} {bf : Bool} (h : Out false k R x j bf) : Out false k' R x j bf := by
 rcases h with ⟨h, -⟩ | h | h
 ·cases h
 ·exact .inr (.inl h)
 ·exact .inr (.inr h)
theorem pX_ne (T : List Wd) {i : Nat} (hi : i ≤ T.length) : pE T (4 * T.length + 4) 1 i ≠ none := by
 obtain ⟨R, h, -⟩ := pX_total T hi
 unfold pX at h
 rw [h]
 exact fun e => by cases e
end Go.Proofs.YtjmlmelcppbefaaGreatDoor
namespace Go.Proofs.YtjmlmelcppbefaaGreatDoor
open Go.RowKit Go.Maps
def dropS : Nat → Code → Code
 | 0, c => c
 | n + 1, .seq _ c => dropS n c
 | _, c => c
theorem pl14 (T : List Wd) (p : Int × Int) (i : Nat) : pPlain T p 14 i = andT (want T sSemi i) fun _ j => some (.ok (mkSt 14 p noB noB zEx zEx [] [], j)) := rfl
theorem pl15 (T : List Wd) (p : Int × Int) (i : Nat) : pPlain T p 15 i = andT (pX T i) fun x j => andT (want T sSemi j) fun _ m => some (.ok (mkSt 15 p noB noB x zEx [] [], m)) := rfl
theorem pl1 (T : List Wd) (p : Int × Int) (i : Nat) : pPlain T p 1 i = andT (pName T i) fun s j => andT (want T sEq j) fun _ m => andT (pX T m) fun x n => andT (want T sSemi n) fun _ q => some (.ok (mkSt 1 p s noB x zEx [] [], q)) := rfl
theorem pl11 (T : List Wd) (p : Int × Int) (i : Nat) : pPlain T p 11 i = andT (pName T i) fun s j => andT (pX T j) fun x m => andT (want T sSemi m) fun _ q => some (.ok (mkSt 11 p s noB x zEx [] [], q)) := rfl
theorem pl8 (T : List Wd) (p : Int × Int) (i : Nat) : pPlain T p 8 i = andT (pName T i) fun s j => andT (pName T j) fun t m => andT (want T sSemi m) fun _ q => some (.ok (mkSt 8 p s t zEx zEx [] [], q)) := rfl
theorem pl12 (T : List Wd) (p : Int × Int) (i : Nat) : pPlain T p 12 i = andT (pName T i) fun s j => andT (pName T j) fun t m => andT (want T sSemi m) fun _ q => some (.ok (mkSt 12 p s t zEx zEx [] [], q)) := rfl
theorem pl6 (T : List Wd) (p : Int × Int) (i : Nat) : pPlain T p 6 i = andT (pName T i) fun s j => andT (want T sSemi j) fun _ q => some (.ok (mkSt 6 p s noB zEx zEx [] [], q)) := rfl
theorem pl7 (T : List Wd) (p : Int × Int) (i : Nat) : pPlain T p 7 i = andT (pName T i) fun s j => andT (want T sSemi j) fun _ q => some (.ok (mkSt 7 p s noB zEx zEx [] [], q)) := rfl
theorem pl9 (T : List Wd) (p : Int × Int) (i : Nat) : pPlain T p 9 i = andT (pName T i) fun s j => andT (want T sSemi j) fun _ q => some (.ok (mkSt 9 p s noB zEx zEx [] [], q)) := rfl
theorem pl10 (T : List Wd) (p : Int × Int) (i : Nat) : pPlain T p 10 i = andT (pName T i) fun s j => andT (want T sSemi j) fun _ q => some (.ok (mkSt 10 p s noB zEx zEx [] [], q)) := rfl
theorem pl13 (T : List Wd) (p : Int × Int) (i : Nat) : pPlain T p 13 i = andT (pName T i) fun s j => andT (want T sSemi j) fun _ q => some (.ok (mkSt 13 p s noB zEx zEx [] [], q)) := rfl
set_option maxRecDepth 100000 in
set_option maxHeartbeats 8000000 in
theorem ds14 {w V : World} {b sb k : Nat} {S : Src} {li co : Int}  (hk : k < S.T.length) (h : Ds w b sb S V k false (mkSt 14 (li, co) noB noB zEx zEx [] [])) {u1 u4 u5 u6 u7 u8 u9 u10 u11 u12 u13 u14 u15 u16 u17 u18 u19 u20 u21 u22 u23 u24 u25 u26 u27 u28 u29 u30 u31 u32 u33 u34 u35 u36 u37 u38 u39 u40 u41 u42 u43 u44 u45 u46 u47 u48 u49 u50 u51 u52 u53 u54 u55 u56 u57 u58 u59 u60 u61 u62 u63 u64 u65 u66 u67 u68 u69 u70 u71 u72 u73 u74 u75 u76 u77 u78 u79 u80 u81 u82 u83 u84 u85 u86 u87 u88 u89 u90 u91 u92 u93 u94 u95 u96 u97 u98 u99 u100 u101 u102 u103 u104 u105 u106 u107 u108 u109 u110 u111 u112 : Value} :
  Code.wp Tryz.prog (dropS 4 (Tryz.f124.body.getD .skip)) (bodyPost Tryz.prog Tryz.f124 (DSk w b S k (pPlain S.T (li, co) 14 (k + 1)))) ⟨#[.pointer (some ⟨b, 0, none⟩), u1, .pointer (some ⟨w.heap.size, 0, none⟩), .pointer (some ⟨sb, 0, none⟩), u4, u5, u6, u7, u8, u9, u10, u11, u12, u13, u14, u15, u16, u17, u18, u19, u20, u21, u22, u23, u24, u25, u26, u27, u28, u29, u30, u31, u32, u33, u34, u35, u36, u37, u38, u39, u40, u41, u42, u43, u44, u45, u46, u47, u48, u49, u50, u51, u52, u53, u54, u55, u56, u57, u58, u59, u60, u61, u62, u63, u64, u65, u66, u67, u68, u69, u70, u71, u72, u73, u74, u75, u76, u77, u78, u79, u80, u81, u82, u83, u84, u85, u86, u87, u88, u89, u90, u91, u92, u93, u94, u95, u96, u97, u98, u99, u100, u101, u102, u103, u104, u105, u106, u107, u108, u109, u110, u111, u112], []⟩ V := by
 obtain ⟨d64, hu64, hr64⟩ := under64
 conv in (dropS _ _) => whnf
 have hmx := h.r.mx
 have hkm : (k : Int) < 1000000 := by omega
 have c0 := h.c0
 have c1 := h.r.c1
 have f1 := h.r.hd.frozen 1
 have hs0 : sb ≠ b := by have := h.B; have := h.blt; omega
 have h1 := h.step hk
 have HE := Lib.hid h1
 clear h h1
 have e0 : (mkSt 14 (li, co) noB noB zEx zEx [] []).kd = 14 := rfl
 rw [e0] at c0
 clear e0
 go_wp2_with fail
 clear c0 c1 f1
 generalize V.setCell ⟨b, 1, none⟩ (.int .i64 ((k : Int) + 1)) = V1 at *
 obtain hQ2 := HE.out
 clear HE
 refine (rmust_any hQ2.r sSemi).mono ?_
 rintro e W2 ⟨hk2, rfl, j2, b2, O2, r2⟩
 have HE := Lib.hid (hQ2.call hk2 r2)
 have HO2 := Lib.hid O2
 clear hQ2 hk2 r2 O2
 obtain hQ := HE.out
 clear HE
 have hO : Out false k (pPlain S.T (li, co) 14 (k + 1)) (mkSt 14 (li, co) noB noB zEx zEx [] []) j2 b2 := by
  rw [pl14]
  refine Out.from (k := k + 1) (HO2.out.bind (Out.pure _ _ _))
 obtain ⟨cs, hb, hl, h1c, hz, hD⟩ := hQ.told hO
 have HZ := Lib.hid hQ.z
 have HB := Lib.hid hb
 have HF := Lib.hid (And.intro hz hD)
 clear hQ hO hb hz hD
 go_wp2_with (first | ((with_reducible show wpList _ _ _ (Oper.mk none (.store 64 _ _) _ _ _ _ :: _) _ _); refine wpList_store_blk info64 rfl (.tmp 2) (.tmp 112) rfl w.heap.size cs zSt.toList rfl rfl HZ rfl hl h1c ?_) | ((with_reducible show wpList _ _ _ (Oper.mk _ (.load 64 _) _ _ _ _ :: _) _ _); refine wpList_load_blk hu64 hr64 info64 rfl (.tmp 3) rfl sb cs rfl HB hl ?_))
 exact end_blk hu64 hr64 info64 HF.out.1 hl rfl rfl rfl HF.out.2
set_option maxRecDepth 100000 in
set_option maxHeartbeats 8000000 in
theorem ds15 {w V : World} {b sb k : Nat} {S : Src} {li co : Int}  (hk : k < S.T.length) (h : Ds w b sb S V k false (mkSt 15 (li, co) noB noB zEx zEx [] [])) {u1 u4 u5 u6 u7 u8 u9 u10 u11 u12 u13 u14 u15 u16 u17 u18 u19 u20 u21 u22 u23 u24 u25 u26 u27 u28 u29 u30 u31 u32 u33 u34 u35 u36 u37 u38 u39 u40 u41 u42 u43 u44 u45 u46 u47 u48 u49 u50 u51 u52 u53 u54 u55 u56 u57 u58 u59 u60 u61 u62 u63 u64 u65 u66 u67 u68 u69 u70 u71 u72 u73 u74 u75 u76 u77 u78 u79 u80 u81 u82 u83 u84 u85 u86 u87 u88 u89 u90 u91 u92 u93 u94 u95 u96 u97 u98 u99 u100 u101 u102 u103 u104 u105 u106 u107 u108 u109 u110 u111 u112 : Value} :
  Code.wp Tryz.prog (dropS 4 (Tryz.f124.body.getD .skip)) (bodyPost Tryz.prog Tryz.f124 (DSk w b S k (pPlain S.T (li, co) 15 (k + 1)))) ⟨#[.pointer (some ⟨b, 0, none⟩), u1, .pointer (some ⟨w.heap.size, 0, none⟩), .pointer (some ⟨sb, 0, none⟩), u4, u5, u6, u7, u8, u9, u10, u11, u12, u13, u14, u15, u16, u17, u18, u19, u20, u21, u22, u23, u24, u25, u26, u27, u28, u29, u30, u31, u32, u33, u34, u35, u36, u37, u38, u39, u40, u41, u42, u43, u44, u45, u46, u47, u48, u49, u50, u51, u52, u53, u54, u55, u56, u57, u58, u59, u60, u61, u62, u63, u64, u65, u66, u67, u68, u69, u70, u71, u72, u73, u74, u75, u76, u77, u78, u79, u80, u81, u82, u83, u84, u85, u86, u87, u88, u89, u90, u91, u92, u93, u94, u95, u96, u97, u98, u99, u100, u101, u102, u103, u104, u105, u106, u107, u108, u109, u110, u111, u112], []⟩ V := by
 obtain ⟨d64, hu64, hr64⟩ := under64
 conv in (dropS _ _) => whnf
 have hmx := h.r.mx
 have hkm : (k : Int) < 1000000 := by omega
 have c0 := h.c0
 have c1 := h.r.c1
 have f1 := h.r.hd.frozen 1
 have hs0 : sb ≠ b := by have := h.B; have := h.blt; omega
 have h1 := h.step hk
 have HE := Lib.hid h1
 clear h h1
 have e0 : (mkSt 15 (li, co) noB noB zEx zEx [] []).kd = 15 := rfl
 rw [e0] at c0
 clear e0
 go_wp2_with fail
 clear c0 c1 f1
 generalize V.setCell ⟨b, 1, none⟩ (.int .i64 ((k : Int) + 1)) = V1 at *
 obtain hQ2 := HE.out
 clear HE
 have hne2 := pX_ne S.T hQ2.r.le
 have hcl2 := rexpr_any b S (4 * S.T.length + 4) _ _ 1 _ (by decide) (by decide) hQ2.r (fun _ => hne2)
 refine hcl2.mono ?_
 rintro e W2 ⟨hk2, cs2, x2, j2, b2, rfl, hX2, O2, r2⟩
 have q2 := hQ2.call hk2 r2
 have y2 := hQ2.part hX2
 clear hQ2 hk2 r2 hX2 hcl2 hne2
 have hr2 := st_run (q2.s.there (o := 5) (n := 7) (by decide)) y2.cells.1 y2.cells.2
 have hl2 := y2.cells.1
 have HE := Lib.hid (q2.expr y2)
 have HO2 := Lib.hid O2
 clear q2 O2 y2
 go_wp2_with fail
 clear hr2 hl2
 generalize W2.setCells sb 5 cs2 = V2 at *
 obtain hQ3 := HE.out
 clear HE
 refine (rmust_any hQ3.r sSemi).mono ?_
 rintro e W3 ⟨hk3, rfl, j3, b3, O3, r3⟩
 have HE := Lib.hid (hQ3.call hk3 r3)
 have HO3 := Lib.hid O3
 clear hQ3 hk3 r3 O3
 obtain hQ := HE.out
 clear HE
 have hO : Out false k (pPlain S.T (li, co) 15 (k + 1)) ((mkSt 15 (li, co) noB noB zEx zEx [] []).setExpr x2) j3 b3 := by
  rw [pl15]
  refine Out.from (k := k + 1) (HO2.out.bind (HO3.out.bind (Out.pure _ _ _)))
 obtain ⟨cs, hb, hl, h1c, hz, hD⟩ := hQ.told hO
 have HZ := Lib.hid hQ.z
 have HB := Lib.hid hb
 have HF := Lib.hid (And.intro hz hD)
 clear hQ hO hb hz hD
 go_wp2_with (first | ((with_reducible show wpList _ _ _ (Oper.mk none (.store 64 _ _) _ _ _ _ :: _) _ _); refine wpList_store_blk info64 rfl (.tmp 2) (.tmp 112) rfl w.heap.size cs zSt.toList rfl rfl HZ rfl hl h1c ?_) | ((with_reducible show wpList _ _ _ (Oper.mk _ (.load 64 _) _ _ _ _ :: _) _ _); refine wpList_load_blk hu64 hr64 info64 rfl (.tmp 3) rfl sb cs rfl HB hl ?_))
 exact end_blk hu64 hr64 info64 HF.out.1 hl rfl rfl rfl HF.out.2
set_option maxRecDepth 100000 in
set_option maxHeartbeats 8000000 in
theorem ds1 {w V : World} {b sb k : Nat} {S : Src} {li co : Int}  (hk : k < S.T.length) (h : Ds w b sb S V k false (mkSt 1 (li, co) noB noB zEx zEx [] [])) {u1 u4 u5 u6 u7 u8 u9 u10 u11 u12 u13 u14 u15 u16 u17 u18 u19 u20 u21 u22 u23 u24 u25 u26 u27 u28 u29 u30 u31 u32 u33 u34 u35 u36 u37 u38 u39 u40 u41 u42 u43 u44 u45 u46 u47 u48 u49 u50 u51 u52 u53 u54 u55 u56 u57 u58 u59 u60 u61 u62 u63 u64 u65 u66 u67 u68 u69 u70 u71 u72 u73 u74 u75 u76 u77 u78 u79 u80 u81 u82 u83 u84 u85 u86 u87 u88 u89 u90 u91 u92 u93 u94 u95 u96 u97 u98 u99 u100 u101 u102 u103 u104 u105 u106 u107 u108 u109 u110 u111 u112 : Value} :
  Code.wp Tryz.prog (dropS 4 (Tryz.f124.body.getD .skip)) (bodyPost Tryz.prog Tryz.f124 (DSk w b S k (pPlain S.T (li, co) 1 (k + 1)))) ⟨#[.pointer (some ⟨b, 0, none⟩), u1, .pointer (some ⟨w.heap.size, 0, none⟩), .pointer (some ⟨sb, 0, none⟩), u4, u5, u6, u7, u8, u9, u10, u11, u12, u13, u14, u15, u16, u17, u18, u19, u20, u21, u22, u23, u24, u25, u26, u27, u28, u29, u30, u31, u32, u33, u34, u35, u36, u37, u38, u39, u40, u41, u42, u43, u44, u45, u46, u47, u48, u49, u50, u51, u52, u53, u54, u55, u56, u57, u58, u59, u60, u61, u62, u63, u64, u65, u66, u67, u68, u69, u70, u71, u72, u73, u74, u75, u76, u77, u78, u79, u80, u81, u82, u83, u84, u85, u86, u87, u88, u89, u90, u91, u92, u93, u94, u95, u96, u97, u98, u99, u100, u101, u102, u103, u104, u105, u106, u107, u108, u109, u110, u111, u112], []⟩ V := by
 obtain ⟨d64, hu64, hr64⟩ := under64
 conv in (dropS _ _) => whnf
 have hmx := h.r.mx
 have hkm : (k : Int) < 1000000 := by omega
 have c0 := h.c0
 have c1 := h.r.c1
 have f1 := h.r.hd.frozen 1
 have hs0 : sb ≠ b := by have := h.B; have := h.blt; omega
 have h1 := h.step hk
 have HE := Lib.hid h1
 clear h h1
 have e0 : (mkSt 1 (li, co) noB noB zEx zEx [] []).kd = 1 := rfl
 rw [e0] at c0
 clear e0
 go_wp2_with fail
 clear c0 c1 f1
 generalize V.setCell ⟨b, 1, none⟩ (.int .i64 ((k : Int) + 1)) = V1 at *
 obtain hQ2 := HE.out
 clear HE
 refine (rname_rd hQ2.r).mono ?_
 rintro e W2 ⟨hk2, x2, j2, b2, rfl, O2, r2⟩
 have q2 := hQ2.call hk2 r2
 clear hQ2 hk2 r2
 obtain ⟨v3, c3⟩ := q2.s.cell (j := 3) (by decide)
 have f3 := q2.s.frozen 3
 have HE := Lib.hid (q2.name x2)
 have HO2 := Lib.hid O2
 clear q2 O2
 go_wp2_with fail
 clear c3 f3
 generalize W2.setCell ⟨sb, 3, none⟩ (.string x2) = V2 at *
 obtain hQ3 := HE.out
 clear HE
 refine (rmust_any hQ3.r sEq).mono ?_
 rintro e W3 ⟨hk3, rfl, j3, b3, O3, r3⟩
 have HE := Lib.hid (hQ3.call hk3 r3)
 have HO3 := Lib.hid O3
 clear hQ3 hk3 r3 O3
 go_wp2_with fail
 obtain hQ4 := HE.out
 clear HE
 have hne4 := pX_ne S.T hQ4.r.le
 have hcl4 := rexpr_any b S (4 * S.T.length + 4) _ _ 1 _ (by decide) (by decide) hQ4.r (fun _ => hne4)
 refine hcl4.mono ?_
 rintro e W4 ⟨hk4, cs4, x4, j4, b4, rfl, hX4, O4, r4⟩
 have q4 := hQ4.call hk4 r4
 have y4 := hQ4.part hX4
 clear hQ4 hk4 r4 hX4 hcl4 hne4
 have hr4 := st_run (q4.s.there (o := 5) (n := 7) (by decide)) y4.cells.1 y4.cells.2
 have hl4 := y4.cells.1
 have HE := Lib.hid (q4.expr y4)
 have HO4 := Lib.hid O4
 clear q4 O4 y4
 go_wp2_with fail
 clear hr4 hl4
 generalize W4.setCells sb 5 cs4 = V4 at *
 obtain hQ5 := HE.out
 clear HE
 refine (rmust_any hQ5.r sSemi).mono ?_
 rintro e W5 ⟨hk5, rfl, j5, b5, O5, r5⟩
 have HE := Lib.hid (hQ5.call hk5 r5)
 have HO5 := Lib.hid O5
 clear hQ5 hk5 r5 O5
 obtain hQ := HE.out
 clear HE
 have hO : Out false k (pPlain S.T (li, co) 1 (k + 1)) (((mkSt 1 (li, co) noB noB zEx zEx [] []).setName x2).setExpr x4) j5 b5 := by
  rw [pl1]
  refine Out.from (k := k + 1) (HO2.out.bind (HO3.out.bind (HO4.out.bind (HO5.out.bind (Out.pure _ _ _)))))
 obtain ⟨cs, hb, hl, h1c, hz, hD⟩ := hQ.told hO
 have HZ := Lib.hid hQ.z
 have HB := Lib.hid hb
 have HF := Lib.hid (And.intro hz hD)
 clear hQ hO hb hz hD
 go_wp2_with (first | ((with_reducible show wpList _ _ _ (Oper.mk none (.store 64 _ _) _ _ _ _ :: _) _ _); refine wpList_store_blk info64 rfl (.tmp 2) (.tmp 112) rfl w.heap.size cs zSt.toList rfl rfl HZ rfl hl h1c ?_) | ((with_reducible show wpList _ _ _ (Oper.mk _ (.load 64 _) _ _ _ _ :: _) _ _); refine wpList_load_blk hu64 hr64 info64 rfl (.tmp 3) rfl sb cs rfl HB hl ?_))
 exact end_blk hu64 hr64 info64 HF.out.1 hl rfl rfl rfl HF.out.2
set_option maxRecDepth 100000 in
set_option maxHeartbeats 8000000 in
theorem ds11 {w V : World} {b sb k : Nat} {S : Src} {li co : Int}  (hk : k < S.T.length) (h : Ds w b sb S V k false (mkSt 11 (li, co) noB noB zEx zEx [] [])) {u1 u4 u5 u6 u7 u8 u9 u10 u11 u12 u13 u14 u15 u16 u17 u18 u19 u20 u21 u22 u23 u24 u25 u26 u27 u28 u29 u30 u31 u32 u33 u34 u35 u36 u37 u38 u39 u40 u41 u42 u43 u44 u45 u46 u47 u48 u49 u50 u51 u52 u53 u54 u55 u56 u57 u58 u59 u60 u61 u62 u63 u64 u65 u66 u67 u68 u69 u70 u71 u72 u73 u74 u75 u76 u77 u78 u79 u80 u81 u82 u83 u84 u85 u86 u87 u88 u89 u90 u91 u92 u93 u94 u95 u96 u97 u98 u99 u100 u101 u102 u103 u104 u105 u106 u107 u108 u109 u110 u111 u112 : Value} :
  Code.wp Tryz.prog (dropS 4 (Tryz.f124.body.getD .skip)) (bodyPost Tryz.prog Tryz.f124 (DSk w b S k (pPlain S.T (li, co) 11 (k + 1)))) ⟨#[.pointer (some ⟨b, 0, none⟩), u1, .pointer (some ⟨w.heap.size, 0, none⟩), .pointer (some ⟨sb, 0, none⟩), u4, u5, u6, u7, u8, u9, u10, u11, u12, u13, u14, u15, u16, u17, u18, u19, u20, u21, u22, u23, u24, u25, u26, u27, u28, u29, u30, u31, u32, u33, u34, u35, u36, u37, u38, u39, u40, u41, u42, u43, u44, u45, u46, u47, u48, u49, u50, u51, u52, u53, u54, u55, u56, u57, u58, u59, u60, u61, u62, u63, u64, u65, u66, u67, u68, u69, u70, u71, u72, u73, u74, u75, u76, u77, u78, u79, u80, u81, u82, u83, u84, u85, u86, u87, u88, u89, u90, u91, u92, u93, u94, u95, u96, u97, u98, u99, u100, u101, u102, u103, u104, u105, u106, u107, u108, u109, u110, u111, u112], []⟩ V := by
 obtain ⟨d64, hu64, hr64⟩ := under64
 conv in (dropS _ _) => whnf
 have hmx := h.r.mx
 have hkm : (k : Int) < 1000000 := by omega
 have c0 := h.c0
 have c1 := h.r.c1
 have f1 := h.r.hd.frozen 1
 have hs0 : sb ≠ b := by have := h.B; have := h.blt; omega
 have h1 := h.step hk
 have HE := Lib.hid h1
 clear h h1
 have e0 : (mkSt 11 (li, co) noB noB zEx zEx [] []).kd = 11 := rfl
 rw [e0] at c0
 clear e0
 go_wp2_with fail
 clear c0 c1 f1
 generalize V.setCell ⟨b, 1, none⟩ (.int .i64 ((k : Int) + 1)) = V1 at *
 obtain hQ2 := HE.out
 clear HE
 refine (rname_rd hQ2.r).mono ?_
 rintro e W2 ⟨hk2, x2, j2, b2, rfl, O2, r2⟩
 have q2 := hQ2.call hk2 r2
 clear hQ2 hk2 r2
 obtain ⟨v3, c3⟩ := q2.s.cell (j := 3) (by decide)
 have f3 := q2.s.frozen 3
 have HE := Lib.hid (q2.name x2)
 have HO2 := Lib.hid O2
 clear q2 O2
 go_wp2_with fail
 clear c3 f3
 generalize W2.setCell ⟨sb, 3, none⟩ (.string x2) = V2 at *
 obtain hQ3 := HE.out
 clear HE
 have hne3 := pX_ne S.T hQ3.r.le
 have hcl3 := rexpr_any b S (4 * S.T.length + 4) _ _ 1 _ (by decide) (by decide) hQ3.r (fun _ => hne3)
 refine hcl3.mono ?_
 rintro e W3 ⟨hk3, cs3, x3, j3, b3, rfl, hX3, O3, r3⟩
 have q3 := hQ3.call hk3 r3
 have y3 := hQ3.part hX3
 clear hQ3 hk3 r3 hX3 hcl3 hne3
 have hr3 := st_run (q3.s.there (o := 5) (n := 7) (by decide)) y3.cells.1 y3.cells.2
 have hl3 := y3.cells.1
 have HE := Lib.hid (q3.expr y3)
 have HO3 := Lib.hid O3
 clear q3 O3 y3
 go_wp2_with fail
 clear hr3 hl3
 generalize W3.setCells sb 5 cs3 = V3 at *
 obtain hQ4 := HE.out
 clear HE
 refine (rmust_any hQ4.r sSemi).mono ?_
 rintro e W4 ⟨hk4, rfl, j4, b4, O4, r4⟩
 have HE := Lib.hid (hQ4.call hk4 r4)
 have HO4 := Lib.hid O4
 clear hQ4 hk4 r4 O4
 obtain hQ := HE.out
 clear HE
 have hO : Out false k (pPlain S.T (li, co) 11 (k + 1)) (((mkSt 11 (li, co) noB noB zEx zEx [] []).setName x2).setExpr x3) j4 b4 := by
  rw [pl11]
  refine Out.from (k := k + 1) (HO2.out.bind (HO3.out.bind (HO4.out.bind (Out.pure _ _ _))))
 obtain ⟨cs, hb, hl, h1c, hz, hD⟩ := hQ.told hO
 have HZ := Lib.hid hQ.z
 have HB := Lib.hid hb
 have HF := Lib.hid (And.intro hz hD)
 clear hQ hO hb hz hD
 go_wp2_with (first | ((with_reducible show wpList _ _ _ (Oper.mk none (.store 64 _ _) _ _ _ _ :: _) _ _); refine wpList_store_blk info64 rfl (.tmp 2) (.tmp 112) rfl w.heap.size cs zSt.toList rfl rfl HZ rfl hl h1c ?_) | ((with_reducible show wpList _ _ _ (Oper.mk _ (.load 64 _) _ _ _ _ :: _) _ _); refine wpList_load_blk hu64 hr64 info64 rfl (.tmp 3) rfl sb cs rfl HB hl ?_))
 exact end_blk hu64 hr64 info64 HF.out.1 hl rfl rfl rfl HF.out.2
set_option maxRecDepth 100000 in
set_option maxHeartbeats 8000000 in
theorem ds8 {w V : World} {b sb k : Nat} {S : Src} {li co : Int}  (hk : k < S.T.length) (h : Ds w b sb S V k false (mkSt 8 (li, co) noB noB zEx zEx [] [])) {u1 u4 u5 u6 u7 u8 u9 u10 u11 u12 u13 u14 u15 u16 u17 u18 u19 u20 u21 u22 u23 u24 u25 u26 u27 u28 u29 u30 u31 u32 u33 u34 u35 u36 u37 u38 u39 u40 u41 u42 u43 u44 u45 u46 u47 u48 u49 u50 u51 u52 u53 u54 u55 u56 u57 u58 u59 u60 u61 u62 u63 u64 u65 u66 u67 u68 u69 u70 u71 u72 u73 u74 u75 u76 u77 u78 u79 u80 u81 u82 u83 u84 u85 u86 u87 u88 u89 u90 u91 u92 u93 u94 u95 u96 u97 u98 u99 u100 u101 u102 u103 u104 u105 u106 u107 u108 u109 u110 u111 u112 : Value} :
  Code.wp Tryz.prog (dropS 4 (Tryz.f124.body.getD .skip)) (bodyPost Tryz.prog Tryz.f124 (DSk w b S k (pPlain S.T (li, co) 8 (k + 1)))) ⟨#[.pointer (some ⟨b, 0, none⟩), u1, .pointer (some ⟨w.heap.size, 0, none⟩), .pointer (some ⟨sb, 0, none⟩), u4, u5, u6, u7, u8, u9, u10, u11, u12, u13, u14, u15, u16, u17, u18, u19, u20, u21, u22, u23, u24, u25, u26, u27, u28, u29, u30, u31, u32, u33, u34, u35, u36, u37, u38, u39, u40, u41, u42, u43, u44, u45, u46, u47, u48, u49, u50, u51, u52, u53, u54, u55, u56, u57, u58, u59, u60, u61, u62, u63, u64, u65, u66, u67, u68, u69, u70, u71, u72, u73, u74, u75, u76, u77, u78, u79, u80, u81, u82, u83, u84, u85, u86, u87, u88, u89, u90, u91, u92, u93, u94, u95, u96, u97, u98, u99, u100, u101, u102, u103, u104, u105, u106, u107, u108, u109, u110, u111, u112], []⟩ V := by
 obtain ⟨d64, hu64, hr64⟩ := under64
 conv in (dropS _ _) => whnf
 have hmx := h.r.mx
 have hkm : (k : Int) < 1000000 := by omega
 have c0 := h.c0
 have c1 := h.r.c1
 have f1 := h.r.hd.frozen 1
 have hs0 : sb ≠ b := by have := h.B; have := h.blt; omega
 have h1 := h.step hk
 have HE := Lib.hid h1
 clear h h1
 have e0 : (mkSt 8 (li, co) noB noB zEx zEx [] []).kd = 8 := rfl
 rw [e0] at c0
 clear e0
 go_wp2_with fail
 clear c0 c1 f1
 generalize V.setCell ⟨b, 1, none⟩ (.int .i64 ((k : Int) + 1)) = V1 at *
 obtain hQ2 := HE.out
 clear HE
 refine (rname_rd hQ2.r).mono ?_
 rintro e W2 ⟨hk2, x2, j2, b2, rfl, O2, r2⟩
 have q2 := hQ2.call hk2 r2
 clear hQ2 hk2 r2
 obtain ⟨v3, c3⟩ := q2.s.cell (j := 3) (by decide)
 have f3 := q2.s.frozen 3
 have HE := Lib.hid (q2.name x2)
 have HO2 := Lib.hid O2
 clear q2 O2
 go_wp2_with fail
 clear c3 f3
 generalize W2.setCell ⟨sb, 3, none⟩ (.string x2) = V2 at *
 obtain hQ3 := HE.out
 clear HE
 refine (rname_rd hQ3.r).mono ?_
 rintro e W3 ⟨hk3, x3, j3, b3, rfl, O3, r3⟩
 have q3 := hQ3.call hk3 r3
 clear hQ3 hk3 r3
 obtain ⟨v4, c4⟩ := q3.s.cell (j := 4) (by decide)
 have f4 := q3.s.frozen 4
 have HE := Lib.hid (q3.wth x3)
 have HO3 := Lib.hid O3
 clear q3 O3
 go_wp2_with fail
 clear c4 f4
 generalize W3.setCell ⟨sb, 4, none⟩ (.string x3) = V3 at *
 obtain hQ4 := HE.out
 clear HE
 refine (rmust_any hQ4.r sSemi).mono ?_
 rintro e W4 ⟨hk4, rfl, j4, b4, O4, r4⟩
 have HE := Lib.hid (hQ4.call hk4 r4)
 have HO4 := Lib.hid O4
 clear hQ4 hk4 r4 O4
 obtain hQ := HE.out
 clear HE
 have hO : Out false k (pPlain S.T (li, co) 8 (k + 1)) (((mkSt 8 (li, co) noB noB zEx zEx [] []).setName x2).setWith x3) j4 b4 := by
  rw [pl8]
  refine Out.from (k := k + 1) (HO2.out.bind (HO3.out.bind (HO4.out.bind (Out.pure _ _ _))))
 obtain ⟨cs, hb, hl, h1c, hz, hD⟩ := hQ.told hO
 have HZ := Lib.hid hQ.z
 have HB := Lib.hid hb
 have HF := Lib.hid (And.intro hz hD)
 clear hQ hO hb hz hD
 go_wp2_with (first | ((with_reducible show wpList _ _ _ (Oper.mk none (.store 64 _ _) _ _ _ _ :: _) _ _); refine wpList_store_blk info64 rfl (.tmp 2) (.tmp 112) rfl w.heap.size cs zSt.toList rfl rfl HZ rfl hl h1c ?_) | ((with_reducible show wpList _ _ _ (Oper.mk _ (.load 64 _) _ _ _ _ :: _) _ _); refine wpList_load_blk hu64 hr64 info64 rfl (.tmp 3) rfl sb cs rfl HB hl ?_))
 exact end_blk hu64 hr64 info64 HF.out.1 hl rfl rfl rfl HF.out.2
set_option maxRecDepth 100000 in
set_option maxHeartbeats 8000000 in
theorem ds12 {w V : World} {b sb k : Nat} {S : Src} {li co : Int}  (hk : k < S.T.length) (h : Ds w b sb S V k false (mkSt 12 (li, co) noB noB zEx zEx [] [])) {u1 u4 u5 u6 u7 u8 u9 u10 u11 u12 u13 u14 u15 u16 u17 u18 u19 u20 u21 u22 u23 u24 u25 u26 u27 u28 u29 u30 u31 u32 u33 u34 u35 u36 u37 u38 u39 u40 u41 u42 u43 u44 u45 u46 u47 u48 u49 u50 u51 u52 u53 u54 u55 u56 u57 u58 u59 u60 u61 u62 u63 u64 u65 u66 u67 u68 u69 u70 u71 u72 u73 u74 u75 u76 u77 u78 u79 u80 u81 u82 u83 u84 u85 u86 u87 u88 u89 u90 u91 u92 u93 u94 u95 u96 u97 u98 u99 u100 u101 u102 u103 u104 u105 u106 u107 u108 u109 u110 u111 u112 : Value} :
  Code.wp Tryz.prog (dropS 4 (Tryz.f124.body.getD .skip)) (bodyPost Tryz.prog Tryz.f124 (DSk w b S k (pPlain S.T (li, co) 12 (k + 1)))) ⟨#[.pointer (some ⟨b, 0, none⟩), u1, .pointer (some ⟨w.heap.size, 0, none⟩), .pointer (some ⟨sb, 0, none⟩), u4, u5, u6, u7, u8, u9, u10, u11, u12, u13, u14, u15, u16, u17, u18, u19, u20, u21, u22, u23, u24, u25, u26, u27, u28, u29, u30, u31, u32, u33, u34, u35, u36, u37, u38, u39, u40, u41, u42, u43, u44, u45, u46, u47, u48, u49, u50, u51, u52, u53, u54, u55, u56, u57, u58, u59, u60, u61, u62, u63, u64, u65, u66, u67, u68, u69, u70, u71, u72, u73, u74, u75, u76, u77, u78, u79, u80, u81, u82, u83, u84, u85, u86, u87, u88, u89, u90, u91, u92, u93, u94, u95, u96, u97, u98, u99, u100, u101, u102, u103, u104, u105, u106, u107, u108, u109, u110, u111, u112], []⟩ V := by
 obtain ⟨d64, hu64, hr64⟩ := under64
 conv in (dropS _ _) => whnf
 have hmx := h.r.mx
 have hkm : (k : Int) < 1000000 := by omega
 have c0 := h.c0
 have c1 := h.r.c1
 have f1 := h.r.hd.frozen 1
 have hs0 : sb ≠ b := by have := h.B; have := h.blt; omega
 have h1 := h.step hk
 have HE := Lib.hid h1
 clear h h1
 have e0 : (mkSt 12 (li, co) noB noB zEx zEx [] []).kd = 12 := rfl
 rw [e0] at c0
 clear e0
 go_wp2_with fail
 clear c0 c1 f1
 generalize V.setCell ⟨b, 1, none⟩ (.int .i64 ((k : Int) + 1)) = V1 at *
 obtain hQ2 := HE.out
 clear HE
 refine (rname_rd hQ2.r).mono ?_
 rintro e W2 ⟨hk2, x2, j2, b2, rfl, O2, r2⟩
 have q2 := hQ2.call hk2 r2
 clear hQ2 hk2 r2
 obtain ⟨v3, c3⟩ := q2.s.cell (j := 3) (by decide)
 have f3 := q2.s.frozen 3
 have HE := Lib.hid (q2.name x2)
 have HO2 := Lib.hid O2
 clear q2 O2
 go_wp2_with fail
 clear c3 f3
 generalize W2.setCell ⟨sb, 3, none⟩ (.string x2) = V2 at *
 obtain hQ3 := HE.out
 clear HE
 refine (rname_rd hQ3.r).mono ?_
 rintro e W3 ⟨hk3, x3, j3, b3, rfl, O3, r3⟩
 have q3 := hQ3.call hk3 r3
 clear hQ3 hk3 r3
 obtain ⟨v4, c4⟩ := q3.s.cell (j := 4) (by decide)
 have f4 := q3.s.frozen 4
 have HE := Lib.hid (q3.wth x3)
 have HO3 := Lib.hid O3
 clear q3 O3
 go_wp2_with fail
 clear c4 f4
 generalize W3.setCell ⟨sb, 4, none⟩ (.string x3) = V3 at *
 obtain hQ4 := HE.out
 clear HE
 refine (rmust_any hQ4.r sSemi).mono ?_
 rintro e W4 ⟨hk4, rfl, j4, b4, O4, r4⟩
 have HE := Lib.hid (hQ4.call hk4 r4)
 have HO4 := Lib.hid O4
 clear hQ4 hk4 r4 O4
 obtain hQ := HE.out
 clear HE
 have hO : Out false k (pPlain S.T (li, co) 12 (k + 1)) (((mkSt 12 (li, co) noB noB zEx zEx [] []).setName x2).setWith x3) j4 b4 := by
  rw [pl12]
  refine Out.from (k := k + 1) (HO2.out.bind (HO3.out.bind (HO4.out.bind (Out.pure _ _ _))))
 obtain ⟨cs, hb, hl, h1c, hz, hD⟩ := hQ.told hO
 have HZ := Lib.hid hQ.z
 have HB := Lib.hid hb
 have HF := Lib.hid (And.intro hz hD)
 clear hQ hO hb hz hD
 go_wp2_with (first | ((with_reducible show wpList _ _ _ (Oper.mk none (.store 64 _ _) _ _ _ _ :: _) _ _); refine wpList_store_blk info64 rfl (.tmp 2) (.tmp 112) rfl w.heap.size cs zSt.toList rfl rfl HZ rfl hl h1c ?_) | ((with_reducible show wpList _ _ _ (Oper.mk _ (.load 64 _) _ _ _ _ :: _) _ _); refine wpList_load_blk hu64 hr64 info64 rfl (.tmp 3) rfl sb cs rfl HB hl ?_))
 exact end_blk hu64 hr64 info64 HF.out.1 hl rfl rfl rfl HF.out.2
set_option maxRecDepth 100000 in
set_option maxHeartbeats 8000000 in
theorem ds6 {w V : World} {b sb k : Nat} {S : Src} {li co : Int}  (hk : k < S.T.length) (h : Ds w b sb S V k false (mkSt 6 (li, co) noB noB zEx zEx [] [])) {u1 u4 u5 u6 u7 u8 u9 u10 u11 u12 u13 u14 u15 u16 u17 u18 u19 u20 u21 u22 u23 u24 u25 u26 u27 u28 u29 u30 u31 u32 u33 u34 u35 u36 u37 u38 u39 u40 u41 u42 u43 u44 u45 u46 u47 u48 u49 u50 u51 u52 u53 u54 u55 u56 u57 u58 u59 u60 u61 u62 u63 u64 u65 u66 u67 u68 u69 u70 u71 u72 u73 u74 u75 u76 u77 u78 u79 u80 u81 u82 u83 u84 u85 u86 u87 u88 u89 u90 u91 u92 u93 u94 u95 u96 u97 u98 u99 u100 u101 u102 u103 u104 u105 u106 u107 u108 u109 u110 u111 u112 : Value} :
  Code.wp Tryz.prog (dropS 4 (Tryz.f124.body.getD .skip)) (bodyPost Tryz.prog Tryz.f124 (DSk w b S k (pPlain S.T (li, co) 6 (k + 1)))) ⟨#[.pointer (some ⟨b, 0, none⟩), u1, .pointer (some ⟨w.heap.size, 0, none⟩), .pointer (some ⟨sb, 0, none⟩), u4, u5, u6, u7, u8, u9, u10, u11, u12, u13, u14, u15, u16, u17, u18, u19, u20, u21, u22, u23, u24, u25, u26, u27, u28, u29, u30, u31, u32, u33, u34, u35, u36, u37, u38, u39, u40, u41, u42, u43, u44, u45, u46, u47, u48, u49, u50, u51, u52, u53, u54, u55, u56, u57, u58, u59, u60, u61, u62, u63, u64, u65, u66, u67, u68, u69, u70, u71, u72, u73, u74, u75, u76, u77, u78, u79, u80, u81, u82, u83, u84, u85, u86, u87, u88, u89, u90, u91, u92, u93, u94, u95, u96, u97, u98, u99, u100, u101, u102, u103, u104, u105, u106, u107, u108, u109, u110, u111, u112], []⟩ V := by
 obtain ⟨d64, hu64, hr64⟩ := under64
 conv in (dropS _ _) => whnf
 have hmx := h.r.mx
 have hkm : (k : Int) < 1000000 := by omega
 have c0 := h.c0
 have c1 := h.r.c1
 have f1 := h.r.hd.frozen 1
 have hs0 : sb ≠ b := by have := h.B; have := h.blt; omega
 have h1 := h.step hk
 have HE := Lib.hid h1
 clear h h1
 have e0 : (mkSt 6 (li, co) noB noB zEx zEx [] []).kd = 6 := rfl
 rw [e0] at c0
 clear e0
 go_wp2_with fail
 clear c0 c1 f1
 generalize V.setCell ⟨b, 1, none⟩ (.int .i64 ((k : Int) + 1)) = V1 at *
 obtain hQ2 := HE.out
 clear HE
 refine (rname_rd hQ2.r).mono ?_
 rintro e W2 ⟨hk2, x2, j2, b2, rfl, O2, r2⟩
 have q2 := hQ2.call hk2 r2
 clear hQ2 hk2 r2
 obtain ⟨v3, c3⟩ := q2.s.cell (j := 3) (by decide)
 have f3 := q2.s.frozen 3
 have HE := Lib.hid (q2.name x2)
 have HO2 := Lib.hid O2
 clear q2 O2
 go_wp2_with fail
 clear c3 f3
 generalize W2.setCell ⟨sb, 3, none⟩ (.string x2) = V2 at *
 obtain hQ3 := HE.out
 clear HE
 refine (rmust_any hQ3.r sSemi).mono ?_
 rintro e W3 ⟨hk3, rfl, j3, b3, O3, r3⟩
 have HE := Lib.hid (hQ3.call hk3 r3)
 have HO3 := Lib.hid O3
 clear hQ3 hk3 r3 O3
 obtain hQ := HE.out
 clear HE
 have hO : Out false k (pPlain S.T (li, co) 6 (k + 1)) ((mkSt 6 (li, co) noB noB zEx zEx [] []).setName x2) j3 b3 := by
  rw [pl6]
  refine Out.from (k := k + 1) (HO2.out.bind (HO3.out.bind (Out.pure _ _ _)))
 obtain ⟨cs, hb, hl, h1c, hz, hD⟩ := hQ.told hO
 have HZ := Lib.hid hQ.z
 have HB := Lib.hid hb
 have HF := Lib.hid (And.intro hz hD)
 clear hQ hO hb hz hD
 go_wp2_with (first | ((with_reducible show wpList _ _ _ (Oper.mk none (.store 64 _ _) _ _ _ _ :: _) _ _); refine wpList_store_blk info64 rfl (.tmp 2) (.tmp 112) rfl w.heap.size cs zSt.toList rfl rfl HZ rfl hl h1c ?_) | ((with_reducible show wpList _ _ _ (Oper.mk _ (.load 64 _) _ _ _ _ :: _) _ _); refine wpList_load_blk hu64 hr64 info64 rfl (.tmp 3) rfl sb cs rfl HB hl ?_))
 exact end_blk hu64 hr64 info64 HF.out.1 hl rfl rfl rfl HF.out.2
set_option maxRecDepth 100000 in
set_option maxHeartbeats 8000000 in
theorem ds7 {w V : World} {b sb k : Nat} {S : Src} {li co : Int}  (hk : k < S.T.length) (h : Ds w b sb S V k false (mkSt 7 (li, co) noB noB zEx zEx [] [])) {u1 u4 u5 u6 u7 u8 u9 u10 u11 u12 u13 u14 u15 u16 u17 u18 u19 u20 u21 u22 u23 u24 u25 u26 u27 u28 u29 u30 u31 u32 u33 u34 u35 u36 u37 u38 u39 u40 u41 u42 u43 u44 u45 u46 u47 u48 u49 u50 u51 u52 u53 u54 u55 u56 u57 u58 u59 u60 u61 u62 u63 u64 u65 u66 u67 u68 u69 u70 u71 u72 u73 u74 u75 u76 u77 u78 u79 u80 u81 u82 u83 u84 u85 u86 u87 u88 u89 u90 u91 u92 u93 u94 u95 u96 u97 u98 u99 u100 u101 u102 u103 u104 u105 u106 u107 u108 u109 u110 u111 u112 : Value} :
  Code.wp Tryz.prog (dropS 4 (Tryz.f124.body.getD .skip)) (bodyPost Tryz.prog Tryz.f124 (DSk w b S k (pPlain S.T (li, co) 7 (k + 1)))) ⟨#[.pointer (some ⟨b, 0, none⟩), u1, .pointer (some ⟨w.heap.size, 0, none⟩), .pointer (some ⟨sb, 0, none⟩), u4, u5, u6, u7, u8, u9, u10, u11, u12, u13, u14, u15, u16, u17, u18, u19, u20, u21, u22, u23, u24, u25, u26, u27, u28, u29, u30, u31, u32, u33, u34, u35, u36, u37, u38, u39, u40, u41, u42, u43, u44, u45, u46, u47, u48, u49, u50, u51, u52, u53, u54, u55, u56, u57, u58, u59, u60, u61, u62, u63, u64, u65, u66, u67, u68, u69, u70, u71, u72, u73, u74, u75, u76, u77, u78, u79, u80, u81, u82, u83, u84, u85, u86, u87, u88, u89, u90, u91, u92, u93, u94, u95, u96, u97, u98, u99, u100, u101, u102, u103, u104, u105, u106, u107, u108, u109, u110, u111, u112], []⟩ V := by
 obtain ⟨d64, hu64, hr64⟩ := under64
 conv in (dropS _ _) => whnf
 have hmx := h.r.mx
 have hkm : (k : Int) < 1000000 := by omega
 have c0 := h.c0
 have c1 := h.r.c1
 have f1 := h.r.hd.frozen 1
 have hs0 : sb ≠ b := by have := h.B; have := h.blt; omega
 have h1 := h.step hk
 have HE := Lib.hid h1
 clear h h1
 have e0 : (mkSt 7 (li, co) noB noB zEx zEx [] []).kd = 7 := rfl
 rw [e0] at c0
 clear e0
 go_wp2_with fail
 clear c0 c1 f1
 generalize V.setCell ⟨b, 1, none⟩ (.int .i64 ((k : Int) + 1)) = V1 at *
 obtain hQ2 := HE.out
 clear HE
 refine (rname_rd hQ2.r).mono ?_
 rintro e W2 ⟨hk2, x2, j2, b2, rfl, O2, r2⟩
 have q2 := hQ2.call hk2 r2
 clear hQ2 hk2 r2
 obtain ⟨v3, c3⟩ := q2.s.cell (j := 3) (by decide)
 have f3 := q2.s.frozen 3
 have HE := Lib.hid (q2.name x2)
 have HO2 := Lib.hid O2
 clear q2 O2
 go_wp2_with fail
 clear c3 f3
 generalize W2.setCell ⟨sb, 3, none⟩ (.string x2) = V2 at *
 obtain hQ3 := HE.out
 clear HE
 refine (rmust_any hQ3.r sSemi).mono ?_
 rintro e W3 ⟨hk3, rfl, j3, b3, O3, r3⟩
 have HE := Lib.hid (hQ3.call hk3 r3)
 have HO3 := Lib.hid O3
 clear hQ3 hk3 r3 O3
 obtain hQ := HE.out
 clear HE
 have hO : Out false k (pPlain S.T (li, co) 7 (k + 1)) ((mkSt 7 (li, co) noB noB zEx zEx [] []).setName x2) j3 b3 := by
  rw [pl7]
  refine Out.from (k := k + 1) (HO2.out.bind (HO3.out.bind (Out.pure _ _ _)))
 obtain ⟨cs, hb, hl, h1c, hz, hD⟩ := hQ.told hO
 have HZ := Lib.hid hQ.z
 have HB := Lib.hid hb
 have HF := Lib.hid (And.intro hz hD)
 clear hQ hO hb hz hD
 go_wp2_with (first | ((with_reducible show wpList _ _ _ (Oper.mk none (.store 64 _ _) _ _ _ _ :: _) _ _); refine wpList_store_blk info64 rfl (.tmp 2) (.tmp 112) rfl w.heap.size cs zSt.toList rfl rfl HZ rfl hl h1c ?_) | ((with_reducible show wpList _ _ _ (Oper.mk _ (.load 64 _) _ _ _ _ :: _) _ _); refine wpList_load_blk hu64 hr64 info64 rfl (.tmp 3) rfl sb cs rfl HB hl ?_))
 exact end_blk hu64 hr64 info64 HF.out.1 hl rfl rfl rfl HF.out.2
set_option maxRecDepth 100000 in
set_option maxHeartbeats 8000000 in
theorem ds9 {w V : World} {b sb k : Nat} {S : Src} {li co : Int}  (hk : k < S.T.length) (h : Ds w b sb S V k false (mkSt 9 (li, co) noB noB zEx zEx [] [])) {u1 u4 u5 u6 u7 u8 u9 u10 u11 u12 u13 u14 u15 u16 u17 u18 u19 u20 u21 u22 u23 u24 u25 u26 u27 u28 u29 u30 u31 u32 u33 u34 u35 u36 u37 u38 u39 u40 u41 u42 u43 u44 u45 u46 u47 u48 u49 u50 u51 u52 u53 u54 u55 u56 u57 u58 u59 u60 u61 u62 u63 u64 u65 u66 u67 u68 u69 u70 u71 u72 u73 u74 u75 u76 u77 u78 u79 u80 u81 u82 u83 u84 u85 u86 u87 u88 u89 u90 u91 u92 u93 u94 u95 u96 u97 u98 u99 u100 u101 u102 u103 u104 u105 u106 u107 u108 u109 u110 u111 u112 : Value} :
  Code.wp Tryz.prog (dropS 4 (Tryz.f124.body.getD .skip)) (bodyPost Tryz.prog Tryz.f124 (DSk w b S k (pPlain S.T (li, co) 9 (k + 1)))) ⟨#[.pointer (some ⟨b, 0, none⟩), u1, .pointer (some ⟨w.heap.size, 0, none⟩), .pointer (some ⟨sb, 0, none⟩), u4, u5, u6, u7, u8, u9, u10, u11, u12, u13, u14, u15, u16, u17, u18, u19, u20, u21, u22, u23, u24, u25, u26, u27, u28, u29, u30, u31, u32, u33, u34, u35, u36, u37, u38, u39, u40, u41, u42, u43, u44, u45, u46, u47, u48, u49, u50, u51, u52, u53, u54, u55, u56, u57, u58, u59, u60, u61, u62, u63, u64, u65, u66, u67, u68, u69, u70, u71, u72, u73, u74, u75, u76, u77, u78, u79, u80, u81, u82, u83, u84, u85, u86, u87, u88, u89, u90, u91, u92, u93, u94, u95, u96, u97, u98, u99, u100, u101, u102, u103, u104, u105, u106, u107, u108, u109, u110, u111, u112], []⟩ V := by
 obtain ⟨d64, hu64, hr64⟩ := under64
 conv in (dropS _ _) => whnf
 have hmx := h.r.mx
 have hkm : (k : Int) < 1000000 := by omega
 have c0 := h.c0
 have c1 := h.r.c1
 have f1 := h.r.hd.frozen 1
 have hs0 : sb ≠ b := by have := h.B; have := h.blt; omega
 have h1 := h.step hk
 have HE := Lib.hid h1
 clear h h1
 have e0 : (mkSt 9 (li, co) noB noB zEx zEx [] []).kd = 9 := rfl
 rw [e0] at c0
 clear e0
 go_wp2_with fail
 clear c0 c1 f1
 generalize V.setCell ⟨b, 1, none⟩ (.int .i64 ((k : Int) + 1)) = V1 at *
 obtain hQ2 := HE.out
 clear HE
 refine (rname_rd hQ2.r).mono ?_
 rintro e W2 ⟨hk2, x2, j2, b2, rfl, O2, r2⟩
 have q2 := hQ2.call hk2 r2
 clear hQ2 hk2 r2
 obtain ⟨v3, c3⟩ := q2.s.cell (j := 3) (by decide)
 have f3 := q2.s.frozen 3
 have HE := Lib.hid (q2.name x2)
 have HO2 := Lib.hid O2
 clear q2 O2
 go_wp2_with fail
 clear c3 f3
 generalize W2.setCell ⟨sb, 3, none⟩ (.string x2) = V2 at *
 obtain hQ3 := HE.out
 clear HE
 refine (rmust_any hQ3.r sSemi).mono ?_
 rintro e W3 ⟨hk3, rfl, j3, b3, O3, r3⟩
 have HE := Lib.hid (hQ3.call hk3 r3)
 have HO3 := Lib.hid O3
 clear hQ3 hk3 r3 O3
 obtain hQ := HE.out
 clear HE
 have hO : Out false k (pPlain S.T (li, co) 9 (k + 1)) ((mkSt 9 (li, co) noB noB zEx zEx [] []).setName x2) j3 b3 := by
  rw [pl9]
  refine Out.from (k := k + 1) (HO2.out.bind (HO3.out.bind (Out.pure _ _ _)))
 obtain ⟨cs, hb, hl, h1c, hz, hD⟩ := hQ.told hO
 have HZ := Lib.hid hQ.z
 have HB := Lib.hid hb
 have HF := Lib.hid (And.intro hz hD)
 clear hQ hO hb hz hD
 go_wp2_with (first | ((with_reducible show wpList _ _ _ (Oper.mk none (.store 64 _ _) _ _ _ _ :: _) _ _); refine wpList_store_blk info64 rfl (.tmp 2) (.tmp 112) rfl w.heap.size cs zSt.toList rfl rfl HZ rfl hl h1c ?_) | ((with_reducible show wpList _ _ _ (Oper.mk _ (.load 64 _) _ _ _ _ :: _) _ _); refine wpList_load_blk hu64 hr64 info64 rfl (.tmp 3) rfl sb cs rfl HB hl ?_))
 exact end_blk hu64 hr64 info64 HF.out.1 hl rfl rfl rfl HF.out.2
set_option maxRecDepth 100000 in
set_option maxHeartbeats 8000000 in
theorem ds10 {w V : World} {b sb k : Nat} {S : Src} {li co : Int}  (hk : k < S.T.length) (h : Ds w b sb S V k false (mkSt 10 (li, co) noB noB zEx zEx [] [])) {u1 u4 u5 u6 u7 u8 u9 u10 u11 u12 u13 u14 u15 u16 u17 u18 u19 u20 u21 u22 u23 u24 u25 u26 u27 u28 u29 u30 u31 u32 u33 u34 u35 u36 u37 u38 u39 u40 u41 u42 u43 u44 u45 u46 u47 u48 u49 u50 u51 u52 u53 u54 u55 u56 u57 u58 u59 u60 u61 u62 u63 u64 u65 u66 u67 u68 u69 u70 u71 u72 u73 u74 u75 u76 u77 u78 u79 u80 u81 u82 u83 u84 u85 u86 u87 u88 u89 u90 u91 u92 u93 u94 u95 u96 u97 u98 u99 u100 u101 u102 u103 u104 u105 u106 u107 u108 u109 u110 u111 u112 : Value} :
  Code.wp Tryz.prog (dropS 4 (Tryz.f124.body.getD .skip)) (bodyPost Tryz.prog Tryz.f124 (DSk w b S k (pPlain S.T (li, co) 10 (k + 1)))) ⟨#[.pointer (some ⟨b, 0, none⟩), u1, .pointer (some ⟨w.heap.size, 0, none⟩), .pointer (some ⟨sb, 0, none⟩), u4, u5, u6, u7, u8, u9, u10, u11, u12, u13, u14, u15, u16, u17, u18, u19, u20, u21, u22, u23, u24, u25, u26, u27, u28, u29, u30, u31, u32, u33, u34, u35, u36, u37, u38, u39, u40, u41, u42, u43, u44, u45, u46, u47, u48, u49, u50, u51, u52, u53, u54, u55, u56, u57, u58, u59, u60, u61, u62, u63, u64, u65, u66, u67, u68, u69, u70, u71, u72, u73, u74, u75, u76, u77, u78, u79, u80, u81, u82, u83, u84, u85, u86, u87, u88, u89, u90, u91, u92, u93, u94, u95, u96, u97, u98, u99, u100, u101, u102, u103, u104, u105, u106, u107, u108, u109, u110, u111, u112], []⟩ V := by
 obtain ⟨d64, hu64, hr64⟩ := under64
 conv in (dropS _ _) => whnf
 have hmx := h.r.mx
 have hkm : (k : Int) < 1000000 := by omega
 have c0 := h.c0
 have c1 := h.r.c1
 have f1 := h.r.hd.frozen 1
 have hs0 : sb ≠ b := by have := h.B; have := h.blt; omega
 have h1 := h.step hk
 have HE := Lib.hid h1
 clear h h1
 have e0 : (mkSt 10 (li, co) noB noB zEx zEx [] []).kd = 10 := rfl
 rw [e0] at c0
 clear e0
 go_wp2_with fail
 clear c0 c1 f1
 generalize V.setCell ⟨b, 1, none⟩ (.int .i64 ((k : Int) + 1)) = V1 at *
 obtain hQ2 := HE.out
 clear HE
 refine (rname_rd hQ2.r).mono ?_
 rintro e W2 ⟨hk2, x2, j2, b2, rfl, O2, r2⟩
 have q2 := hQ2.call hk2 r2
 clear hQ2 hk2 r2
 obtain ⟨v3, c3⟩ := q2.s.cell (j := 3) (by decide)
 have f3 := q2.s.frozen 3
 have HE := Lib.hid (q2.name x2)
 have HO2 := Lib.hid O2
 clear q2 O2
 go_wp2_with fail
 clear c3 f3
 generalize W2.setCell ⟨sb, 3, none⟩ (.string x2) = V2 at *
 obtain hQ3 := HE.out
 clear HE
 refine (rmust_any hQ3.r sSemi).mono ?_
 rintro e W3 ⟨hk3, rfl, j3, b3, O3, r3⟩
 have HE := Lib.hid (hQ3.call hk3 r3)
 have HO3 := Lib.hid O3
 clear hQ3 hk3 r3 O3
 obtain hQ := HE.out
 clear HE
 have hO : Out false k (pPlain S.T (li, co) 10 (k + 1)) ((mkSt 10 (li, co) noB noB zEx zEx [] []).setName x2) j3 b3 := by
  rw [pl10]
  refine Out.from (k := k + 1) (HO2.out.bind (HO3.out.bind (Out.pure _ _ _)))
 obtain ⟨cs, hb, hl, h1c, hz, hD⟩ := hQ.told hO
 have HZ := Lib.hid hQ.z
 have HB := Lib.hid hb
 have HF := Lib.hid (And.intro hz hD)
 clear hQ hO hb hz hD
 go_wp2_with (first | ((with_reducible show wpList _ _ _ (Oper.mk none (.store 64 _ _) _ _ _ _ :: _) _ _); refine wpList_store_blk info64 rfl (.tmp 2) (.tmp 112) rfl w.heap.size cs zSt.toList rfl rfl HZ rfl hl h1c ?_) | ((with_reducible show wpList _ _ _ (Oper.mk _ (.load 64 _) _ _ _ _ :: _) _ _); refine wpList_load_blk hu64 hr64 info64 rfl (.tmp 3) rfl sb cs rfl HB hl ?_))
 exact end_blk hu64 hr64 info64 HF.out.1 hl rfl rfl rfl HF.out.2
set_option maxRecDepth 100000 in
set_option maxHeartbeats 8000000 in
theorem ds13 {w V : World} {b sb k : Nat} {S : Src} {li co : Int}  (hk : k < S.T.length) (h : Ds w b sb S V k false (mkSt 13 (li, co) noB noB zEx zEx [] [])) {u1 u4 u5 u6 u7 u8 u9 u10 u11 u12 u13 u14 u15 u16 u17 u18 u19 u20 u21 u22 u23 u24 u25 u26 u27 u28 u29 u30 u31 u32 u33 u34 u35 u36 u37 u38 u39 u40 u41 u42 u43 u44 u45 u46 u47 u48 u49 u50 u51 u52 u53 u54 u55 u56 u57 u58 u59 u60 u61 u62 u63 u64 u65 u66 u67 u68 u69 u70 u71 u72 u73 u74 u75 u76 u77 u78 u79 u80 u81 u82 u83 u84 u85 u86 u87 u88 u89 u90 u91 u92 u93 u94 u95 u96 u97 u98 u99 u100 u101 u102 u103 u104 u105 u106 u107 u108 u109 u110 u111 u112 : Value} :
  Code.wp Tryz.prog (dropS 4 (Tryz.f124.body.getD .skip)) (bodyPost Tryz.prog Tryz.f124 (DSk w b S k (pPlain S.T (li, co) 13 (k + 1)))) ⟨#[.pointer (some ⟨b, 0, none⟩), u1, .pointer (some ⟨w.heap.size, 0, none⟩), .pointer (some ⟨sb, 0, none⟩), u4, u5, u6, u7, u8, u9, u10, u11, u12, u13, u14, u15, u16, u17, u18, u19, u20, u21, u22, u23, u24, u25, u26, u27, u28, u29, u30, u31, u32, u33, u34, u35, u36, u37, u38, u39, u40, u41, u42, u43, u44, u45, u46, u47, u48, u49, u50, u51, u52, u53, u54, u55, u56, u57, u58, u59, u60, u61, u62, u63, u64, u65, u66, u67, u68, u69, u70, u71, u72, u73, u74, u75, u76, u77, u78, u79, u80, u81, u82, u83, u84, u85, u86, u87, u88, u89, u90, u91, u92, u93, u94, u95, u96, u97, u98, u99, u100, u101, u102, u103, u104, u105, u106, u107, u108, u109, u110, u111, u112], []⟩ V := by
 obtain ⟨d64, hu64, hr64⟩ := under64
 conv in (dropS _ _) => whnf
 have hmx := h.r.mx
 have hkm : (k : Int) < 1000000 := by omega
 have c0 := h.c0
 have c1 := h.r.c1
 have f1 := h.r.hd.frozen 1
 have hs0 : sb ≠ b := by have := h.B; have := h.blt; omega
 have h1 := h.step hk
 have HE := Lib.hid h1
 clear h h1
 have e0 : (mkSt 13 (li, co) noB noB zEx zEx [] []).kd = 13 := rfl
 rw [e0] at c0
 clear e0
 go_wp2_with fail
 clear c0 c1 f1
 generalize V.setCell ⟨b, 1, none⟩ (.int .i64 ((k : Int) + 1)) = V1 at *
 obtain hQ2 := HE.out
 clear HE
 refine (rname_rd hQ2.r).mono ?_
 rintro e W2 ⟨hk2, x2, j2, b2, rfl, O2, r2⟩
 have q2 := hQ2.call hk2 r2
 clear hQ2 hk2 r2
 obtain ⟨v3, c3⟩ := q2.s.cell (j := 3) (by decide)
 have f3 := q2.s.frozen 3
 have HE := Lib.hid (q2.name x2)
 have HO2 := Lib.hid O2
 clear q2 O2
 go_wp2_with fail
 clear c3 f3
 generalize W2.setCell ⟨sb, 3, none⟩ (.string x2) = V2 at *
 obtain hQ3 := HE.out
 clear HE
 refine (rmust_any hQ3.r sSemi).mono ?_
 rintro e W3 ⟨hk3, rfl, j3, b3, O3, r3⟩
 have HE := Lib.hid (hQ3.call hk3 r3)
 have HO3 := Lib.hid O3
 clear hQ3 hk3 r3 O3
 obtain hQ := HE.out
 clear HE
 have hO : Out false k (pPlain S.T (li, co) 13 (k + 1)) ((mkSt 13 (li, co) noB noB zEx zEx [] []).setName x2) j3 b3 := by
  rw [pl13]
  refine Out.from (k := k + 1) (HO2.out.bind (HO3.out.bind (Out.pure _ _ _)))
 obtain ⟨cs, hb, hl, h1c, hz, hD⟩ := hQ.told hO
 have HZ := Lib.hid hQ.z
 have HB := Lib.hid hb
 have HF := Lib.hid (And.intro hz hD)
 clear hQ hO hb hz hD
 go_wp2_with (first | ((with_reducible show wpList _ _ _ (Oper.mk none (.store 64 _ _) _ _ _ _ :: _) _ _); refine wpList_store_blk info64 rfl (.tmp 2) (.tmp 112) rfl w.heap.size cs zSt.toList rfl rfl HZ rfl hl h1c ?_) | ((with_reducible show wpList _ _ _ (Oper.mk _ (.load 64 _) _ _ _ _ :: _) _ _); refine wpList_load_blk hu64 hr64 info64 rfl (.tmp 3) rfl sb cs rfl HB hl ?_))
 exact end_blk hu64 hr64 info64 HF.out.1 hl rfl rfl rfl HF.out.2
end Go.Proofs.YtjmlmelcppbefaaGreatDoor
