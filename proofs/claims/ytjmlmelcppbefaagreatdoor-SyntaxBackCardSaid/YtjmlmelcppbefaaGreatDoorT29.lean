/- What the syntax texts share, part 29. No condition. -/
import Derived.Test.YtjmlmelcppbefaaGreatDoorT25
namespace Go.Proofs.YtjmlmelcppbefaaGreatDoor
open Go.RowKit Go.Maps
theorem depths_le (n : Nat) : ∀ l : List Ex, Ex.depths l ≤ n ↔ ∀ j, j < l.length → (l.getD j zEx).depth ≤ n
 | [] => by simp [Ex.depths]
 | e :: r => by
  rw [Ex.depths, Nat.max_le, depths_le n r]
  constructor
  ·rintro ⟨h1, h2⟩ j hj
   cases j with
   | zero => exact h1
   | succ j => simpa using h2 j (by simpa using hj)
  ·intro h
   exact ⟨by simpa using h 0 (by simp), fun j hj => by simpa using h (j + 1) (by simpa using hj)⟩
def ExAt (w : World) (b off : Nat) (x : Ex) : Prop := ∃ cs : List Value, w.rangeAt b off cs ∧ ExL (fun _ => True) w cs x
theorem ExAt.args {w : World} {b off : Nat} {k n : Int} {s : ByteArray} {sl : Int} {lo : Bool} {o : Int} {args : List Ex} (h : ExAt w b off (.mk k n s sl lo o args)) :
  ∃ (a : Option Addr) (cap : Nat), w.cell? ⟨b, off + 6, none⟩ = some (.slice a args.length cap) ∧ Roomy args.length cap ∧ ∀ j, j < args.length → ∃ b2 off2, a = some ⟨b2, off2, none⟩ ∧ ExAt w b2 (off2 + j * 7) (args.getD j zEx) := by
 obtain ⟨cs, h1, h2⟩ := h
 unfold ExL at h2
 obtain ⟨a, cap, rfl, h3, h4⟩ := h2
 refine ⟨a, cap, h1 6 _ rfl, h3, fun j hj => ?_⟩
 obtain ⟨b2, off2, cs, h5, -, h6, h7⟩ := h4.at j hj
 exact ⟨b2, off2, h5, cs, fun t v hv => by simpa using h6 t v hv, h7⟩
theorem Ex.depth_le (x : Ex) (d : Nat) : decide (x.depth ≤ d) = match x with | .mk _ _ _ _ _ _ args => decide (1 ≤ d) && decide (Ex.depths args ≤ d - 1) := by
 obtain ⟨k, n, s, sl, lo, o, args⟩ := x
 simp only [Ex.depth]
 cases d with
 | zero => simp
 | succ d => simp
set_option maxRecDepth 100000 in
set_option maxHeartbeats 4000000 in
theorem flat_any (w : World) : ∀ (d : Nat) (x : Ex) (b off : Nat), d ≤ 24 → ExAt w b off x → Calls Tryz.prog 80 #[.pointer (some ⟨b, off, none⟩), .int .i64 (d : Int)] w fun e w' => e = .returned (.bool (decide (x.depth ≤ d))) ∧ w' = w := by
 intro d
 induction d with
 | zero =>
  intro x b off hd h
  have hx : ¬ x.depth ≤ 0 := by
   obtain ⟨k, n, s, sl, lo, o, args⟩ := x
   simp [Ex.depth]
  rw [decide_eq_false hx]
  go_enter Tryz.func80, Tryz.ntmps80
  go_wp2_with fail
  go_ret
  exact ⟨rfl, rfl⟩
 | succ d ih =>
  intro x b off hd h
  obtain ⟨k, n, s, sl, lo, o, args⟩ := x
  obtain ⟨a, cap, c6, hcap, hat⟩ := h.args
  rw [Ex.depth_le]
  obtain ⟨r, hr⟩ : ∃ r, (decide (1 ≤ d + 1) && decide (Ex.depths args ≤ d + 1 - 1)) = r := ⟨_, rfl⟩
  have hr2 : r = decide (Ex.depths args ≤ d) := by rw [← hr]; simp
  dsimp only
  rw [hr]
  have hrt : r = true ↔ ∀ j, j < args.length → (args.getD j zEx).depth ≤ d := by rw [hr2, decide_eq_true_iff, depths_le]
  have HRT := Lib.hid hrt
  have h1 : ¬ ((d + 1 : Nat) : Int) < 1 := by omega
  clear hr hr2 hrt
  obtain ⟨N, hN⟩ : ∃ N, args.length = N := ⟨_, rfl⟩
  rw [hN] at c6 hcap hat
  have HN := Lib.hid hN
  clear hN
  go_enter Tryz.func80, Tryz.ntmps80
  go_wp2_with fail
  go_loopg [13] N (fun x iv wr => ∃ i : Nat, i ≤ N ∧ x = N - i ∧ iv = .int .i64 (i : Int) ∧ wr = w ∧ Hid (∀ j, j < i → (args.getD j zEx).depth ≤ d))
  case atStart => exact ⟨0, Nat.zero_le _, rfl, rfl, rfl, fun j hj => absurd hj (Nat.not_lt_zero j)⟩
  case round =>
   obtain ⟨i, hi, rfl, rfl, rfl, HD⟩ := hrel
   by_cases hiN : i < N
   ·have hlt : (i : Int) < (N : Int) := by omega
    have hp0 : (0 : Int) ≤ (i : Int) := by omega
    have hroom : (i : Int) + 1 ≤ 9223372036854775807 := by
     have h1 := hcap.1
     have h2 := hcap.2
     omega
    obtain ⟨b2, off2, rfl, hx⟩ := hat i hiN
    have hc := ih (args.getD i zEx) b2 (off2 + i * 7) (by omega) hx
    have hde : (((d + 1 : Nat) : Int) - 1) = (d : Int) := by omega
    go_wp2_with fail
    refine hc.mono ?_
    rintro e w' ⟨rfl, rfl⟩
    by_cases hdi : (args.getD i zEx).depth ≤ d
    ·rw [decide_eq_true hdi]
     have HD2 : Hid (∀ j, j < i + 1 → (args.getD j zEx).depth ≤ d) := Lib.hid (fun j hj => by
      by_cases h : j < i
      ·exact HD.out j h
      ·obtain rfl : j = i := by omega
       exact hdi)
     clear hdi hc
     go_wp2_with fail
     go_roundg (N - (i + 1))
     case measure => omega
     case rel => exact ⟨i + 1, by omega, rfl, rfl, rfl, HD2⟩
    ·rw [decide_eq_false hdi]
     have hrf : r = false := by
      cases hr : r
      ·rfl
      ·exact absurd (HRT.out.1 hr i (by rw [HN.out]; exact hiN)) hdi
     subst hrf
     clear hdi hc
     go_wp2_with fail
     go_ret
     exact ⟨rfl, rfl⟩
   ·have hlt : ¬ (i : Int) < (N : Int) := by omega
    have hrf : r = true := HRT.out.2 (fun j hj => HD.out j (by rw [HN.out] at hj; omega))
    subst hrf
    go_wp2_with fail
    go_ret
    exact ⟨rfl, rfl⟩
end Go.Proofs.YtjmlmelcppbefaaGreatDoor
namespace Go.Proofs.YtjmlmelcppbefaaGreatDoor
open Go.RowKit Go.Maps
def StAt (w : World) (b off : Nat) (s : St) : Prop := ∃ cs : List Value, w.rangeAt b off cs ∧ StL (fun _ => True) w cs s
def SlAt (w : World) (a : Option Addr) (cap : Nat) (l : List St) : Prop := Roomy l.length cap ∧ StsL (fun _ => True) w a 0 l
theorem SlAt.below {w w' : World} {a : Option Addr} {cap : Nat} {l : List St} (h : SlAt w a cap l) (hb : Below w.heap.size w w') : SlAt w' a cap l :=
 ⟨h.1, StsL.keep (fun b o v _ hv => by rw [← hv]; simp [World.cellU, World.cell?, World.frozen?, hb.block b (World.block_lt_of_cellU w hv)]) h.2⟩
theorem SlAt.at {w : World} {a : Option Addr} {cap : Nat} {l : List St} (h : SlAt w a cap l) {j : Nat} {s : St} (hj : l[j]? = some s) : ∃ b off, a = some ⟨b, off, none⟩ ∧ StAt w b (off + j * 25) s := by
 have hjl : j < l.length := (List.getElem?_eq_some_iff.1 hj).1
 obtain ⟨b, off, cs, h1, -, h2, h3⟩ := h.2.at j hjl
 have h4 : l.getD j default = s := by rw [List.getD_eq_getElem?_getD, hj]; rfl
 rw [h4] at h3
 exact ⟨b, off, h1, cs, fun t v hv => by simpa using h2 t v hv, h3⟩
theorem StAt.parts {w : World} {b off : Nat} {k l c : Int} {s t : ByteArray} {x y : Ex} {body els : List St} {id sl ot : Int} {lo : Bool} (h : StAt w b off (.mk k l c s t x y body els id sl ot lo)) :
  w.cell? ⟨b, off, none⟩ = some (.int .i64 k) ∧ w.cell? ⟨b, off + 1, none⟩ = some (.int .i64 l) ∧ w.cell? ⟨b, off + 2, none⟩ = some (.int .i64 c) ∧ w.cell? ⟨b, off + 3, none⟩ = some (.string s) ∧ w.cell? ⟨b, off + 4, none⟩ = some (.string t) ∧
   ExAt w b (off + 5) x ∧ ExAt w b (off + 12) y ∧ (∃ a cap, w.cell? ⟨b, off + 19, none⟩ = some (.slice a body.length cap) ∧ SlAt w a cap body) ∧ ∃ a cap, w.cell? ⟨b, off + 20, none⟩ = some (.slice a els.length cap) ∧ SlAt w a cap els := by
 obtain ⟨cs, h1, h2⟩ := h
 unfold StL at h2
 obtain ⟨cx, cy, a, a', cap, cap', rfl, hx, hy, h3, h4, h5, h6⟩ := h2
 have lx := hx.cells.1
 have ly := hy.cells.1
 refine ⟨h1 0 _ rfl, h1 1 _ rfl, h1 2 _ rfl, h1 3 _ rfl, h1 4 _ rfl, ⟨cx, fun j v hv => ?_, hx⟩, ⟨cy, fun j v hv => ?_, hy⟩, ⟨a, cap, ?_, h3, h4⟩, a', cap', ?_, h5, h6⟩
 ·have hj : j < 7 := by
   have := (List.getElem?_eq_some_iff.1 hv).1
   omega
  have := h1 (5 + j) v (by
   rw [show 5 + j = j + 5 by omega]
   simp only [List.getElem?_cons_succ]
   rw [List.getElem?_append_left (by omega)]
   exact hv)
  rwa [← Nat.add_assoc] at this
 ·have hj : j < 7 := by
   have := (List.getElem?_eq_some_iff.1 hv).1
   omega
  have := h1 (12 + j) v (by
   rw [show 12 + j = (7 + j) + 5 by omega]
   simp only [List.getElem?_cons_succ]
   rw [List.getElem?_append_right (by omega), lx, Nat.add_sub_cancel_left, List.getElem?_append_left (by omega)]
   exact hv)
  rwa [← Nat.add_assoc] at this
 ·refine h1 19 _ ?_
  simp only [List.getElem?_cons_succ]
  rw [List.getElem?_append_right (by omega), lx, List.getElem?_append_right (by omega), ly]
  rfl
 ·refine h1 20 _ ?_
  simp only [List.getElem?_cons_succ]
  rw [List.getElem?_append_right (by omega), lx, List.getElem?_append_right (by omega), ly]
  rfl
def deepV : Option (Int × Int) → Value
 | some p => .tuple #[.agg #[.int .i64 p.1, .int .i64 p.2], .bool true]
 | none => .tuple #[.agg #[.int .i64 0, .int .i64 0], .bool false]
theorem deeps_drop {l : List St} {i : Nat} {s : St} (h : l[i]? = some s) (d : Nat) : St.deeps (l.drop i) d = match s.deep d with | some p => some p | none => St.deeps (l.drop (i + 1)) d := by
 obtain ⟨hi, rfl⟩ := List.getElem?_eq_some_iff.1 h
 rw [List.drop_eq_getElem_cons hi, St.deeps]
 cases l[i].deep d <;> rfl
theorem end_pos {fn : Func} {R : Ending → World → Prop} {act : Act} {W : World} {b : Nat} {s u : Tmp} {x y : Int} {v : Value} (h : Blk W b 25 [.int .i64 x, .int .i64 y]) (hres : fn.results = #[.cell s 25, .tmp u])
  (hs : act.tmps.getD s undef = .pointer (some ⟨b, 0, none⟩)) (hu : act.tmps.getD u undef = v) (hd : act.defers = []) (hR : R (.returned (.tuple #[.agg #[.int .i64 x, .int .i64 y], v])) W) : bodyPost Tryz.prog fn R .ret act W := by
 have e0 := h.cell 0
 have e1 := h.cell 1
 simp only [List.getElem?_cons_zero, List.getElem?_cons_succ] at e0 e1
 have hs' : act.tmps[s]?.getD undef = .pointer (some ⟨b, 0, none⟩) := by rw [← hs]; simp
 have hu' : act.tmps[u]?.getD undef = v := by rw [← hu]; simp
 refine bodyPost_ret (v := .tuple #[.agg #[.int .i64 x, .int .i64 y], v]) ?_ hd hR
 simp [results, hres, go_sem, hs', hu', e0, e1]
def DeepOk (d : Nat) : Prop := ∀ (l : List St) (a : Option Addr) (cap : Nat) (w : World), SlAt w a cap l → Calls Tryz.prog 38 #[.slice a l.length cap, .int .i64 (d : Int)] w fun e w' => Below w.heap.size w w' ∧ e = .returned (deepV (St.deeps l d))
set_option maxRecDepth 100000 in
set_option maxHeartbeats 8000000 in
theorem deep_step (d : Nat) (hd : d ≤ 25) (ih : d + 1 ≤ 25 → DeepOk (d + 1)) : DeepOk d := by
 intro l a cap w h
 have hz0 := Blk.new w 25 [.int .i64 0, .int .i64 0]
 have hb0 : Below w.heap.size w (w.alloc (.cells #[.int .i64 0, .int .i64 0] 25)) := (Below.refl _ w).alloc (Nat.le_refl _) _
 have h0 := h.below hb0
 have hs0 : (w.alloc (.cells #[.int .i64 0, .int .i64 0] 25)).heap.size = w.heap.size + 1 := by simp
 have hroom := h.1
 obtain ⟨R, hR⟩ : ∃ R, St.deeps l d = R := ⟨_, rfl⟩
 obtain ⟨N, hN⟩ : ∃ N, l.length = N := ⟨_, rfl⟩
 rw [hR]
 rw [hN] at hroom ⊢
 have HR := Lib.hid hR
 have HN := Lib.hid hN
 have HE := Lib.hid (And.intro hb0 (And.intro hz0 h0))
 clear hR hN hb0 hz0 h0 h
 go_enter Tryz.func38, Tryz.ntmps38
 go_wp2_with fail
 generalize w.alloc (.cells #[.int .i64 0, .int .i64 0] 25) = W0 at *
 go_loopg [14] N (fun x iv wr => ∃ i : Nat, i ≤ N ∧ x = N - i ∧ iv = .int .i64 (i : Int) ∧ Hid (Below w.heap.size w wr ∧ Blk wr w.heap.size 25 [.int .i64 0, .int .i64 0] ∧ SlAt wr a cap l) ∧ Hid (St.deeps (l.drop i) d = R))
 case atStart => exact ⟨0, Nat.zero_le _, rfl, rfl, HE, HR⟩
 case round =>
  clear HE HR hs0
  obtain ⟨i, hi, rfl, rfl, HE, HR⟩ := hrel
  obtain ⟨hb1, hz1, h1⟩ := HE.out
  by_cases hiN : i < N
  ·have hlt : (i : Int) < (N : Int) := by omega
   have hp0 : (0 : Int) ≤ (i : Int) := by omega
   have hroom2 : (i : Int) + 1 ≤ 9223372036854775807 := by
    have h1 := hroom.1
    have h2 := hroom.2
    omega
   obtain ⟨s, hs⟩ : ∃ s, l[i]? = some s := ⟨_, List.getElem?_eq_getElem (by rw [HN.out]; exact hiN)⟩
   have hR := HR.out
   rw [deeps_drop hs] at hR
   obtain ⟨b2, off2, rfl, hst⟩ := h1.at hs
   obtain ⟨sk, sl, sc, sn, sw, sx, sy, sb, se, sid, ssl, sot, slo⟩ := s
   obtain ⟨-, p1, p2, -, -, hx, hy, ⟨ab, capb, p19, hbody⟩, ae, cape, p20, hels⟩ := hst.parts
   have hfx := flat_any wr 24 sx b2 (off2 + i * 25 + 5) (by decide) hx
   have hfy := flat_any wr 24 sy b2 (off2 + i * 25 + 12) (by decide) hy
   unfold St.deep at hR
   have HR2 := Lib.hid hR
   clear hR hst hx hy HR
   by_cases hd25 : d = 25
   ·subst hd25
    have HZ := Lib.hid (And.intro ((hz1.set1 0 (.int .i64 sl)).set1 1 (.int .i64 sc)) ((hb1.setCell (p := ⟨w.heap.size, 0, none⟩) (Nat.le_refl _) (.int .i64 sl)).setCell (p := ⟨w.heap.size, 1, none⟩) (Nat.le_refl _) (.int .i64 sc)))
    have hR := HR2.out
    rw [if_pos (.inl (by decide))] at hR
    subst hR
    have z0 := hz1.cell 0
    have z1 := hz1.cell 1
    have g0 := hz1.frozen 0
    have g1 := hz1.frozen 1
    clear hz1 hb1 h1 hfx hfy
    go_wp2_with fail
    exact end_pos HZ.out.1 rfl rfl rfl rfl ⟨HZ.out.2, rfl⟩
   have hd24 : decide ((24 : Int) < (d : Int)) = false := by simp; omega
   have h24 : ¬ (24 : Int) < (d : Int) := by omega
   go_wp2_with fail
   refine hfy.mono ?_
   rintro e w' ⟨rfl, rfl⟩
   by_cases hyd : sy.depth ≤ 24
   ·rw [decide_eq_true hyd]
    clear hfy
    go_wp2_with fail
    refine hfx.mono ?_
    rintro e w'' ⟨rfl, rfl⟩
    by_cases hxd : sx.depth ≤ 24
    ·rw [decide_eq_true hxd]
     clear hfx
     have hR := HR2.out
     rw [if_neg (by omega)] at hR
     have hcast : ((d : Int) + 1) = ((d + 1 : Nat) : Int) := by omega
     have hca := ih (by omega) sb ab capb _ hbody
     rw [← hcast] at hca
     clear hcast
     have hdr : (d : Int) + 1 ≤ 9223372036854775807 := by omega
     have hd0 : (0 : Int) ≤ (d : Int) := by omega
     go_wp2_with fail
     refine hca.mono ?_
     rintro e W2 ⟨hb2, rfl⟩
     have h2 := h1.below hb2
     have hz2 := hz1.below hb2
     have hbb2 := hb1.trans (hb2.mono hb1.size)
     clear hca
     have hw2 : w.heap.size < W2.heap.size := hz2.lt
     rcases hdb : St.deeps sb (d + 1) with _ | ⟨pl, pc⟩
     ·rw [hdb] at hR
      have HR3 := Lib.hid hR
      unfold deepV
      have hb3 : Below W2.heap.size W2 (W2.alloc (.cells #[.int .i64 0, .int .i64 0] 25)) := (Below.refl _ W2).alloc (Nat.le_refl _) _
      have h3 := h2.below hb3
      have hz3 := hz2.below hb3
      have hbb3 := hbb2.trans (hb3.mono hbb2.size)
      have hwb := hb2.trans (hb3.mono hb2.size)
      have q20 := (hwb.cell (p := ⟨b2, off2 + i * 25 + 20, none⟩) (World.block_lt_of_cell? _ _ p20)).trans p20
      have hels3 := hels.below hwb
      have hcb := ih (by omega) se ae cape _ hels3
      rw [show (((d + 1 : Nat) : Int)) = (d : Int) + 1 by omega] at hcb
      clear p19 p20 p1 p2 hels hbody hb2 hb3 h2 hz2 hbb2 hwb h1 hz1 hb1
      go_wp2_with fail
      generalize W2.alloc (.cells #[.int .i64 0, .int .i64 0] 25) = W3 at *
      refine hcb.mono ?_
      rintro e W4 ⟨hb4, rfl⟩
      have h4 := h3.below hb4
      have hz4 := hz3.below hb4
      have hbb4 := hbb3.trans (hb4.mono hbb3.size)
      have hR := HR3.out
      have hw4 : w.heap.size < W4.heap.size := hz4.lt
      clear hcb hb4 q20 hels3 h3 hz3 hbb3 HR3 HR2
      rcases hde : St.deeps se (d + 1) with _ | ⟨pl, pc⟩
      ·rw [hde] at hR
       unfold deepV
       have HR4 : Hid (St.deeps (l.drop (i + 1)) d = R) := Lib.hid hR
       have hb5 : Below W4.heap.size W4 (W4.alloc (.cells #[.int .i64 0, .int .i64 0] 25)) := (Below.refl _ W4).alloc (Nat.le_refl _) _
       have HE5 := Lib.hid (And.intro (hbb4.trans (hb5.mono hbb4.size)) (And.intro (hz4.below hb5) (h4.below hb5)))
       clear h4 hz4 hbb4 hb5 hR hde hdb
       go_wp2_with fail
       go_roundg (N - (i + 1))
       case measure => omega
       case rel => exact ⟨i + 1, by omega, rfl, rfl, HE5, HR4⟩
      ·rw [hde] at hR
       unfold deepV
       have hz3 := hz4.alloc (.cells #[.int .i64 pl, .int .i64 pc] 25)
       have hb3 := hbb4.alloc hbb4.size (.cells #[.int .i64 pl, .int .i64 pc] 25)
       have ht3 := Blk.new W4 25 [.int .i64 pl, .int .i64 pc]
       have hne3 : W4.heap.size ≠ w.heap.size := by omega
       subst hR
       have HX := Lib.hid (And.intro hz3 (And.intro hb3 ht3))
       clear hz3 hb3 ht3 hz4 hbb4 h4 hde hdb
       go_upto_region 12 with fail
       obtain ⟨hz3, hb3, ht3⟩ := HX.out
       clear HX
       obtain ⟨q, hq⟩ : ∃ q, W4.heap.size = q := ⟨_, rfl⟩
       rw [hq] at ht3 hne3 ⊢
       change Blk (W4.alloc (.cells #[.int .i64 pl, .int .i64 pc] 25)) q 25 [.int .i64 pl, .int .i64 pc] at ht3
       generalize W4.alloc (.cells #[.int .i64 pl, .int .i64 pc] 25) = W5 at *
       have HZ := Lib.hid (And.intro ((hz3.set1 0 (.int .i64 pl)).set1 1 (.int .i64 pc)) ((hb3.setCell (p := ⟨w.heap.size, 0, none⟩) (Nat.le_refl _) (.int .i64 pl)).setCell (p := ⟨w.heap.size, 1, none⟩) (Nat.le_refl _) (.int .i64 pc)))
       have z0 := hz3.cell 0
       have z1 := hz3.cell 1
       have g0 := hz3.frozen 0
       have g1 := hz3.frozen 1
       have y0 := ht3.cell 0
       have y1 := ht3.cell 1
       clear hz3 hb3 ht3
       go_wp2_with fail
       exact end_pos HZ.out.1 rfl rfl rfl rfl ⟨HZ.out.2, rfl⟩
     ·rw [hdb] at hR
      unfold deepV
      have hz3 := hz2.alloc (.cells #[.int .i64 pl, .int .i64 pc] 25)
      have hb3 := hbb2.alloc hbb2.size (.cells #[.int .i64 pl, .int .i64 pc] 25)
      have ht3 := Blk.new W2 25 [.int .i64 pl, .int .i64 pc]
      have hne3 : W2.heap.size ≠ w.heap.size := by omega
      subst hR
      have HX := Lib.hid (And.intro hz3 (And.intro hb3 ht3))
      clear hz3 hb3 ht3 hz2 hbb2 h2 h1 hz1 hb1 hb2 p19 p20 p1 p2 hels hbody hdb HR2
      go_upto_region 9 with fail
      obtain ⟨hz3, hb3, ht3⟩ := HX.out
      clear HX
      obtain ⟨q, hq⟩ : ∃ q, W2.heap.size = q := ⟨_, rfl⟩
      rw [hq] at ht3 hne3 ⊢
      change Blk (W2.alloc (.cells #[.int .i64 pl, .int .i64 pc] 25)) q 25 [.int .i64 pl, .int .i64 pc] at ht3
      generalize W2.alloc (.cells #[.int .i64 pl, .int .i64 pc] 25) = W5 at *
      have HZ := Lib.hid (And.intro ((hz3.set1 0 (.int .i64 pl)).set1 1 (.int .i64 pc)) ((hb3.setCell (p := ⟨w.heap.size, 0, none⟩) (Nat.le_refl _) (.int .i64 pl)).setCell (p := ⟨w.heap.size, 1, none⟩) (Nat.le_refl _) (.int .i64 pc)))
      have z0 := hz3.cell 0
      have z1 := hz3.cell 1
      have g0 := hz3.frozen 0
      have g1 := hz3.frozen 1
      have y0 := ht3.cell 0
      have y1 := ht3.cell 1
      clear hz3 hb3 ht3
      go_wp2_with fail
      exact end_pos HZ.out.1 rfl rfl rfl rfl ⟨HZ.out.2, rfl⟩
    ·rw [decide_eq_false hxd]
     have HZ := Lib.hid (And.intro ((hz1.set1 0 (.int .i64 sl)).set1 1 (.int .i64 sc)) ((hb1.setCell (p := ⟨w.heap.size, 0, none⟩) (Nat.le_refl _) (.int .i64 sl)).setCell (p := ⟨w.heap.size, 1, none⟩) (Nat.le_refl _) (.int .i64 sc)))
     have hR := HR2.out
     rw [if_pos (.inr (.inr (by omega)))] at hR
     subst hR
     have z0 := hz1.cell 0
     have z1 := hz1.cell 1
     have g0 := hz1.frozen 0
     have g1 := hz1.frozen 1
     clear hz1 hb1 h1 hfx
     go_wp2_with fail
     exact end_pos HZ.out.1 rfl rfl rfl rfl ⟨HZ.out.2, rfl⟩
   ·rw [decide_eq_false hyd]
    have HZ := Lib.hid (And.intro ((hz1.set1 0 (.int .i64 sl)).set1 1 (.int .i64 sc)) ((hb1.setCell (p := ⟨w.heap.size, 0, none⟩) (Nat.le_refl _) (.int .i64 sl)).setCell (p := ⟨w.heap.size, 1, none⟩) (Nat.le_refl _) (.int .i64 sc)))
    have hR := HR2.out
    rw [if_pos (.inr (.inl (by omega)))] at hR
    subst hR
    have z0 := hz1.cell 0
    have z1 := hz1.cell 1
    have g0 := hz1.frozen 0
    have g1 := hz1.frozen 1
    clear hz1 hb1 h1 hfx hfy
    go_wp2_with fail
    exact end_pos HZ.out.1 rfl rfl rfl rfl ⟨HZ.out.2, rfl⟩
  ·obtain rfl : i = N := by omega
   have hlt : ¬ (i : Int) < (i : Int) := by omega
   have hR := HR.out
   rw [List.drop_eq_nil_of_le (by rw [HN.out]; exact Nat.le_refl _), St.deeps] at hR
   subst hR
   have HZ := Lib.hid (And.intro ((hz1.set1 0 (.int .i64 0)).set1 1 (.int .i64 0)) ((hb1.setCell (p := ⟨w.heap.size, 0, none⟩) (Nat.le_refl _) (.int .i64 0)).setCell (p := ⟨w.heap.size, 1, none⟩) (Nat.le_refl _) (.int .i64 0)))
   have z0 := hz1.cell 0
   have z1 := hz1.cell 1
   have g0 := hz1.frozen 0
   have g1 := hz1.frozen 1
   clear hz1 hb1 h1
   go_wp2_with fail
   exact end_pos HZ.out.1 rfl rfl rfl rfl ⟨HZ.out.2, rfl⟩
theorem deep_any : ∀ (m d : Nat), d + m = 25 → DeepOk d := by
 intro m
 induction m with
 | zero =>
  intro d hd
  exact deep_step d (by omega) (fun h => absurd h (by omega))
 | succ m ih =>
  intro d hd
  exact deep_step d (by omega) (fun _ => ih (d + 1) (by omega))
end Go.Proofs.YtjmlmelcppbefaaGreatDoor
