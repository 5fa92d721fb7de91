/- What the syntax texts share, part 35. No condition. -/
import Derived.Test.YtjmlmelcppbefaaGreatDoorT10
import Derived.Test.YtjmlmelcppbefaaGreatDoorT11
import Derived.Test.YtjmlmelcppbefaaGreatDoorT26
import Derived.Test.YtjmlmelcppbefaaGreatDoorT29
import Derived.Test.YtjmlmelcppbefaaGreatDoorT32
set_option maxRecDepth 100000
namespace Go.Proofs.YtjmlmelcppbefaaGreatDoor
open Go.RowKit Go.Maps
def XlAt (w : World) (a : Option Addr) (l : List Ex) : Prop := ExsL (fun _ => True) w a 0 l
theorem XlAt.at {w : World} {a : Option Addr} {l : List Ex} (h : XlAt w a l) {j : Nat} (hj : j < l.length) : ∃ b off cs, a = some ⟨b, off, none⟩ ∧ w.rangeAt b (off + j * 7) cs ∧ ExL (fun _ => True) w cs (l.getD j zEx) := by
 obtain ⟨b, off, cs, h1, -, h2, h3⟩ := ExsL.at h j hj
 exact ⟨b, off, cs, h1, fun t v hv => by simpa using h2 t v hv, h3⟩
theorem ExL.below {w w' : World} {cs : List Value} {x : Ex} (h : ExL (fun _ => True) w cs x) (hb : Below w.heap.size w w') : ExL (fun _ => True) w' cs x :=
 ExL.keep (fun b o v _ hv => by rw [← hv]; simp [World.cell?, hb.block b (World.block_lt_of_cell? w _ hv)]) h
theorem XlAt.below {w w' : World} {a : Option Addr} {l : List Ex} (h : XlAt w a l) (hb : Below w.heap.size w w') : XlAt w' a l :=
 ExsL.keep (fun b o v _ hv => by rw [← hv]; simp [World.cell?, hb.block b (World.block_lt_of_cell? w _ hv)]) h
theorem depths_take {l : List Ex} {i : Nat} (h : i < l.length) : Ex.depths (l.take (i + 1)) = max (Ex.depths (l.take i)) (l.getD i zEx).depth := by
 induction l generalizing i with
 | nil => cases h
 | cons e r ih =>
  cases i with
  | zero => simp [Ex.depths]
  | succ i =>
   have := ih (i := i) (by simpa using h)
   simp only [List.take_succ_cons, Ex.depths, this, Nat.max_assoc, List.getD_cons_succ]
theorem depth_ge {l : List Ex} {n j : Nat} (h : Ex.depths l ≤ n) (hj : j < l.length) : (l.getD j zEx).depth ≤ n := (depths_le n l).1 h j hj
set_option maxHeartbeats 4000000 in
theorem rdepth_any : ∀ (n : Nat) (x : Ex) (cs : List Value) (w : World), n ≤ 9223372036854775806 → x.depth ≤ n → ExL (fun _ => True) w cs x → Calls Tryz.prog 90 #[.agg cs.toArray] w fun e w' => e = .returned (.int .i64 (x.depth : Int)) ∧ Below w.heap.size w w' := by
 intro n
 induction n with
 | zero =>
  intro x cs w hn hx h
  obtain ⟨k, n, s, sl, lo, o, args⟩ := x
  simp [Ex.depth] at hx
 | succ n ih =>
  intro x cs w hn hx h
  obtain ⟨k, nn, s, sl, lo, o, args⟩ := x
  unfold ExL at h
  obtain ⟨a, cap, rfl, hc, hat⟩ := h
  rw [Ex.depth] at hx ⊢
  have hdn : Ex.depths args ≤ n := by omega
  obtain ⟨D, hD⟩ : ∃ D, Ex.depths args = D := ⟨_, rfl⟩
  have hX : XlAt w a args := hat
  have hb0 : Below w.heap.size w (w.alloc (.cells #[.int .i64 k, .int .i64 nn, .string s, .int .i64 sl, .bool lo, .int .i64 o, .slice a args.length cap] 46)) := (Below.refl _ w).alloc (Nat.le_refl _) _
  have hz0 := Blk.new w 46 [.int .i64 k, .int .i64 nn, .string s, .int .i64 sl, .bool lo, .int .i64 o, .slice a args.length cap]
  have h0 := hX.below hb0
  obtain ⟨N, hN⟩ : ∃ N, args.length = N := ⟨_, rfl⟩
  rw [hN] at hc hb0 hz0 h0 ⊢
  rw [hD]
  have HE := Lib.hid (And.intro hb0 (And.intro hz0 h0))
  have HN := Lib.hid hN
  have HD := Lib.hid hD
  have HDN := Lib.hid hdn
  clear hat hX hb0 hz0 h0 hN hdn hD hx
  obtain ⟨d46, hu46, hr46⟩ := under46
  go_enter Tryz.func90, Tryz.ntmps90
  go_wp2_with fail
  generalize w.alloc (.cells #[.int .i64 k, .int .i64 nn, .string s, .int .i64 sl, .bool lo, .int .i64 o, .slice a N cap] 46) = W0 at *
  go_loopg [3, 4] N (fun x mv iv wr => ∃ (i m : Nat), i ≤ N ∧ x = N - i ∧ iv = .int .i64 (i : Int) ∧ mv = .int .i64 (m : Int) ∧ Hid (Below w.heap.size w wr ∧ Blk wr w.heap.size 46 [.int .i64 k, .int .i64 nn, .string s, .int .i64 sl, .bool lo, .int .i64 o, .slice a N cap] ∧ XlAt wr a args) ∧ Hid (Ex.depths (args.take i) = m))
  case atStart => exact ⟨0, 0, Nat.zero_le _, rfl, rfl, rfl, HE, Lib.hid rfl⟩
  case round =>
   clear HE
   obtain ⟨i, m, hi, rfl, rfl, rfl, HE, HM⟩ := hrel
   obtain ⟨hb1, hz1, h1⟩ := HE.out
   have z6 := hz1.cell 6
   simp only [List.getElem?_cons_succ, List.getElem?_cons_zero] at z6
   by_cases hiN : i < N
   ·have hlt : (i : Int) < (N : Int) := by omega
    have hp0 : (0 : Int) ≤ (i : Int) := by omega
    have hroom : (i : Int) + 1 ≤ 9223372036854775807 := by
     have h1 := hc.1
     have h2 := hc.2
     omega
    obtain ⟨b2, off2, cs, rfl, hr, hx⟩ := h1.at (j := i) (by rw [HN.out]; exact hiN)
    have hdx := depth_ge HDN.out (j := i) (by rw [HN.out]; exact hiN)
    have hcl := ih (args.getD i zEx) cs wr (by omega) hdx hx
    have hl := hx.cells.1
    have hM2 := depths_take (l := args) (i := i) (by rw [HN.out]; exact hiN)
    rw [HM.out] at hM2
    obtain ⟨dx, hde⟩ : ∃ dx, (args.getD i zEx).depth = dx := ⟨_, rfl⟩
    rw [hde] at hcl hM2 hdx
    have HRg := Lib.hid hr
    have HL := Lib.hid hl
    clear hr hx hl
    go_wp2_with ((with_reducible show wpList _ _ _ (Oper.mk _ (.load 46 _) _ _ _ _ :: _) _ _); refine wpList_load_mid rfl 46 (.tmp 16) rfl b2 (off2 + i * 7) rfl cs d46 HRg.out hu46 hr46 (by rw [HL.out]; exact info46) ?_)
    refine hcl.mono ?_
    rintro e W1 ⟨rfl, hb2⟩
    have HE2 := Lib.hid (And.intro (hb1.trans (hb2.mono hb1.size)) (And.intro (hz1.below hb2) (h1.below hb2)))
    have HM2 := Lib.hid hM2
    clear hcl hb2 hz1 h1 hb1 HE HM hM2 hde
    go_wp2_with fail
    go_roundg (N - (i + 1))
    case measure => omega
    case rel => exact ⟨i + 1, max m dx, by omega, rfl, rfl, congrArg (Value.int .i64) (by omega), HE2, HM2⟩
   ·obtain rfl : i = N := by omega
    have hlt : ¬ (i : Int) < (i : Int) := by omega
    have hmD : m = D := by
     rw [← HM.out, ← HD.out, List.take_of_length_le (by rw [HN.out]; exact Nat.le_refl _)]
    subst hmD
    have hDn : (m : Int) + 1 ≤ 9223372036854775807 := by
     have := HDN.out
     have := HD.out
     omega
    clear hz1 h1 HE
    go_wp2_with fail
    go_ret
    exact ⟨rfl, hb1⟩
theorem toListInj {s t : ByteArray} (h : s.toList = t.toList) : s = t := by
 rw [ByteArray.toList_eq, ByteArray.toList_eq] at h
 exact ByteArray.ext (Array.toList_inj.1 h)
theorem neOr {α : Type} [DecidableEq α] (a b : α) : a ≠ b ∨ a = b := (Decidable.em (a = b)).symm
theorem still_of_quiet {P : Program} {o : Oper} {a : Act} {W : World} {K : Act → Prop} (h : o.quiet P a (fun w' => w' = W) K) : o.still P a W K := by
 obtain ⟨v, h1, h2⟩ := h
 have h3 := h1 W rfl
 unfold Oper.quietAt at h3
 unfold Oper.still
 generalize (execOp a.eval o).run P W = r at h3
 unfold Oper.quietUpon at h3
 unfold Oper.stillUpon
 split at h3
 ·obtain ⟨rfl, rfl⟩ := h3
  exact ⟨rfl, h2⟩
 ·obtain ⟨rfl, rfl⟩ := h3
  exact ⟨rfl, h2⟩
 ·exact ⟨h3.1, v, h3.2, h2⟩
 ·exact h3.elim
theorem wpStill_of_quiet {P : Program} {ops : Array Oper} {W : World} {Q : Act → Prop} : ∀ (l : List Oper) (a : Act), wpQuiet P ops (fun w' => w' = W) Q l a → wpStill P ops W Q l a
 | [], _, h => h
 | o :: rest, a, h => by
  unfold wpQuiet at h
  unfold wpStill
  split
  ·rename_i hw
   rw [if_pos hw] at h
   exact Oper.still_mono (fun a h => wpStill_of_quiet rest a h) (still_of_quiet h)
  ·rename_i hw
   rw [if_neg hw] at h
   exact wpStill_of_quiet rest _ h
theorem wp_region_quiet_tail {P : Program} {id : Nat} {Q : Exit → Act → World → Prop} {a : Act} {w : World} {l : List Oper} (n : Nat) (hm : P.follows .mixedOrders = true) (hB : Region.lexTailB .any l.toArray n = true)
  (h : wpQuiet P l.toArray (fun w' => w' = w.drew) (fun a' => wpList P l.toArray Q (l.drop n) a' w.drew) (l.take n) a) : (Code.region id l.toArray true).wp P Q a w :=
 wp_region_still_tail n hm hB (wpStill_of_quiet _ _ h)
theorem wpList_load_g {P : Program} {ops : Array Oper} {rest : List Oper} {op : Oper} {a : Act} {w : World} {Q : Exit → Act → World → Prop} (hw : Region.wanted op (yielded ops a.tmps) = true) (ty : TypeId) (x : Operand) (ho : op.op = .load ty x)
  (b o : Nat) (hx : a.eval x = .pointer (some ⟨b, o, none⟩)) (cs : List Value) (d : TypeDesc) (hc : w.rangeAt b o cs) (hu : P.underlying ty = some d) (hd : d.isRow = true) (hi : (P.info? ty).map (·.size) = some cs.length)
  (h : wpList P ops Q rest (a.put op.dst (.agg cs.toArray)) w) : wpList P ops Q (op :: rest) a w :=
 wpList_step fun K hK => by
  rw [if_pos hw]
  exact wp_load_mid ty x ho b o hx cs d hc hu hd hi (hK _ _ h)
def RDeepOk (M d : Nat) : Prop := ∀ (l : List St) (a : Option Addr) (cap : Nat) (w : World), SlAt w a cap l → St.xbs M l → Calls Tryz.prog 42 #[.slice a l.length cap, .int .i64 (d : Int)] w fun e w' => Below w.heap.size w w' ∧ e = .returned (deepV (St.deeps l d))
theorem StAt.below {w w' : World} {b off : Nat} {s : St} (h : StAt w b off s) (hb : Below w.heap.size w w') : StAt w' b off s := by
 obtain ⟨cs, h1, h2⟩ := h
 have hk : ∀ (b o : Nat) (v : Value), w.cell? ⟨b, o, none⟩ = some v → w'.cell? ⟨b, o, none⟩ = some v := fun b o v hv => by rw [← hv]; simp [World.cell?, hb.block b (World.block_lt_of_cell? w _ hv)]
 exact ⟨cs, fun j v hv => hk _ _ _ (h1 j v hv), StL.keep (fun b o v _ hv => hk b o v hv) h2⟩
structure Lev (w : World) (q : Nat) (V : World) (a : Option Addr) (cap : Nat) (l : List St) (s : St) : Prop where
 b : Below w.heap.size w V
 z : Blk V w.heap.size 25 [.int .i64 0, .int .i64 0]
 l : SlAt V a cap l
 s : StAt V q 0 s
theorem Lev.below {w V V' : World} {q : Nat} {a : Option Addr} {cap : Nat} {l : List St} {s : St} (h : Lev w q V a cap l s) (hb : Below V.heap.size V V') : Lev w q V' a cap l s :=
 ⟨h.b.trans (hb.mono h.b.size), h.z.below hb, h.l.below hb, h.s.below hb⟩
theorem ExL.at0 {w : World} {b off : Nat} {x : Ex} (h : ExAt w b off x) : ∃ cs : List Value, w.rangeAt b off cs ∧ cs.length = 7 ∧ ExL (fun _ => True) w cs x := by
 obtain ⟨cs, h1, h2⟩ := h
 exact ⟨cs, h1, h2.cells.1, h2⟩
set_option maxHeartbeats 8000000 in
theorem rdeep_step (M d : Nat) (hM : M ≤ 2000000) (hd : d ≤ 25) (ih : d + 1 ≤ 25 → RDeepOk M (d + 1)) : RDeepOk M d := by
 intro l a cap w h hxb
 obtain ⟨d64, hu64, hr64⟩ := under64
 obtain ⟨d46, hu46, hr46⟩ := under46
 have hz0 := Blk.new w 25 [.int .i64 0, .int .i64 0]
 have hb0 : Below w.heap.size w (w.alloc (.cells #[.int .i64 0, .int .i64 0] 25)) := (Below.refl _ w).alloc (Nat.le_refl _) _
 have h0 := h.below hb0
 have hs0 : (w.alloc (.cells #[.int .i64 0, .int .i64 0] 25)).heap.size = w.heap.size + 1 := by simp
 have hroom := h.1
 obtain ⟨R, hR⟩ : ∃ R, St.deeps l d = R := ⟨_, rfl⟩
 obtain ⟨N, hN⟩ : ∃ N, l.length = N := ⟨_, rfl⟩
 rw [hR]
 rw [hN] at hroom ⊢
 have HR := Lib.hid hR
 have HN := Lib.hid hN
 have HX := Lib.hid hxb
 have HE := Lib.hid (And.intro hb0 (And.intro hz0 h0))
 clear hR hN hb0 hz0 h0 h hxb
 go_enter Tryz.func42, Tryz.ntmps42
 go_wp2_with fail
 generalize w.alloc (.cells #[.int .i64 0, .int .i64 0] 25) = W0 at *
 go_loopg [6] N (fun x iv wr => ∃ i : Nat, i ≤ N ∧ x = N - i ∧ iv = .int .i64 (i : Int) ∧ Hid (Below w.heap.size w wr ∧ Blk wr w.heap.size 25 [.int .i64 0, .int .i64 0] ∧ SlAt wr a cap l) ∧ Hid (St.deeps (l.drop i) d = R))
 case atStart => exact ⟨0, Nat.zero_le _, rfl, rfl, HE, HR⟩
 case round =>
  clear HE HR hs0
  obtain ⟨i, hi, rfl, rfl, HE, HR⟩ := hrel
  obtain ⟨hb1, hz1, h1⟩ := HE.out
  by_cases hiN : i < N
  ·have hlt : (i : Int) < (N : Int) := by omega
   have hp0 : (0 : Int) ≤ (i : Int) := by omega
   have hroom2 : (i : Int) + 1 ≤ 9223372036854775807 := by
    have h1 := hroom.1
    have h2 := hroom.2
    omega
   obtain ⟨s, hs⟩ : ∃ s, l[i]? = some s := ⟨_, List.getElem?_eq_getElem (by rw [HN.out]; exact hiN)⟩
   have hR := HR.out
   rw [deeps_drop hs] at hR
   have hxs := xbs_at HX.out hs
   obtain ⟨b2, off2, rfl, cs, hrg, hL⟩ := h1.at hs
   have hl25 := hL.cells.1
   have h1c := hL.cells.2
   have hb2 : Below wr.heap.size wr (wr.alloc (.cells cs.toArray 64)) := (Below.refl _ wr).alloc (Nat.le_refl _) _
   have HZ := Lib.hid (And.intro (hb1.alloc hb1.size (.cells cs.toArray 64)) (And.intro (hz1.below hb2) (And.intro (h1.below hb2) (Blk.new wr 64 cs))))
   have hsz2 : (wr.alloc (.cells cs.toArray 64)).heap.size = wr.heap.size + 1 := by simp
   have HST := Lib.hid (StL.keep (w' := wr.alloc (.cells cs.toArray 64)) (fun b o v _ hv => by rw [← hv]; simp [World.cell?, hb2.block b (World.block_lt_of_cell? wr _ hv)]) hL)
   have HRg := Lib.hid hrg
   have HR2 := Lib.hid hR
   have HXS := Lib.hid hxs
   have hwq : w.heap.size < wr.heap.size := hz1.lt
   clear hrg hL hb2 hb1 hz1 h1 HE hR HR hs hxs
   go_upto_region 5 with (first | ((with_reducible show wpList _ _ _ (Oper.mk _ (.load 64 _) _ _ _ _ :: _) _ _); refine wpList_load_mid rfl 64 (.tmp 18) rfl b2 (off2 + i * 25) rfl cs d64 HRg.out hu64 hr64 (by rw [hl25]; exact info64) ?_) | ((with_reducible show wpList _ _ _ (Oper.mk none (.store 64 _ _) _ _ _ _ :: _) _ _); refine wpList_store_fresh info64 rfl (.tmp 7) (.tmp 19) rfl wr zSt.toList cs rfl rfl hl25 h1c _ rfl rfl rfl ?_))
   obtain ⟨q, hq⟩ : ∃ q, wr.heap.size = q := ⟨_, rfl⟩
   rw [hq] at HZ hsz2 hwq ⊢
   generalize wr.alloc (.cells cs.toArray 64) = W2 at *
   obtain ⟨hb2, hz2, h2, hq2⟩ := HZ.out
   have L2 : Lev w q W2 (some ⟨b2, off2, none⟩) cap l s := ⟨hb2, hz2, h2, cs, hq2.whole, HST.out⟩
   obtain ⟨sk, sl, sc, sn, sw, sx, sy, sb, se, sid, ssl, sot, slo⟩ := s
   have hR := HR2.out
   unfold St.deep at hR
   have HR3 := Lib.hid hR
   have hxs := HXS.out
   unfold St.xb at hxs
   obtain ⟨hdx, hdy, hxb, hxe⟩ := hxs
   have HXX := Lib.hid (And.intro hxb hxe)
   have HL2 := Lib.hid L2
   clear hR HR2 HXS HST HZ HRg hq2 hl25 h1c hxb hxe hsz2 hb2 hz2 h2 L2 hq
   by_cases hd25 : d = 25
   ·subst hd25
    have hR := HR3.out
    rw [if_pos (.inl (by decide))] at hR
    subst hR
    have L2 := HL2.out
    obtain ⟨-, p1, p2, -, -, hx, hy, ⟨ab, capb, p19, hbody⟩, ae, cape, p20, hels⟩ := L2.s.parts
    simp only [Nat.zero_add] at p1 p2 p19 p20 hx hy
    clear hx hy p19 hbody p20 hels
    have hz2 := L2.z
    have hb2 := L2.b
    have HZZ := Lib.hid (And.intro ((hz2.set1 0 (.int .i64 sl)).set1 1 (.int .i64 sc)) ((hb2.setCell (p := ⟨w.heap.size, 0, none⟩) (Nat.le_refl _) (.int .i64 sl)).setCell (p := ⟨w.heap.size, 1, none⟩) (Nat.le_refl _) (.int .i64 sc)))
    have z0 := hz2.cell 0
    have z1 := hz2.cell 1
    have g0 := hz2.frozen 0
    have g1 := hz2.frozen 1
    clear hz2 hb2 L2
    go_wp2_with fail
    exact end_pos HZZ.out.1 rfl rfl rfl rfl ⟨HZZ.out.2, rfl⟩
   have hd24 : decide ((24 : Int) < (d : Int)) = false := by simp; omega
   have h24 : ¬ (24 : Int) < (d : Int) := by omega
   have L2 := HL2.out
   obtain ⟨-, p1, p2, -, -, hx, hy, ⟨ab, capb, p19, hbody⟩, ae, cape, p20, hels⟩ := L2.s.parts
   simp only [Nat.zero_add] at p1 p2 p19 p20 hx hy
   clear p1 p2 hy p19 hbody p20 hels
   obtain ⟨cx, hrx, hlx, hLx⟩ := ExL.at0 hx
   have hcx := rdepth_any M sx cx W2 (by omega) hdx hLx
   obtain ⟨dx, hdxe⟩ : ∃ dx, sx.depth = dx := ⟨_, rfl⟩
   have HR4 := HR3
   rw [hdxe] at hcx HR4
   have HLX := Lib.hid hrx
   clear hx hLx L2 hrx HR3 hdx hdxe
   go_wp2_with ((with_reducible show wpList _ _ _ (Oper.mk _ (.load 46 _) _ _ _ _ :: _) _ _); refine wpList_load_g rfl 46 (.tmp 23) rfl q 5 rfl cx d46 HLX.out hu46 hr46 (by rw [hlx]; exact info46) ?_)
   refine hcx.mono ?_
   rintro e W3 ⟨rfl, hb3⟩
   have L3 := HL2.out.below hb3
   clear hcx hb3 HL2 HLX hlx
   by_cases hxd : dx ≤ 24
   ·have hxd1 : decide ((24 : Int) < (dx : Int)) = false := by simp; omega
    have hxd2 : ¬ (24 : Int) < (dx : Int) := by omega
    have HL3 := Lib.hid L3
    obtain ⟨-, p1, p2, -, -, hx, hy, ⟨ab, capb, p19, hbody⟩, ae, cape, p20, hels⟩ := L3.s.parts
    simp only [Nat.zero_add] at p1 p2 p19 p20 hx hy
    clear p1 p2 hx p19 hbody p20 hels
    obtain ⟨cy, hry, hly, hLy⟩ := ExL.at0 hy
    have hcy := rdepth_any M sy cy W3 (by omega) hdy hLy
    obtain ⟨dy, hdye⟩ : ∃ dy, sy.depth = dy := ⟨_, rfl⟩
    have HR5 := HR4
    rw [hdye] at hcy HR5
    have HLY := Lib.hid hry
    clear hy hLy L3 hry HR4 hdy hdye
    go_wp2_with ((with_reducible show wpList _ _ _ (Oper.mk _ (.load 46 _) _ _ _ _ :: _) _ _); refine wpList_load_g rfl 46 (.tmp 29) rfl q 12 rfl cy d46 HLY.out hu46 hr46 (by rw [hly]; exact info46) ?_)
    refine hcy.mono ?_
    rintro e W4 ⟨rfl, hb4⟩
    have L4 := HL3.out.below hb4
    clear hcy hb4 HL3 HLY hly
    by_cases hyd : dy ≤ 24
    ·have hyd1 : decide ((24 : Int) < (dy : Int)) = false := by simp; omega
     have hyd2 : ¬ (24 : Int) < (dy : Int) := by omega
     have hR := HR5.out
     rw [if_neg (by omega)] at hR
     have HL4 := Lib.hid L4
     obtain ⟨-, p1, p2, -, -, hx, hy, ⟨ab, capb, p19, hbody⟩, ae, cape, p20, hels⟩ := L4.s.parts
     simp only [Nat.zero_add] at p1 p2 p19 p20 hx hy
     clear p1 p2 hx hy p20 hels
     have hcast : ((d : Int) + 1) = ((d + 1 : Nat) : Int) := by omega
     have hca := ih (by omega) sb ab capb _ hbody HXX.out.1
     rw [← hcast] at hca
     clear hcast hbody L4 HR5
     have hdr : (d : Int) + 1 ≤ 9223372036854775807 := by omega
     have hd0 : (0 : Int) ≤ (d : Int) := by omega
     go_wp2_with fail
     refine hca.mono ?_
     rintro e W5 ⟨hb5, rfl⟩
     have L5 := HL4.out.below hb5
     clear hca hb5 HL4 p19
     have hw5 : w.heap.size < W5.heap.size := L5.z.lt
     rcases hdb : St.deeps sb (d + 1) with _ | ⟨pl, pc⟩
     ·rw [hdb] at hR
      unfold deepV
      have HR6 : Hid (St.deeps (l.drop (i + 1)) d = R ∨ True) := Lib.hid (.inr trivial)
      have hb6 : Below W5.heap.size W5 (W5.alloc (.cells #[.int .i64 0, .int .i64 0] 25)) := (Below.refl _ W5).alloc (Nat.le_refl _) _
      have L6 := L5.below hb6
      have ht6 := Blk.new W5 25 [.int .i64 0, .int .i64 0]
      have HL5 := Lib.hid L5
      have HT6 := Lib.hid (And.intro hb6 ht6)
      have hsz6 : (W5.alloc (.cells #[.int .i64 0, .int .i64 0] 25)).heap.size = W5.heap.size + 1 := by simp
      obtain ⟨-, p1, p2, -, -, hx, hy, ⟨ab, capb, p19, hbody⟩, ae, cape, p20, hels⟩ := L6.s.parts
      simp only [Nat.zero_add] at p1 p2 p19 p20 hx hy
      clear p1 p2 hx hy p19 hbody
      have hcb := ih (by omega) se ae cape _ hels HXX.out.2
      rw [show (((d + 1 : Nat) : Int)) = (d : Int) + 1 by omega] at hcb
      have HR7 := Lib.hid hR
      clear L6 L5 hels hb6 ht6 hdb hR HR6
      go_wp2_with fail
      obtain ⟨hb6, ht6⟩ := HT6.out
      clear HT6 p20
      obtain ⟨q8, hq8⟩ : ∃ q8, W5.heap.size = q8 := ⟨_, rfl⟩
      rw [hq8] at ht6 hsz6 hw5 hb6 ⊢
      change Blk (W5.alloc (.cells #[.int .i64 0, .int .i64 0] 25)) q8 25 [.int .i64 0, .int .i64 0] at ht6
      generalize W5.alloc (.cells #[.int .i64 0, .int .i64 0] 25) = W6 at *
      refine hcb.mono ?_
      rintro e W7 ⟨hb7, rfl⟩
      have ht7 := ht6.below hb7
      have hb57 := hb6.trans (hb7.mono (by have := hb6.size; omega))
      have hR := HR7.out
      have y0 := ht7.cell 0
      have y1 := ht7.cell 1
      have x0 := ht7.frozen 0
      have x1 := ht7.frozen 1
      simp only [List.getElem?_cons_succ, List.getElem?_cons_zero] at y0 y1
      have hne8 : q8 ≠ w.heap.size := by omega
      rcases hde : St.deeps se (d + 1) with _ | ⟨pl, pc⟩
      ·rw [hde] at hR
       unfold deepV
       have HR8 : Hid (St.deeps (l.drop (i + 1)) d = R) := Lib.hid hR
       have hbf : Below q8 W5 ((W7.setCell ⟨q8, 0, none⟩ (.int .i64 0)).setCell ⟨q8, 1, none⟩ (.int .i64 0)) := (hb57.setCell (p := ⟨q8, 0, none⟩) (Nat.le_refl _) _).setCell (p := ⟨q8, 1, none⟩) (Nat.le_refl _) _
       rw [← hq8] at hbf
       have Lf := HL5.out.below hbf
       rw [hq8] at Lf
       have HE5 := Lib.hid (And.intro Lf.b (And.intro Lf.z Lf.l))
       clear hbf Lf hb57 ht7 hR hde HL5 hcb HR7 hb6 hb7 ht6
       go_wp2_with fail
       go_roundg (N - (i + 1))
       case measure => omega
       case rel => exact ⟨i + 1, by omega, rfl, rfl, HE5, HR8⟩
      ·rw [hde] at hR
       unfold deepV
       subst hR
       have hbf : Below q8 W5 ((W7.setCell ⟨q8, 0, none⟩ (.int .i64 pl)).setCell ⟨q8, 1, none⟩ (.int .i64 pc)) := (hb57.setCell (p := ⟨q8, 0, none⟩) (Nat.le_refl _) _).setCell (p := ⟨q8, 1, none⟩) (Nat.le_refl _) _
       rw [← hq8] at hbf
       have Lf := HL5.out.below hbf
       rw [hq8] at Lf
       have htf := (ht7.set1 0 (.int .i64 pl)).set1 1 (.int .i64 pc)
       have HX8 := Lib.hid (And.intro Lf.b (And.intro Lf.z htf))
       clear hbf Lf htf hb57 ht7 hde HL5 hcb HR7 hb6 hb7 ht6
       go_upto_region 12 with fail
       obtain ⟨hb3, hz3, ht3⟩ := HX8.out
       clear HX8 y0 y1 x0 x1
       generalize (W7.setCell ⟨q8, 0, none⟩ (.int .i64 pl)).setCell ⟨q8, 1, none⟩ (.int .i64 pc) = W8 at *
       have HZ8 := Lib.hid (And.intro ((hz3.set1 0 (.int .i64 pl)).set1 1 (.int .i64 pc)) ((hb3.setCell (p := ⟨w.heap.size, 0, none⟩) (Nat.le_refl _) (.int .i64 pl)).setCell (p := ⟨w.heap.size, 1, none⟩) (Nat.le_refl _) (.int .i64 pc)))
       have z0 := hz3.cell 0
       have z1 := hz3.cell 1
       have g0 := hz3.frozen 0
       have g1 := hz3.frozen 1
       have y0 := ht3.cell 0
       have y1 := ht3.cell 1
       try simp only [List.getElem?_cons_succ, List.getElem?_cons_zero] at y0 y1
       clear hz3 hb3 ht3
       go_wp2_with fail
       exact end_pos HZ8.out.1 rfl rfl rfl rfl ⟨HZ8.out.2, rfl⟩
     ·rw [hdb] at hR
      unfold deepV
      subst hR
      have hz3 := L5.z.alloc (.cells #[.int .i64 pl, .int .i64 pc] 25)
      have hb3 := L5.b.alloc L5.b.size (.cells #[.int .i64 pl, .int .i64 pc] 25)
      have ht3 := Blk.new W5 25 [.int .i64 pl, .int .i64 pc]
      have hne8 : W5.heap.size ≠ w.heap.size := by omega
      have HX8 := Lib.hid (And.intro hb3 (And.intro hz3 ht3))
      clear hz3 hb3 ht3 hdb L5
      go_upto_region 9 with fail
      obtain ⟨hb3, hz3, ht3⟩ := HX8.out
      clear HX8
      obtain ⟨q8, hq8⟩ : ∃ q8, W5.heap.size = q8 := ⟨_, rfl⟩
      rw [hq8] at ht3 hne8 ⊢
      change Blk (W5.alloc (.cells #[.int .i64 pl, .int .i64 pc] 25)) q8 25 [.int .i64 pl, .int .i64 pc] at ht3
      generalize W5.alloc (.cells #[.int .i64 pl, .int .i64 pc] 25) = W8 at *
      have HZ8 := Lib.hid (And.intro ((hz3.set1 0 (.int .i64 pl)).set1 1 (.int .i64 pc)) ((hb3.setCell (p := ⟨w.heap.size, 0, none⟩) (Nat.le_refl _) (.int .i64 pl)).setCell (p := ⟨w.heap.size, 1, none⟩) (Nat.le_refl _) (.int .i64 pc)))
      have z0 := hz3.cell 0
      have z1 := hz3.cell 1
      have g0 := hz3.frozen 0
      have g1 := hz3.frozen 1
      have y0 := ht3.cell 0
      have y1 := ht3.cell 1
      try simp only [List.getElem?_cons_succ, List.getElem?_cons_zero] at y0 y1
      clear hz3 hb3 ht3
      go_wp2_with fail
      exact end_pos HZ8.out.1 rfl rfl rfl rfl ⟨HZ8.out.2, rfl⟩
    ·have hyd1 : decide ((24 : Int) < (dy : Int)) = true := by simp; omega
     have hyd2 : (24 : Int) < (dy : Int) := by omega
     have hR := HR5.out
     rw [if_pos (.inr (.inl (by omega)))] at hR
     subst hR
     obtain ⟨-, p1, p2, -, -, hx, hy, ⟨ab, capb, p19, hbody⟩, ae, cape, p20, hels⟩ := L4.s.parts
     simp only [Nat.zero_add] at p1 p2 p19 p20 hx hy
     clear hx hy p19 hbody p20 hels
     have hz2 := L4.z
     have hb2 := L4.b
     have HZZ := Lib.hid (And.intro ((hz2.set1 0 (.int .i64 sl)).set1 1 (.int .i64 sc)) ((hb2.setCell (p := ⟨w.heap.size, 0, none⟩) (Nat.le_refl _) (.int .i64 sl)).setCell (p := ⟨w.heap.size, 1, none⟩) (Nat.le_refl _) (.int .i64 sc)))
     have z0 := hz2.cell 0
     have z1 := hz2.cell 1
     have g0 := hz2.frozen 0
     have g1 := hz2.frozen 1
     clear hz2 hb2 L4
     go_wp2_with fail
     exact end_pos HZZ.out.1 rfl rfl rfl rfl ⟨HZZ.out.2, rfl⟩
   ·have hxd1 : decide ((24 : Int) < (dx : Int)) = true := by simp; omega
    have hxd2 : (24 : Int) < (dx : Int) := by omega
    have hR := HR4.out
    rw [if_pos (.inr (.inr (by omega)))] at hR
    subst hR
    obtain ⟨-, p1, p2, -, -, hx, hy, ⟨ab, capb, p19, hbody⟩, ae, cape, p20, hels⟩ := L3.s.parts
    simp only [Nat.zero_add] at p1 p2 p19 p20 hx hy
    clear hx hy p19 hbody p20 hels
    have hz2 := L3.z
    have hb2 := L3.b
    have HZZ := Lib.hid (And.intro ((hz2.set1 0 (.int .i64 sl)).set1 1 (.int .i64 sc)) ((hb2.setCell (p := ⟨w.heap.size, 0, none⟩) (Nat.le_refl _) (.int .i64 sl)).setCell (p := ⟨w.heap.size, 1, none⟩) (Nat.le_refl _) (.int .i64 sc)))
    have z0 := hz2.cell 0
    have z1 := hz2.cell 1
    have g0 := hz2.frozen 0
    have g1 := hz2.frozen 1
    clear hz2 hb2 L3
    go_wp2_with fail
    exact end_pos HZZ.out.1 rfl rfl rfl rfl ⟨HZZ.out.2, rfl⟩
  ·obtain rfl : i = N := by omega
   have hlt : ¬ (i : Int) < (i : Int) := by omega
   have hR := HR.out
   rw [List.drop_eq_nil_of_le (by rw [HN.out]; exact Nat.le_refl _), St.deeps] at hR
   subst hR
   have HZ := Lib.hid (And.intro ((hz1.set1 0 (.int .i64 0)).set1 1 (.int .i64 0)) ((hb1.setCell (p := ⟨w.heap.size, 0, none⟩) (Nat.le_refl _) (.int .i64 0)).setCell (p := ⟨w.heap.size, 1, none⟩) (Nat.le_refl _) (.int .i64 0)))
   have z0 := hz1.cell 0
   have z1 := hz1.cell 1
   have g0 := hz1.frozen 0
   have g1 := hz1.frozen 1
   clear hz1 hb1 h1
   go_wp2_with fail
   exact end_pos HZ.out.1 rfl rfl rfl rfl ⟨HZ.out.2, rfl⟩
theorem rdeep_any {M : Nat} (hM : M ≤ 2000000) : ∀ (m d : Nat), d + m = 25 → RDeepOk M d := by
 intro m
 induction m with
 | zero =>
  intro d hd
  exact rdeep_step M d hM (by omega) (fun h => absurd h (by omega))
 | succ m ih =>
  intro d hd
  exact rdeep_step M d hM (by omega) (fun _ => ih (d + 1) (by omega))
end Go.Proofs.YtjmlmelcppbefaaGreatDoor
