/- What the syntax texts share, part 23. No condition. -/
import Derived.Deep.MidRow
import Derived.Deep.Cut
import Derived.Test.YtjmlmelcppbefaaGreatDoorT09
namespace Go.Proofs.YtjmlmelcppbefaaGreatDoor
open Go.RowKit Go.Maps
theorem Wds.belowR {w w' : World} {B : Nat} {a : Option Addr} {l : List Wd} (h : Wds w a l) (hb : Below B w w') (hB : w.heap.size ≤ B) : Wds w' a l := by
 intro i hi
 obtain ⟨b, off, hl, h0, h1, h2, h3, h4⟩ := h i hi
 have hlt := World.block_lt_of_cell? w _ h0
 have hc : ∀ o, w'.cell? ⟨b, o, none⟩ = w.cell? ⟨b, o, none⟩ := fun o => hb.cell (p := ⟨b, o, none⟩) (Nat.lt_of_lt_of_le hlt hB)
 exact ⟨b, off, hl, (hc _).trans h0, (hc _).trans h1, (hc _).trans h2, (hc _).trans h3, (hc _).trans h4⟩
theorem Wds.kp {w w' : World} {b : Nat} {a : Option Addr} {l : List Wd} (h : Wds w a l) (hk : Kp w w' b b) (hne : ∀ g o, a = some ⟨g, o, none⟩ → g ≠ b) : Wds w' a l := by
 intro i hi
 obtain ⟨g, off, hl, h0, h1, h2, h3, h4⟩ := h i hi
 have hlt := World.block_lt_of_cell? w _ h0
 have hn := hne g off hl
 have hc : ∀ o, w'.cell? ⟨g, o, none⟩ = w.cell? ⟨g, o, none⟩ := fun o => by
  have := hk.block g hlt hn hn
  simp [World.cell?, this]
 exact ⟨g, off, hl, (hc _).trans h0, (hc _).trans h1, (hc _).trans h2, (hc _).trans h3, (hc _).trans h4⟩
structure Src where
 a : Option Addr
 cap : Nat
 T : List Wd
 en : Int × Int
 kv : Value
structure Rw (w : World) (b : Nat) (S : Src) (k : Nat) : Prop where
 hd : w.heap[b]? = some (.cells #[.slice S.a S.T.length S.cap, .int .i64 (k : Int), .int .i64 S.en.1, .int .i64 S.en.2, S.kv] 79 (0, 0))
 wds : Wds w S.a S.T
 ne : ∀ g o, S.a = some ⟨g, o, none⟩ → g ≠ b
 le : k ≤ S.T.length
 mx : S.T.length ≤ 1000000
theorem Rw.lt {w : World} {b k : Nat} {S : Src} (h : Rw w b S k) : b < w.heap.size := (Array.getElem?_eq_some_iff.1 h.hd).1
theorem Rw.below {w w' : World} {b k : Nat} {S : Src} (h : Rw w b S k) (hb : Below w.heap.size w w') : Rw w' b S k :=
 ⟨(hb.block b h.lt).trans h.hd, h.wds.belowR hb (Nat.le_refl _), h.ne, h.le, h.mx⟩
theorem Rw.fin {w W V : World} {b k j : Nat} {S : Src} (h : Rw w b S k) (h3 : Rw W b S j) (hK : Kp w V b b) (hb : V.heap[b]? = W.heap[b]?) : Rw V b S j :=
 ⟨hb.trans h3.hd, h.wds.kp hK h.ne, h3.ne, h3.le, h3.mx⟩
def nextW (T : List Wd) (en : Int × Int) (k : Nat) : Wd := if k < T.length then T.getD k default else ⟨0, noB, 0, en.1, en.2⟩
theorem kindN (T : List Wd) (en : Int × Int) (k : Nat) : (nextW T en k).kind = kindAt T k := by
 unfold nextW kindAt
 split <;> rfl
theorem Rw.alloc {w : World} {b k : Nat} {S : Src} (h : Rw w b S k) (o : Obj) : Rw (w.alloc o) b S k := h.below ((Below.refl _ w).alloc (Nat.le_refl _) o)
theorem Rw.drewN {w : World} {b k : Nat} {S : Src} (h : Rw w b S k) (n : Nat) : Rw (w.drewN n) b S k := ⟨h.hd, h.wds, h.ne, h.le, h.mx⟩
theorem Rw.c0 {w : World} {b k : Nat} {S : Src} (h : Rw w b S k) : w.cell? ⟨b, 0, none⟩ = some (.slice S.a S.T.length S.cap) := by simp [World.cell?, h.hd]
theorem Rw.c1 {w : World} {b k : Nat} {S : Src} (h : Rw w b S k) : w.cell? ⟨b, 1, none⟩ = some (.int .i64 (k : Int)) := by simp [World.cell?, h.hd]
theorem Rw.c2 {w : World} {b k : Nat} {S : Src} (h : Rw w b S k) : w.cell? ⟨b, 2, none⟩ = some (.int .i64 S.en.1) := by simp [World.cell?, h.hd]
theorem Rw.c3 {w : World} {b k : Nat} {S : Src} (h : Rw w b S k) : w.cell? ⟨b, 3, none⟩ = some (.int .i64 S.en.2) := by simp [World.cell?, h.hd]
theorem Rw.c4 {w : World} {b k : Nat} {S : Src} (h : Rw w b S k) : w.cell? ⟨b, 4, none⟩ = some S.kv := by simp [World.cell?, h.hd]
theorem Rw.frozen {w : World} {b k : Nat} {S : Src} (h : Rw w b S k) (j : Nat) : w.frozen? ⟨b, j, none⟩ = false := by simp [World.frozen?, h.hd]
theorem below_drewN {w w' : World} {B : Nat} (h : Below B w w') (n : Nat) : Below B w (w'.drewN n) := ⟨h.os, h.tape, h.output, h.size, h.block⟩
theorem kp_same {w w' : World} {b : Nat} (h : Below w.heap.size w w') : Kp w w' b b := Kp.below h
theorem end_tk1 {fn : Func} {R : Ending → World → Prop} {act : Act} {W : World} {b : Nat} {s : Tmp} {kind num : Int} {t : ByteArray} {p : Int × Int} (h : Tk W b kind t num p) (hres : fn.results = #[.cell s 91])
  (hs : act.tmps.getD s undef = .pointer (some ⟨b, 0, none⟩)) (hd : act.defers = []) (hR : R (.returned (.agg #[.int .i64 kind, .string t, .int .i64 num, .int .i64 p.1, .int .i64 p.2])) W) : bodyPost Tryz.prog fn R .ret act W := by
 have e0 := h.c0
 have e1 := h.c1
 have e2 := h.c2
 have e3 := h.c3
 have e4 := h.c4
 have hs' : act.tmps[s]?.getD undef = .pointer (some ⟨b, 0, none⟩) := by rw [← hs]; simp
 refine bodyPost_ret (v := .agg #[.int .i64 kind, .string t, .int .i64 num, .int .i64 p.1, .int .i64 p.2]) ?_ hd hR
 simp [results, hres, go_sem, hs', e0, e1, e2, e3, e4]
set_option maxRecDepth 100000 in
set_option maxHeartbeats 1000000 in
theorem peek_any {w : World} {b k : Nat} {S : Src} (h : Rw w b S k) :
  Calls Tryz.prog 119 #[.pointer (some ⟨b, 0, none⟩)] w fun e w' => e = .returned (nextW S.T S.en k).val ∧ Below w.heap.size w w' := by
 have hle := h.le
 have hmx := h.mx
 go_enter Tryz.func119, Tryz.ntmps119
 go_wp2_with fail
 have hB : Below w.heap.size w (w.alloc (.cells #[.int .i64 0, .string ⟨#[]⟩, .int .i64 0, .int .i64 0, .int .i64 0] 91)) := (Below.refl _ w).alloc (Nat.le_refl _) _
 have hR := h.below hB
 have hT : Tk (w.alloc (.cells #[.int .i64 0, .string ⟨#[]⟩, .int .i64 0, .int .i64 0, .int .i64 0] 91)) w.heap.size 0 ⟨#[]⟩ 0 (0, 0) := World.alloc_heap_new _ _
 generalize w.alloc (.cells #[.int .i64 0, .string ⟨#[]⟩, .int .i64 0, .int .i64 0, .int .i64 0] 91) = W at *
 obtain ⟨z, hz⟩ : ∃ z, w.heap.size = z := ⟨_, rfl⟩
 rw [hz] at hB hT ⊢
 have HZ := Lib.hid hz
 clear hz
 have fin : ∀ (n : Nat) (k2 : Int) (t2 : ByteArray) (n2 x y : Int), Tk (((((((W.drewN n).setCell ⟨z, 0, none⟩ (.int .i64 k2)).setCell ⟨z, 1, none⟩ (.string t2)).setCell ⟨z, 2, none⟩ (.int .i64 n2)).setCell ⟨z, 3, none⟩ (.int .i64 x)).setCell ⟨z, 4, none⟩ (.int .i64 y))) z k2 t2 n2 (x, y) ∧ Below z w ((((((W.drewN n).setCell ⟨z, 0, none⟩ (.int .i64 k2)).setCell ⟨z, 1, none⟩ (.string t2)).setCell ⟨z, 2, none⟩ (.int .i64 n2)).setCell ⟨z, 3, none⟩ (.int .i64 x)).setCell ⟨z, 4, none⟩ (.int .i64 y)) := by
  intro n k2 t2 n2 x y
  refine ⟨(hT.drewN n).set5 k2 t2 n2 x y, ?_⟩
  exact (((((below_drewN hB n).setCell (p := ⟨z, 0, none⟩) (Nat.le_refl _) _).setCell (p := ⟨z, 1, none⟩) (Nat.le_refl _) _).setCell (p := ⟨z, 2, none⟩) (Nat.le_refl _) _).setCell (p := ⟨z, 3, none⟩) (Nat.le_refl _) _).setCell (p := ⟨z, 4, none⟩) (Nat.le_refl _) _
 have HF := Lib.hid fin
 have c0 := hR.c0
 have c1 := hR.c1
 have c2 := hR.c2
 have c3 := hR.c3
 have c4 := hR.c4
 have hW := hR.wds
 obtain ⟨a, cap, T, en, kv⟩ := S
 dsimp only at *
 have ft := hT.frozen
 have f0 := ft 0
 have f1 := ft 1
 have f2 := ft 2
 have f3 := ft 3
 have f4 := ft 4
 clear fin hB hR ft
 by_cases hk : k = T.length
 ·subst hk
  go_quiet (fail)
  rename_i nq
  have d2 : (W.drewN nq).cell? ⟨b, 2, none⟩ = _ := c2
  have d3 : (W.drewN nq).cell? ⟨b, 3, none⟩ = _ := c3
  have t0 : (W.drewN nq).cell? ⟨z, 0, none⟩ = _ := hT.c0
  have t1 : (W.drewN nq).cell? ⟨z, 1, none⟩ = _ := hT.c1
  have t2 : (W.drewN nq).cell? ⟨z, 2, none⟩ = _ := hT.c2
  have t3 : (W.drewN nq).cell? ⟨z, 3, none⟩ = _ := hT.c3
  have t4 : (W.drewN nq).cell? ⟨z, 4, none⟩ = _ := hT.c4
  have g0 : (W.drewN nq).frozen? ⟨z, 0, none⟩ = false := f0
  have g1 : (W.drewN nq).frozen? ⟨z, 1, none⟩ = false := f1
  have g2 : (W.drewN nq).frozen? ⟨z, 2, none⟩ = false := f2
  have g3 : (W.drewN nq).frozen? ⟨z, 3, none⟩ = false := f3
  have g4 : (W.drewN nq).frozen? ⟨z, 4, none⟩ = false := f4
  go_wp2_with fail
  refine end_tk1 (HF.out nq 0 ⟨#[]⟩ 0 en.1 en.2).1 rfl rfl rfl ⟨?_, by rw [HZ.out]; exact (HF.out nq 0 ⟨#[]⟩ 0 en.1 en.2).2⟩
  unfold nextW
  rw [if_neg (Nat.lt_irrefl _)]
  rfl
 ·have hk1 : ¬ ((k : Int) = (T.length : Int)) := by omega
  have hk2 : k < T.length := by omega
  have hp0 : (0 : Int) ≤ (k : Int) := by omega
  have hp1 : (k : Int) < (T.length : Int) := by omega
  obtain ⟨gb, off, rfl, x0, x1, x2, x3, x4⟩ := hW k hk2
  obtain ⟨wd, hwd⟩ : ∃ wd, T.getD k default = wd := ⟨_, rfl⟩
  rw [hwd] at x0 x1 x2 x3 x4
  have HN := Lib.hid (show nextW T en k = wd by unfold nextW; rw [if_pos hk2]; exact hwd)
  obtain ⟨N, hN⟩ : ∃ N, T.length = N := ⟨_, rfl⟩
  rw [hN] at c0 hk1 hp1 hk2 hmx
  clear hwd hN hle
  go_quiet (fail)
  rename_i nq
  have hbq : ((k : Int) == (N : Int)) = false := by simpa using hk1
  rw [hbq]
  obtain ⟨V, hV⟩ : ∃ V, W.drewN nq = V := ⟨_, rfl⟩
  have hall : (V.cell? ⟨b, 0, none⟩ = some (.slice (some ⟨gb, off, none⟩) N cap) ∧ V.cell? ⟨b, 1, none⟩ = some (.int .i64 (k : Int))) ∧ (V.cell? ⟨gb, off + k * 5, none⟩ = some (.int .i64 wd.kind) ∧ V.cell? ⟨gb, off + k * 5 + 1, none⟩ = some (.string wd.text) ∧ V.cell? ⟨gb, off + k * 5 + 2, none⟩ = some (.int .i64 wd.num) ∧ V.cell? ⟨gb, off + k * 5 + 3, none⟩ = some (.int .i64 wd.line) ∧ V.cell? ⟨gb, off + k * 5 + 4, none⟩ = some (.int .i64 wd.col)) ∧ Tk V z 0 ⟨#[]⟩ 0 (0, 0) := by
   rw [← hV]
   exact ⟨⟨c0, c1⟩, ⟨x0, x1, x2, x3, x4⟩, hT⟩
  have hfin := HF.out (nq + 1)
  rw [show W.drewN (nq + 1) = V.drew by rw [← hV]; rfl] at hfin
  have HF2 := Lib.hid hfin
  rw [hV]
  clear hV hfin c0 c1 c2 c3 c4 x0 x1 x2 x3 x4 hT f0 f1 f2 f3 f4 hW HF hbq hk hk1 h
  obtain ⟨⟨c0, c1⟩, ⟨x0, x1, x2, x3, x4⟩, hT⟩ := hall
  go_wp2_with fail
  go_still_tail 10, (by kernel_rfl)
  change wpList _ _ _ _ _ V.drew
  have t0 : V.drew.cell? ⟨z, 0, none⟩ = _ := hT.c0
  have t1 : V.drew.cell? ⟨z, 1, none⟩ = _ := hT.c1
  have t2 : V.drew.cell? ⟨z, 2, none⟩ = _ := hT.c2
  have t3 : V.drew.cell? ⟨z, 3, none⟩ = _ := hT.c3
  have t4 : V.drew.cell? ⟨z, 4, none⟩ = _ := hT.c4
  have g0 : V.drew.frozen? ⟨z, 0, none⟩ = false := hT.frozen 0
  have g1 : V.drew.frozen? ⟨z, 1, none⟩ = false := hT.frozen 1
  have g2 : V.drew.frozen? ⟨z, 2, none⟩ = false := hT.frozen 2
  have g3 : V.drew.frozen? ⟨z, 3, none⟩ = false := hT.frozen 3
  have g4 : V.drew.frozen? ⟨z, 4, none⟩ = false := hT.frozen 4
  clear c0 c1 x0 x1 x2 x3 x4 hT
  generalize V.drew = U at *
  go_wp2_with fail
  refine end_tk1 (HF2.out wd.kind wd.text wd.num wd.line wd.col).1 rfl rfl rfl ⟨?_, by rw [HZ.out]; exact (HF2.out wd.kind wd.text wd.num wd.line wd.col).2⟩
  rw [HN.out]
  rfl
end Go.Proofs.YtjmlmelcppbefaaGreatDoor
namespace Go.Proofs.YtjmlmelcppbefaaGreatDoor
open Go.RowKit Go.Maps
theorem str_eq (x y : ByteArray) : decide (x = y) = (x.toList == y.toList) := by
 by_cases h : x = y
 ·subst h
  simp
 ·have : ¬ x.toList = y.toList := fun e => h (by
   have h2 : x.data.toList = y.data.toList := by simpa [ByteArray.toList_eq] using e
   exact ByteArray.ext (Array.toList_inj.1 h2))
  simp [h, this]
theorem isT_next {T : List Wd} {en : Int × Int} {k : Nat} {s : ByteArray} : isT T k s = ((decide ((nextW T en k).kind = 3) || decide ((nextW T en k).kind = 4)) && decide ((nextW T en k).text = s)) := by
 unfold isT nextW
 by_cases h : k < T.length
 ·simp [h]
 ·simp [h]
theorem Rw.step {w : World} {b k : Nat} {S : Src} (h : Rw w b S k) (hk : k < S.T.length) : Rw (w.setCell ⟨b, 1, none⟩ (.int .i64 ((k : Int) + 1))) b S (k + 1) := by
 have hb := heap_set (j := 1) h.hd (.int .i64 ((k : Int) + 1))
 refine ⟨?_, h.wds.kp ((Kp.refl w b b).setA 1 _) h.ne, h.ne, hk, h.mx⟩
 rw [hb]
 simp
set_option maxRecDepth 100000 in
set_option maxHeartbeats 1000000 in
theorem accept_any {w : World} {b k : Nat} {S : Src} (h : Rw w b S k) (s : ByteArray) :
  Calls Tryz.prog 76 #[.pointer (some ⟨b, 0, none⟩), .string s] w fun e w' => Kp w w' b b ∧ e = .returned (.bool (isT S.T k s)) ∧ Rw w' b S (if isT S.T k s = true then k + 1 else k) := by
 have hmx := h.mx
 have hle := h.le
 obtain ⟨r, hr⟩ : ∃ r, isT S.T k s = r := ⟨_, rfl⟩
 have hlt : r = true → k < S.T.length := fun e => isT_lt S.T (hr.trans e)
 rw [isT_next (en := S.en)] at hr
 have hp := peek_any h
 obtain ⟨wd, hwd⟩ : ∃ wd, nextW S.T S.en k = wd := ⟨_, rfl⟩
 rw [hwd] at hr hp
 rw [isT_next (en := S.en), hwd, hr]
 clear hwd
 obtain ⟨kd, tx, nu, li, co⟩ := wd
 have HR := Lib.hid hr
 have HT := Lib.hid hlt
 clear hr hlt
 obtain ⟨k', hk'⟩ : ∃ k', (if r = true then k + 1 else k) = k' := ⟨_, rfl⟩
 have HK := Lib.hid hk'
 rw [hk']
 clear hk'
 go_enter Tryz.func76, Tryz.ntmps76
 go_wp2_with fail
 refine hp.mono ?_
 rintro e w1 ⟨rfl, hb1⟩
 have hR1 := h.below hb1
 simp only [Wd.val]
 have hA : ∀ x : Int, Below w.heap.size w (w1.alloc (.cells #[.int .i64 x, .string tx, .int .i64 nu, .int .i64 li, .int .i64 co] 91)) := fun x => hb1.alloc hb1.size _
 have HA := Lib.hid (fun x => And.intro (hA x) (h.below (hA x)))
 have c1 : ∀ x : Int, (w1.alloc (.cells #[.int .i64 x, .string tx, .int .i64 nu, .int .i64 li, .int .i64 co] 91)).cell? ⟨b, 1, none⟩ = some (.int .i64 (k : Int)) := fun x => by
  exact (HA.out x).2.c1
 have f1 : ∀ x : Int, (w1.alloc (.cells #[.int .i64 x, .string tx, .int .i64 nu, .int .i64 li, .int .i64 co] 91)).frozen? ⟨b, 1, none⟩ = false := fun x => (HA.out x).2.frozen 1
 clear hA hR1 hp h hb1
 have HTX := Lib.hid (show decide (tx = s) = (tx.toList == s.toList) from str_eq tx s)
 have hkr : ∀ q : Bool, ((decide (kd = 3) || decide (kd = 4)) && (tx.toList == s.toList)) = q → r = q ∧ k' = (if q = true then k + 1 else k) ∧ (q = true → k < S.T.length) := fun q hq => by
  have h1 := HR.out
  rw [HTX.out, hq] at h1
  subst h1
  exact ⟨rfl, HK.out.symm, HT.out⟩
 have HKR := Lib.hid hkr
 clear hkr
 go_wp2_with fail
 ·rename_i h3 hx
  obtain ⟨hr, hk2, hl⟩ := HKR.out false (by simp at hx; simp [h3, hx])
  go_ret
  exact ⟨kp_same (HA.out _).1, by subst hr; rfl, by rw [hk2]; exact (HA.out _).2⟩
 ·rename_i h3 hx
  obtain ⟨hr, hk2, hl⟩ := HKR.out true (by simp at hx; simp [h3, hx])
  go_ret
  exact ⟨(kp_same (HA.out _).1).setA 1 _, by subst hr; rfl, by rw [hk2, if_pos rfl]; exact (HA.out _).2.step (hl rfl)⟩
 ·rename_i h4 h3 hx
  obtain ⟨hr, hk2, hl⟩ := HKR.out false (by simp at hx; simp [h3, hx])
  go_ret
  exact ⟨kp_same (HA.out _).1, by subst hr; rfl, by rw [hk2]; exact (HA.out _).2⟩
 ·rename_i h4 h3 hx
  obtain ⟨hr, hk2, hl⟩ := HKR.out true (by simp at hx; simp [h3, hx])
  go_ret
  exact ⟨(kp_same (HA.out _).1).setA 1 _, by subst hr; rfl, by rw [hk2, if_pos rfl]; exact (HA.out _).2.step (hl rfl)⟩
 ·rename_i h3 h4
  obtain ⟨hr, hk2, hl⟩ := HKR.out false (by simp [h3, h4])
  go_ret
  exact ⟨kp_same (HA.out _).1, by subst hr; rfl, by rw [hk2]; exact (HA.out _).2⟩
end Go.Proofs.YtjmlmelcppbefaaGreatDoor
namespace Go.Proofs.YtjmlmelcppbefaaGreatDoor
open Go.RowKit Go.Maps
def flawM (S : Src) (k : Nat) : PanicEntry := { v := .iface 136 (.agg #[.int .i64 (nextW S.T S.en k).line, .int .i64 (nextW S.T S.en k).col]), recovered := false }
def WP {α : Type} (w : World) (b : Nat) (S : Src) (R : Except Nat (α × Nat)) (ok : α → Ending → World → Prop) (e : Ending) (w' : World) : Prop :=
 Kp w w' b b ∧ match R with
  | .ok (x, j) => ok x e w' ∧ Rw w' b S j
  | .error j => e = .panicked [flawM S j]
theorem field_p (kd : Int) (tx : ByteArray) (nu li co : Int) (w : World) : (Instr.field 91 (.agg #[.int .i64 kd, .string tx, .int .i64 nu, .int .i64 li, .int .i64 co]) 3).run Tryz.prog w = .ok (.agg #[.int .i64 li, .int .i64 co]) w := by kernel_rfl
theorem field_t (kd : Int) (tx : ByteArray) (nu li co : Int) (w : World) : (Instr.field 91 (.agg #[.int .i64 kd, .string tx, .int .i64 nu, .int .i64 li, .int .i64 co]) 1).run Tryz.prog w = .ok (.string tx) w := by kernel_rfl
theorem field_n (kd : Int) (tx : ByteArray) (nu li co : Int) (w : World) : (Instr.field 91 (.agg #[.int .i64 kd, .string tx, .int .i64 nu, .int .i64 li, .int .i64 co]) 2).run Tryz.prog w = .ok (.int .i64 nu) w := by kernel_rfl
set_option maxRecDepth 100000 in
theorem fail_any {w : World} {b k : Nat} {S : Src} (h : Rw w b S k) :
  Calls Tryz.prog 116 #[.pointer (some ⟨b, 0, none⟩)] w fun e w' => e = .panicked [flawM S k] ∧ Below w.heap.size w w' := by
 have hp := peek_any h
 unfold flawM
 obtain ⟨wd, hwd⟩ : ∃ wd, nextW S.T S.en k = wd := ⟨_, rfl⟩
 rw [hwd] at hp ⊢
 obtain ⟨kd, tx, nu, li, co⟩ := wd
 have hf := field_p kd tx nu li co
 go_enter Tryz.func116, Tryz.ntmps116
 go_wp2_with fail
 refine hp.mono ?_
 rintro e w1 ⟨rfl, hb1⟩
 simp only [Wd.val]
 go_wp2_with fail
 exact ⟨rfl, rfl, hb1⟩
set_option maxRecDepth 100000 in
theorem want_any {w : World} {b k : Nat} {S : Src} (h : Rw w b S k) (s : ByteArray) {R : Except Nat (Unit × Nat)} (hR : want S.T s k = some R) :
  Calls Tryz.prog 72 #[.pointer (some ⟨b, 0, none⟩), .string s] w (WP w b S R fun _ e _ => e = .returned (.tuple #[])) := by
 have hp := accept_any h s
 unfold want at hR
 obtain ⟨r, hr⟩ : ∃ r, isT S.T k s = r := ⟨_, rfl⟩
 rw [hr] at hp hR
 clear hr
 go_enter Tryz.func72, Tryz.ntmps72
 go_wp2_with fail
 refine hp.mono ?_
 rintro e w1 ⟨hk1, rfl, hr1⟩
 cases r
 ·cases hR
  simp only [Bool.false_eq_true, if_false] at hr1
  go_wp2_with fail
  refine (fail_any hr1).mono ?_
  rintro e w2 ⟨rfl, hb2⟩
  exact ⟨rfl, hk1.trans (kp_same hb2), rfl⟩
 ·cases hR
  simp only [if_true] at hr1
  go_wp2_with fail
  go_end0
  exact ⟨hk1, rfl, hr1⟩
def takeK (T : List Wd) (kd : Int) (i : Nat) : Except Nat (Wd × Nat) := if kindAt T i = kd then .ok (T.getD i default, i + 1) else .error i
set_option maxRecDepth 100000 in
set_option maxHeartbeats 1000000 in
theorem take_any {w : World} {b k : Nat} {S : Src} (h : Rw w b S k) (q : Int) (hq : q ≠ 0) :
  Calls Tryz.prog 113 #[.pointer (some ⟨b, 0, none⟩), .int .i64 q] w (WP w b S (takeK S.T q k) fun x e _ => e = .returned x.val) := by
 have hmx := h.mx
 have hle := h.le
 have hp := peek_any (h.alloc (.cells #[.int .i64 0, .string ⟨#[]⟩, .int .i64 0, .int .i64 0, .int .i64 0] 91))
 have hkd := kindN S.T S.en k
 have hlt : kindAt S.T k = q → nextW S.T S.en k = S.T.getD k default ∧ k < S.T.length := fun e => by
  have h1 := kind_lt S.T (by rw [e]; exact hq)
  exact ⟨by unfold nextW; rw [if_pos h1], h1⟩
 obtain ⟨wd, hwd⟩ : ∃ wd, nextW S.T S.en k = wd := ⟨_, rfl⟩
 rw [hwd] at hp hkd hlt
 clear hwd
 obtain ⟨kd, tx, nu, li, co⟩ := wd
 have HL := Lib.hid hlt
 have HD := Lib.hid (show kd = kindAt S.T k from hkd)
 obtain ⟨R, hR⟩ : ∃ R, takeK S.T q k = R := ⟨_, rfl⟩
 have HR := Lib.hid hR
 rw [hR]
 clear hlt hkd hR
 go_enter Tryz.func113, Tryz.ntmps113
 go_wp2_with fail
 refine hp.mono ?_
 rintro e w1 ⟨rfl, hb1⟩
 simp only [Wd.val]
 have h0 := h.alloc (.cells #[.int .i64 0, .string ⟨#[]⟩, .int .i64 0, .int .i64 0, .int .i64 0] 91)
 have hT0 : Tk (w.alloc (.cells #[.int .i64 0, .string ⟨#[]⟩, .int .i64 0, .int .i64 0, .int .i64 0] 91)) w.heap.size 0 ⟨#[]⟩ 0 (0, 0) := World.alloc_heap_new _ _
 have hB0 : Below w.heap.size w (w.alloc (.cells #[.int .i64 0, .string ⟨#[]⟩, .int .i64 0, .int .i64 0, .int .i64 0] 91)) := (Below.refl _ w).alloc (Nat.le_refl _) _
 have hz0 : (w.alloc (.cells #[.int .i64 0, .string ⟨#[]⟩, .int .i64 0, .int .i64 0, .int .i64 0] 91)).heap.size = w.heap.size + 1 := by simp
 generalize w.alloc (.cells #[.int .i64 0, .string ⟨#[]⟩, .int .i64 0, .int .i64 0, .int .i64 0] 91) = W0 at *
 have hbw := h.lt
 have h1 := h0.below hb1
 have hT1 : Tk w1 w.heap.size 0 ⟨#[]⟩ 0 (0, 0) := hT0.of (hb1.block _ hT0.lt)
 have hB1 : Below w.heap.size w w1 := hB0.trans (hb1.mono (by omega))
 have hsz := hb1.size
 have hT2 : Tk (w1.alloc (.cells #[.int .i64 kd, .string tx, .int .i64 nu, .int .i64 li, .int .i64 co] 91)) w1.heap.size kd tx nu (li, co) := World.alloc_heap_new _ _
 have hTz := hT1.alloc (.cells #[.int .i64 kd, .string tx, .int .i64 nu, .int .i64 li, .int .i64 co] 91)
 have h2 := h1.alloc (.cells #[.int .i64 kd, .string tx, .int .i64 nu, .int .i64 li, .int .i64 co] 91)
 have hB2 := hB1.alloc hB1.size (.cells #[.int .i64 kd, .string tx, .int .i64 nu, .int .i64 li, .int .i64 co] 91)
 have HH := Lib.hid h
 obtain ⟨z, hz⟩ : ∃ z, w.heap.size = z := ⟨_, rfl⟩
 have hne : w1.heap.size ≠ z := by omega
 have hrb : w1.heap.size ≠ b := by omega
 have hzb : z ≠ b := by omega
 have HZ := Lib.hid hz
 rw [hz] at hT1 hTz hB1 hB2 ⊢
 by_cases hkq : kd = q
 ·subst hkq
  obtain ⟨hwt, hlt⟩ := HL.out HD.out.symm
  have hRk : R = .ok (S.T.getD k default, k + 1) := by rw [← HR.out]; unfold takeK; rw [if_pos HD.out.symm]
  rw [← hwt] at hRk
  subst hRk
  have h3 := h2.step hlt
  have hk3 := (Kp.below (a := b) (b := b) (h := by rw [hz]; exact hB2)).setA 1 (.int .i64 ((k : Int) + 1))
  have c1 := h2.c1
  have f1 := h2.frozen 1
  have hTr := hT2.other hrb 1 (.int .i64 ((k : Int) + 1))
  have hTw := hTz.other hzb 1 (.int .i64 ((k : Int) + 1))
  have y0 := hT2.c0
  have x0 := hTr.c0
  have x1 := hTr.c1
  have x2 := hTr.c2
  have x3 := hTr.c3
  have x4 := hTr.c4
  have t0 := hTw.c0
  have t1 := hTw.c1
  have t2 := hTw.c2
  have t3 := hTw.c3
  have t4 := hTw.c4
  have g0 := hTw.frozen 0
  have g1 := hTw.frozen 1
  have g2 := hTw.frozen 2
  have g3 := hTw.frozen 3
  have g4 := hTw.frozen 4
  have HE := Lib.hid (And.intro hTw (And.intro h3 hk3))
  clear hTw h3 hk3 hTr hT2 hTz h2 hB2 hT1 h1 h0 hB1 hB0 hb1 hT0 hp h hwt
  go_wp2_with fail
  obtain ⟨hTw, h3, hk3⟩ := HE.out
  have hkn : ∀ {W : World} (t : Nat) (v : Value), Kp w W b b → Kp w (W.setCell ⟨z, t, none⟩ v) b b := fun t v h => h.setNew (by rw [HZ.out]; exact Nat.le_refl _) t v
  have hhn : ∀ (W : World) (t : Nat) (v : Value), (W.setCell ⟨z, t, none⟩ v).heap[b]? = W.heap[b]? := fun W t v => Below.heap_setCell W ⟨z, t, none⟩ v b (Ne.symm hzb)
  refine end_tk1 (hTw.set5 kd tx nu li co) rfl rfl rfl ⟨?_, ?_, ?_⟩
  ·exact hkn _ _ (hkn _ _ (hkn _ _ (hkn _ _ (hkn _ _ hk3))))
  ·rfl
  ·refine HH.out.fin h3 (hkn _ _ (hkn _ _ (hkn _ _ (hkn _ _ (hkn _ _ hk3))))) ?_
   rw [hhn, hhn, hhn, hhn, hhn]
 ·have hRk : R = .error k := by rw [← HR.out]; unfold takeK; rw [if_neg (fun e => hkq (HD.out.trans e))]
  subst hRk
  have y0 := hT2.c0
  have HE := Lib.hid (And.intro h2 hB2)
  clear hT2 hTz h2 hB2 hT1 h1 h0 hB1 hB0 hb1 hT0 hp h
  go_wp2_with fail
  refine (fail_any HE.out.1).mono ?_
  rintro e w2 ⟨rfl, hb2⟩
  refine ⟨rfl, ?_, rfl⟩
  have := HE.out.2
  rw [← HZ.out] at this
  exact (kp_same this).trans (kp_same hb2)
set_option maxRecDepth 100000 in
theorem name_rd {w : World} {b k : Nat} {S : Src} (h : Rw w b S k) {R : Except Nat (ByteArray × Nat)} (hR : pName S.T k = some R) :
  Calls Tryz.prog 67 #[.pointer (some ⟨b, 0, none⟩)] w (WP w b S R fun x e _ => e = .returned (.string x)) := by
 have hp := take_any h 1 (by decide)
 unfold takeK at hp
 unfold pName at hR
 obtain ⟨q, hq⟩ : ∃ q, kindAt S.T k = q := ⟨_, rfl⟩
 rw [hq] at hp hR
 clear hq
 obtain ⟨x, hx⟩ : ∃ x, S.T.getD k default = x := ⟨_, rfl⟩
 rw [hx] at hp hR
 clear hx
 obtain ⟨kd, tx, nu, li, co⟩ := x
 have hf := field_t kd tx nu li co
 go_enter Tryz.func67, Tryz.ntmps67
 go_wp2_with fail
 refine hp.mono ?_
 by_cases h1 : q = 1
 ·rw [if_pos h1] at hR
  cases hR
  subst h1
  rintro e w1 ⟨hk1, rfl, hr1⟩
  simp only [Wd.val]
  go_wp2_with fail
  go_ret
  exact ⟨hk1, rfl, hr1⟩
 ·rw [if_neg h1] at hR
  cases hR
  simp only [if_neg h1]
  rintro e w1 ⟨hk1, rfl⟩
  exact ⟨rfl, hk1, rfl⟩
set_option maxRecDepth 100000 in
theorem numb_rd {w : World} {b k : Nat} {S : Src} (h : Rw w b S k) {R : Except Nat (Int × Nat)} (hR : pNumb S.T k = some R) :
  Calls Tryz.prog 120 #[.pointer (some ⟨b, 0, none⟩)] w (WP w b S R fun x e _ => e = .returned (.int .i64 x)) := by
 have hp := take_any h 2 (by decide)
 unfold takeK at hp
 unfold pNumb at hR
 obtain ⟨q, hq⟩ : ∃ q, kindAt S.T k = q := ⟨_, rfl⟩
 rw [hq] at hp hR
 clear hq
 obtain ⟨x, hx⟩ : ∃ x, S.T.getD k default = x := ⟨_, rfl⟩
 rw [hx] at hp hR
 clear hx
 obtain ⟨kd, tx, nu, li, co⟩ := x
 have hf := field_n kd tx nu li co
 go_enter Tryz.func120, Tryz.ntmps120
 go_wp2_with fail
 refine hp.mono ?_
 by_cases h1 : q = 2
 ·rw [if_pos h1] at hR
  cases hR
  subst h1
  rintro e w1 ⟨hk1, rfl, hr1⟩
  simp only [Wd.val]
  go_wp2_with fail
  go_ret
  exact ⟨hk1, rfl, hr1⟩
 ·rw [if_neg h1] at hR
  cases hR
  simp only [if_neg h1]
  rintro e w1 ⟨hk1, rfl⟩
  exact ⟨rfl, hk1, rfl⟩
end Go.Proofs.YtjmlmelcppbefaaGreatDoor
namespace Go.Proofs.YtjmlmelcppbefaaGreatDoor
open Go.RowKit Go.Maps
def opC (j : Nat) : Value := if j % 2 = 0 then .string (opS.getD (j / 2) noB) else .int .i64 ((opR.getD (j / 2) 0 : Nat) : Int)
def opL : List Value := (List.range 24).map opC
def opV : Array Value := opL.toArray
def Ops (w : World) : Prop := ∀ j, j < 24 → w.cell? ⟨0, j, none⟩ = some (opC j)
theorem Ops.below {w w' : World} (h : Ops w) (hb : Below w.heap.size w w') : Ops w' := fun j hj => (hb.cell (p := ⟨0, j, none⟩) (World.block_lt_of_cell? w _ (h j hj))).trans (h j hj)
theorem Ops.range {w : World} (h : Ops w) : w.rangeAt 0 0 opL := fun j v hv => by
 have hj : j < 24 := by
  rcases Nat.lt_or_ge j 24 with h | h
  ·exact h
  ·rw [List.getElem?_eq_none (by simpa [opL] using h)] at hv
   cases hv
 have h2 := h j hj
 have : opL[j]? = some (opC j) := by simp [opL, List.getElem?_range hj]
 rw [this] at hv
 cases hv
 rw [Nat.zero_add]
 exact h2
theorem ops_index {k : Nat} (h : k < 12) (w : World) : (Instr.index 154 (.agg opV) (.int .i64 (k : Int))).run Tryz.prog w = .ok (.agg #[.string (opS.getD k noB), .int .i64 ((opR.getD k 0 : Nat) : Int)]) w := by
 rcases k with _ | _ | _ | _ | _ | _ | _ | _ | _ | _ | _ | _ | k
 all_goals first
  | omega
  | kernel_rfl
theorem opOf_at {tx : ByteArray} {k : Nat} (hk : k < 12) (h : ∀ j, j < k → opS.getD j noB ≠ tx) (e : opS.getD k noB = tx) : opOf tx = k := by
 unfold opOf
 have : (List.range 12).find? (fun o => decide (opS.getD o noB = tx)) = some k := by
  rw [List.find?_range_eq_some]
  exact ⟨by simpa using e, by simpa using hk, fun j hj => by simpa using h j hj⟩
 rw [this]
 rfl
theorem opOf_no {tx : ByteArray} (h : ∀ j, j < 12 → opS.getD j noB ≠ tx) : opOf tx = 0 := by
 unfold opOf
 have : (List.range 12).find? (fun o => decide (opS.getD o noB = tx)) = none := by
  rw [List.find?_eq_none]
  intro j hj
  have := h j (by simpa using hj)
  simpa using this
 rw [this]
 rfl
set_option maxRecDepth 100000 in
set_option maxHeartbeats 4000000 in
theorem oper_any {w : World} {b k : Nat} {S : Src} (h : Rw w b S k) (hO : Ops w) :
  Calls Tryz.prog 115 #[.pointer (some ⟨b, 0, none⟩)] w fun e w' => e = .returned (.tuple #[.int .i64 ((opAt S.T k : Nat) : Int), .int .i64 ((rankOf (opAt S.T k) : Nat) : Int)]) ∧ Below w.heap.size w w' := by
 have hp := peek_any h
 have hkd := kindN S.T S.en k
 obtain ⟨wd, hwd⟩ : ∃ wd, nextW S.T S.en k = wd := ⟨_, rfl⟩
 rw [hwd] at hp hkd
 obtain ⟨kd, tx, nu, li, co⟩ := wd
 have hkd2 : kd = kindAt S.T k := hkd
 obtain ⟨o, ho⟩ : ∃ o, opAt S.T k = o := ⟨_, rfl⟩
 have ho2 : o = if kd = 4 then opOf tx else 0 := by
  rw [← ho, hkd2]
  unfold opAt
  split
  ·rename_i h4
   have h1 := kind_lt S.T (by rw [h4]; decide)
   have : S.T.getD k default = ⟨kd, tx, nu, li, co⟩ := by rw [← hwd]; unfold nextW; rw [if_pos h1]
   rw [this]
  ·rfl
 rw [ho]
 clear ho hwd hkd hkd2
 go_enter Tryz.func115, Tryz.ntmps115
 go_wp2_with fail
 refine hp.mono ?_
 rintro e w1 ⟨rfl, hb1⟩
 simp only [Wd.val]
 have hO1 := hO.below hb1
 by_cases hk : kd = 4
 ·subst hk
  rw [if_pos rfl] at ho2
  have HO := Lib.hid ho2
  clear ho2
  have hT : Tk (w1.alloc (.cells #[.int .i64 4, .string tx, .int .i64 nu, .int .i64 li, .int .i64 co] 91)) w1.heap.size 4 tx nu (li, co) := World.alloc_heap_new _ _
  have hB2 : Below w.heap.size w (w1.alloc (.cells #[.int .i64 4, .string tx, .int .i64 nu, .int .i64 li, .int .i64 co] 91)) := hb1.alloc hb1.size _
  have hO2 := hO1.below ((Below.refl _ w1).alloc (Nat.le_refl _) (.cells #[.int .i64 4, .string tx, .int .i64 nu, .int .i64 li, .int .i64 co] 91))
  have hl := hO2.range
  have HQ := Lib.hid hl
  have HE := Lib.hid (And.intro hT hB2)
  clear hT hB2 hO2 hO1 hO hp h hb1 hl
  go_upto_region 3 with fail
  go_step
  refine wpList_load_mid rfl 154 _ rfl 0 0 rfl opL (.array 12 153) HQ.out Tryz.underlying154 rfl (by kernel_rfl) ?_
  rw [show opL.toArray = opV from rfl]
  simp only [Act.put, List.setIfInBounds_toArray, List.set_cons_succ, List.set_cons_zero]
  clear HQ
  go_wp2_with fail
  generalize hW1 : w1.alloc (.cells #[.int .i64 4, .string tx, .int .i64 nu, .int .i64 li, .int .i64 co] 91) = W1 at *
  clear hW1
  generalize w1.heap.size = z at *
  go_loopw [15] (fun i wr => ∃ k : Nat, k ≤ 12 ∧ i = .int .i64 k ∧ Hid (∀ j, j < k → opS.getD j noB ≠ tx) ∧ Hid (Tk wr z 4 tx nu (li, co) ∧ Below w.heap.size w wr)) (fun i _ => 12 - (intOf i).toNat)
  case atStart => exact ⟨0, by omega, rfl, Lib.hid (fun j hj => by omega), HE⟩
  case round =>
   obtain ⟨k, hk, rfl, HN, HE2⟩ := hrel
   by_cases hk12 : k < 12
   ·have hp1 : (k : Int) < 12 := by omega
    have hx := fun w => ops_index hk12 w
    obtain ⟨s, hs⟩ : ∃ s, opS.getD k noB = s := ⟨_, rfl⟩
    obtain ⟨r, hr⟩ : ∃ r, opR.getD k 0 = r := ⟨_, rfl⟩
    rw [hs, hr] at hx
    have HS := Lib.hid hs
    have HR := Lib.hid hr
    have hz1 : (wr.alloc (.cells #[.string s, .int .i64 (r : Int)] 153)).cell? ⟨z, 1, none⟩ = some (.string tx) := (HE2.out.1.alloc _).c1
    have HA := Lib.hid (And.intro (HE2.out.1.alloc (.cells #[.string s, .int .i64 (r : Int)] 153)) (HE2.out.2.alloc HE2.out.2.size (.cells #[.string s, .int .i64 (r : Int)] 153)))
    clear hs hr
    by_cases hst : s = tx
    ·have HT := Lib.hid hst
     have hq : (s.toList == tx.toList) = true := by rw [hst]; simp
     clear hst
     go_wp2_with fail
     go_quiet (fail)
     have ho : o = k := by rw [HO.out]; exact opOf_at hk12 HN.out (HS.out.trans HT.out)
     have hro : rankOf o = r := by rw [ho]; exact HR.out
     have HZ := Lib.hid (And.intro ho hro)
     clear ho hro
     go_wp2_with fail
     go_ret2
     exact ⟨by rw [HZ.out.2, HZ.out.1]; rfl, below_drewN HA.out.2 _⟩
    ·have HT := Lib.hid hst
     have hq : (s.toList == tx.toList) = false := by rw [← str_eq]; simpa using hst
     clear hst
     go_wp2_with fail
     go_roundw
     case rel => exact ⟨k + 1, by omega, by go_num, Lib.hid (fun j hj => by
      rcases Nat.lt_or_ge j k with h | h
      ·exact HN.out j h
      ·obtain rfl : j = k := by omega
       rw [HS.out]; exact HT.out), HA⟩
     case measure => simp [intOf]; omega
   ·obtain rfl : k = 12 := by omega
    have ho : o = 0 := by rw [HO.out]; exact opOf_no HN.out
    subst ho
    go_wp2_with fail
    go_ret2
    exact ⟨rfl, HE2.out.2⟩
 ·rw [if_neg hk] at ho2
  subst ho2
  have hB2 : Below w.heap.size w (w1.alloc (.cells #[.int .i64 kd, .string tx, .int .i64 nu, .int .i64 li, .int .i64 co] 91)) := hb1.alloc hb1.size _
  go_wp2_with fail
  go_ret2
  exact ⟨rfl, hB2⟩
end Go.Proofs.YtjmlmelcppbefaaGreatDoor
namespace Go.Proofs.YtjmlmelcppbefaaGreatDoor
open Go.RowKit Go.Maps
def Xc (w : World) (b : Nat) (v0 v1 v2 v3 v4 v5 v6 : Value) : Prop := w.heap[b]? = some (.cells #[v0, v1, v2, v3, v4, v5, v6] 46 (0, 0))
section
variable {w : World} {b : Nat} {v0 v1 v2 v3 v4 v5 v6 : Value}
theorem Xc.lt (h : Xc w b v0 v1 v2 v3 v4 v5 v6) : b < w.heap.size := (Array.getElem?_eq_some_iff.1 h).1
theorem Xc.c0 (h : Xc w b v0 v1 v2 v3 v4 v5 v6) : w.cell? ⟨b, 0, none⟩ = some v0 := by unfold Xc at h; simp [World.cell?, h]
theorem Xc.c1 (h : Xc w b v0 v1 v2 v3 v4 v5 v6) : w.cell? ⟨b, 1, none⟩ = some v1 := by unfold Xc at h; simp [World.cell?, h]
theorem Xc.c2 (h : Xc w b v0 v1 v2 v3 v4 v5 v6) : w.cell? ⟨b, 2, none⟩ = some v2 := by unfold Xc at h; simp [World.cell?, h]
theorem Xc.c3 (h : Xc w b v0 v1 v2 v3 v4 v5 v6) : w.cell? ⟨b, 3, none⟩ = some v3 := by unfold Xc at h; simp [World.cell?, h]
theorem Xc.c4 (h : Xc w b v0 v1 v2 v3 v4 v5 v6) : w.cell? ⟨b, 4, none⟩ = some v4 := by unfold Xc at h; simp [World.cell?, h]
theorem Xc.c5 (h : Xc w b v0 v1 v2 v3 v4 v5 v6) : w.cell? ⟨b, 5, none⟩ = some v5 := by unfold Xc at h; simp [World.cell?, h]
theorem Xc.c6 (h : Xc w b v0 v1 v2 v3 v4 v5 v6) : w.cell? ⟨b, 6, none⟩ = some v6 := by unfold Xc at h; simp [World.cell?, h]
theorem Xc.frozen (h : Xc w b v0 v1 v2 v3 v4 v5 v6) (k : Nat) : w.frozen? ⟨b, k, none⟩ = false := by unfold Xc at h; simp [World.frozen?, h]
theorem Xc.of {w' : World} (h : Xc w b v0 v1 v2 v3 v4 v5 v6) (he : w'.heap[b]? = w.heap[b]?) : Xc w' b v0 v1 v2 v3 v4 v5 v6 := he.trans h
theorem Xc.alloc (h : Xc w b v0 v1 v2 v3 v4 v5 v6) (o : Obj) : Xc (w.alloc o) b v0 v1 v2 v3 v4 v5 v6 := h.of ((World.grownBy_alloc w o none).block b h.lt (by simp))
abbrev set7 (w : World) (b : Nat) (u0 u1 u2 u3 u4 u5 u6 : Value) : World := ((((((w.setCell ⟨b, 0, none⟩ u0).setCell ⟨b, 1, none⟩ u1).setCell ⟨b, 2, none⟩ u2).setCell ⟨b, 3, none⟩ u3).setCell ⟨b, 4, none⟩ u4).setCell ⟨b, 5, none⟩ u5).setCell ⟨b, 6, none⟩ u6
theorem Xc.set (h : Xc w b v0 v1 v2 v3 v4 v5 v6) (u0 u1 u2 u3 u4 u5 u6 : Value) : Xc (set7 w b u0 u1 u2 u3 u4 u5 u6) b u0 u1 u2 u3 u4 u5 u6 := by
 have h2 := heap_set (j := 6) (heap_set (j := 5) (heap_set (j := 4) (heap_set (j := 3) (heap_set (j := 2) (heap_set (j := 1) (heap_set (j := 0) h u0) u1) u2) u3) u4) u5) u6
 unfold Xc
 rw [h2]
 simp
end
theorem end_ex {fn : Func} {R : Ending → World → Prop} {act : Act} {W : World} {b : Nat} {s : Tmp} {v0 v1 v2 v3 v4 v5 v6 : Value} (h : Xc W b v0 v1 v2 v3 v4 v5 v6) (hres : fn.results = #[.cell s 46])
  (hs : act.tmps.getD s undef = .pointer (some ⟨b, 0, none⟩)) (hd : act.defers = []) (hR : R (.returned (.agg #[v0, v1, v2, v3, v4, v5, v6])) W) : bodyPost Tryz.prog fn R .ret act W := by
 have e0 := h.c0
 have e1 := h.c1
 have e2 := h.c2
 have e3 := h.c3
 have e4 := h.c4
 have e5 := h.c5
 have e6 := h.c6
 have hs' : act.tmps[s]?.getD undef = .pointer (some ⟨b, 0, none⟩) := by rw [← hs]; simp
 refine bodyPost_ret (v := .agg #[v0, v1, v2, v3, v4, v5, v6]) ?_ hd hR
 simp [results, hres, go_sem, hs', e0, e1, e2, e3, e4, e5, e6]
theorem kp_set7 {w W : World} {b z : Nat} (h : Kp w W b b) (hz : w.heap.size ≤ z) (u0 u1 u2 u3 u4 u5 u6 : Value) : Kp w (set7 W z u0 u1 u2 u3 u4 u5 u6) b b :=
 (((((((h.setNew hz 0 u0).setNew hz 1 u1).setNew hz 2 u2).setNew hz 3 u3).setNew hz 4 u4).setNew hz 5 u5).setNew hz 6 u6)
theorem heap_set7 {W : World} {b z : Nat} (h : b ≠ z) (u0 u1 u2 u3 u4 u5 u6 : Value) : (set7 W z u0 u1 u2 u3 u4 u5 u6).heap[b]? = W.heap[b]? := by
 simp only [set7]
 rw [Below.heap_setCell _ ⟨z, 6, none⟩ _ b h, Below.heap_setCell _ ⟨z, 5, none⟩ _ b h, Below.heap_setCell _ ⟨z, 4, none⟩ _ b h, Below.heap_setCell _ ⟨z, 3, none⟩ _ b h, Below.heap_setCell _ ⟨z, 2, none⟩ _ b h, Below.heap_setCell _ ⟨z, 1, none⟩ _ b h, Below.heap_setCell _ ⟨z, 0, none⟩ _ b h]
theorem Ops.kp {w w' : World} {b : Nat} (h : Ops w) (hk : Kp w w' b b) (hb : b ≠ 0) : Ops w' := fun j hj => by
 have h1 := h j hj
 have h2 := hk.block 0 (World.block_lt_of_cell? w _ h1) (Ne.symm hb) (Ne.symm hb)
 rw [← h1]
 simp [World.cell?, h2]
theorem ExL.kp {w0 w w' : World} {b : Nat} {cs : List Value} {x : Ex} (h : ExL (w0.heap.size ≤ ·) w cs x) (hk : Kp w w' b b) (hb : b < w0.heap.size) : ExL (w0.heap.size ≤ ·) w' cs x :=
 ExL.keep (fun c o v hc hv => by
  have h2 := hk.block c (World.block_lt_of_cellU w hv) (by omega) (by omega)
  rw [← hv]
  simp [World.cellU, World.cell?, World.frozen?, h2]) h
def exOk (w : World) (x : Ex) (e : Ending) (w' : World) : Prop := ∃ cs : List Value, e = .returned (.agg cs.toArray) ∧ ExL (w.heap.size ≤ ·) w' cs x
def CU (b : Nat) (S : Src) (f : Nat) : Prop := ∀ (w : World) (k : Nat) (R : Except Nat (Ex × Nat)), Rw w b S k → Ops w → pU S.T f k = some R → Calls Tryz.prog 114 #[.pointer (some ⟨b, 0, none⟩)] w (WP w b S R (exOk w))
def CP (b : Nat) (S : Src) (f : Nat) : Prop := ∀ (w : World) (k : Nat) (R : Except Nat (Ex × Nat)), Rw w b S k → Ops w → pP S.T f k = some R → Calls Tryz.prog 147 #[.pointer (some ⟨b, 0, none⟩)] w (WP w b S R (exOk w))
def CE (b : Nat) (S : Src) (f : Nat) : Prop := ∀ (w : World) (n k : Nat) (R : Except Nat (Ex × Nat)), n ≤ 7 → Rw w b S k → Ops w → pE S.T f n k = some R → Calls Tryz.prog 70 #[.pointer (some ⟨b, 0, none⟩), .int .i64 (n : Int)] w (WP w b S R (exOk w))
theorem one_arg {w W1 W2 : World} {z : Nat} {x : Ex} {cs : List Value} (hX : ExL (W1.heap.size ≤ ·) W2 cs x) (hz : z < W1.heap.size) (h12 : W1.heap.size ≤ W2.heap.size) (hw : w.heap.size ≤ W1.heap.size) (q n : Int) (s : ByteArray) (u0 u1 u2 u3 u4 u5 u6 : Value) :
  ExL (w.heap.size ≤ ·) (set7 (W2.alloc (.cells cs.toArray 46)) z u0 u1 u2 u3 u4 u5 u6) [.int .i64 q, .int .i64 n, .string s, .int .i64 0, .bool false, .int .i64 0, .slice (some ⟨W2.heap.size, 0, none⟩) 1 1] (.mk q n s 0 false 0 [x]) := by
 have hne : W2.heap.size ≠ z := by omega
 unfold ExL
 refine ⟨some ⟨W2.heap.size, 0, none⟩, 1, rfl, ⟨Nat.le_refl _, by decide⟩, ?_⟩
 unfold ExsL
 refine ⟨⟨W2.heap.size, 0, cs, rfl, by omega, fun t v hv => ?_, ?_⟩, by unfold ExsL; trivial⟩
 ·have h1 : (set7 (W2.alloc (.cells cs.toArray 46)) z u0 u1 u2 u3 u4 u5 u6).heap[W2.heap.size]? = some (.cells cs.toArray 46 (0, 0)) := (heap_set7 hne _ _ _ _ _ _ _).trans (World.alloc_heap_new _ _)
  simp only [World.cellU, World.cell?, World.frozen?, h1]
  simpa using hv
 ·refine ExL.weak (fun c hc => (Nat.le_trans hw hc : w.heap.size ≤ c)) (ExL.keep (fun c o v hc hv => ?_) hX)
  have hlt := World.block_lt_of_cellU W2 hv
  have hcz : c ≠ z := by
   have : W1.heap.size ≤ c := hc
   omega
  have h1 : (set7 (W2.alloc (.cells cs.toArray 46)) z u0 u1 u2 u3 u4 u5 u6).heap[c]? = W2.heap[c]? := (heap_set7 hcz _ _ _ _ _ _ _).trans ((World.grownBy_alloc W2 _ none).block c hlt (by simp))
  rw [← hv]
  simp [World.cellU, World.cell?, World.frozen?, h1]
theorem ex_put {w W1 W2 : World} {z : Nat} {x : Ex} {cs : List Value} (hX : ExL (W1.heap.size ≤ ·) W2 cs x) (hz : z < W1.heap.size) (hw : w.heap.size ≤ W1.heap.size) (u0 u1 u2 u3 u4 u5 u6 : Value) :
  ExL (w.heap.size ≤ ·) (set7 W2 z u0 u1 u2 u3 u4 u5 u6) cs x := by
 refine ExL.weak (fun c hc => (Nat.le_trans hw hc : w.heap.size ≤ c)) (ExL.keep (fun c o v hc hv => ?_) hX)
 have hcz : c ≠ z := by
  have : W1.heap.size ≤ c := hc
  omega
 rw [← hv]
 simp [World.cellU, World.cell?, World.frozen?, heap_set7 (W := W2) hcz u0 u1 u2 u3 u4 u5 u6]
set_option maxRecDepth 100000 in
set_option maxHeartbeats 4000000 in
theorem unary_step {b : Nat} {S : Src} {f : Nat} (hb0 : b ≠ 0) (hU : CU b S f) (hP : CP b S f) : CU b S (f + 1) := by
 intro w k R h hO hR
 rw [pU] at hR
 have h0 := h.alloc (.cells #[.int .i64 0, .int .i64 0, .string ⟨#[]⟩, .int .i64 0, .bool false, .int .i64 0, .slice none 0 0] 46)
 have hz0 : Xc (w.alloc (.cells #[.int .i64 0, .int .i64 0, .string ⟨#[]⟩, .int .i64 0, .bool false, .int .i64 0, .slice none 0 0] 46)) w.heap.size (.int .i64 0) (.int .i64 0) (.string ⟨#[]⟩) (.int .i64 0) (.bool false) (.int .i64 0) (.slice none 0 0) := World.alloc_heap_new _ _
 have hk0 : Kp w (w.alloc (.cells #[.int .i64 0, .int .i64 0, .string ⟨#[]⟩, .int .i64 0, .bool false, .int .i64 0, .slice none 0 0] 46)) b b := kp_same ((Below.refl _ w).alloc (Nat.le_refl _) _)
 have hbw := h.lt
 go_enter Tryz.func114, Tryz.ntmps114
 go_wp2_with fail
 generalize w.alloc (.cells #[.int .i64 0, .int .i64 0, .string ⟨#[]⟩, .int .i64 0, .bool false, .int .i64 0, .slice none 0 0] 46) = W0 at *
 refine (accept_any h0 sMinus).mono ?_
 rintro e W1 ⟨hk1, rfl, h1⟩
 have hk01 := hk0.trans hk1
 have hz1 := hz0.of (hk1.block _ hz0.lt (by omega) (by omega))
 obtain ⟨m, hm⟩ : ∃ m, isT S.T k sMinus = m := ⟨_, rfl⟩
 rw [hm] at hR h1
 rw [hm]
 clear hm
 cases m
 ·rw [if_neg Bool.false_ne_true] at hR h1
  go_wp2_with fail
  refine (accept_any h1 sNot).mono ?_
  rintro e W1' ⟨hk1', rfl, h1'⟩
  have hk01' := hk01.trans hk1'
  have hz1' := hz1.of (hk1'.block _ hz1.lt (by omega) (by omega))
  obtain ⟨m, hm⟩ : ∃ m, isT S.T k sNot = m := ⟨_, rfl⟩
  rw [hm] at hR h1'
  rw [hm]
  clear hm hk01 hz1 hk0 hk1 hk1' hz0 h0 h1
  cases m
  ·rw [if_neg Bool.false_ne_true] at hR h1'
   rcases hx : pP S.T f k with _ | (j | ⟨x, j⟩)
   ·rw [hx] at hR
    cases hR
   ·rw [hx] at hR
    cases hR
    go_wp2_with fail
    refine (hP W1' k _ h1' (hO.kp hk01' hb0) hx).mono ?_
    rintro e W2 ⟨hk2, rfl⟩
    exact ⟨rfl, hk01'.trans hk2, rfl⟩
   ·rw [hx] at hR
    cases hR
    go_wp2_with fail
    refine (hP W1' k _ h1' (hO.kp hk01' hb0) hx).mono ?_
    rintro e W2 ⟨hk2, ⟨cs, rfl, hX⟩, h2⟩
    obtain ⟨xk, xn, xs, xl, xo, xp, xa⟩ := x
    have hX0 := hX
    unfold ExL at hX
    obtain ⟨a, cap, rfl, hac, hXs⟩ := hX
    have hk02 := hk01'.trans hk2
    have hz2 := hz1'.of (hk2.block _ hz1'.lt (by omega) (by omega))
    obtain ⟨z, hz⟩ : ∃ z, w.heap.size = z := ⟨_, rfl⟩
    have HZ := Lib.hid hz
    have HH := Lib.hid h
    rw [hz] at hz2 hbw ⊢
    have t0 := hz2.c0
    have t1 := hz2.c1
    have t2 := hz2.c2
    have t3 := hz2.c3
    have t4 := hz2.c4
    have t5 := hz2.c5
    have t6 := hz2.c6
    have f0 := hz2.frozen 0
    have f1 := hz2.frozen 1
    have f2 := hz2.frozen 2
    have f3 := hz2.frozen 3
    have f4 := hz2.frozen 4
    have f5 := hz2.frozen 5
    have f6 := hz2.frozen 6
    have hs01 := hk01'.size
    have hzl := hz1'.lt
    have HE := Lib.hid (And.intro hz2 (And.intro (ex_put (w := w) hX0 (z := z) (by omega) hs01) (And.intro hk02 h2)))
    clear hz2 hX0 hXs hk02 h2 hk01' hz1' h1' hk2 hU hP h
    go_wp2_with fail
    obtain ⟨hz2, hA, hk02, h2⟩ := HE.out
    have hKV := kp_set7 hk02 (z := z) (by rw [HZ.out]; exact Nat.le_refl _)
    refine end_ex (hz2.set _ _ _ _ _ _ _) rfl rfl rfl ⟨hKV _ _ _ _ _ _ _, ⟨_, rfl, hA _ _ _ _ _ _ _⟩, ?_⟩
    exact HH.out.fin h2 (hKV _ _ _ _ _ _ _) (heap_set7 (by omega) _ _ _ _ _ _ _)
  ·rw [if_pos rfl] at hR h1'
   rcases hx : pU S.T f (k + 1) with _ | (j | ⟨x, j⟩)
   ·rw [hx] at hR
    cases hR
   ·rw [hx] at hR
    cases hR
    go_wp2_with fail
    refine (hU W1' (k + 1) _ h1' (hO.kp hk01' hb0) hx).mono ?_
    rintro e W2 ⟨hk2, rfl⟩
    exact ⟨rfl, hk01'.trans hk2, rfl⟩
   ·rw [hx] at hR
    cases hR
    go_wp2_with fail
    refine (hU W1' (k + 1) _ h1' (hO.kp hk01' hb0) hx).mono ?_
    rintro e W2 ⟨hk2, ⟨cs, rfl, hX⟩, h2⟩
    obtain ⟨xk, xn, xs, xl, xo, xp, xa⟩ := x
    have hX0 := hX
    unfold ExL at hX
    obtain ⟨a, cap, rfl, hac, hXs⟩ := hX
    have hk02 := hk01'.trans hk2
    have hz2 := hz1'.of (hk2.block _ hz1'.lt (by omega) (by omega))
    obtain ⟨z, hz⟩ : ∃ z, w.heap.size = z := ⟨_, rfl⟩
    have HZ := Lib.hid hz
    have HH := Lib.hid h
    rw [hz] at hz2 hbw ⊢
    have t0 := fun o => (hz2.alloc o).c0
    have t1 := fun o => (hz2.alloc o).c1
    have t2 := fun o => (hz2.alloc o).c2
    have t3 := fun o => (hz2.alloc o).c3
    have t4 := fun o => (hz2.alloc o).c4
    have t5 := fun o => (hz2.alloc o).c5
    have t6 := fun o => (hz2.alloc o).c6
    have f0 := fun o => (hz2.alloc o).frozen 0
    have f1 := fun o => (hz2.alloc o).frozen 1
    have f2 := fun o => (hz2.alloc o).frozen 2
    have f3 := fun o => (hz2.alloc o).frozen 3
    have f4 := fun o => (hz2.alloc o).frozen 4
    have f5 := fun o => (hz2.alloc o).frozen 5
    have f6 := fun o => (hz2.alloc o).frozen 6
    have hs01 := hk01'.size
    have hzl := hz1'.lt
    have hs2 := hk2.size
    have HE := Lib.hid (And.intro hz2 (And.intro (one_arg (w := w) hX0 (z := z) (by omega) hs2 hs01 5 0 ⟨#[]⟩) (And.intro hk02 h2)))
    clear hz2 hX0 hXs hk02 h2 hk01' hz1' h1' hk2 hU hP h
    go_wp2_with fail
    obtain ⟨hz2, hA, hk02, h2⟩ := HE.out
    have hKV := kp_set7 (hk02.alloc (.cells #[.int .i64 xk, .int .i64 xn, .string xs, .int .i64 xl, .bool xo, .int .i64 xp, .slice a xa.length cap] 46)) (z := z) (by rw [HZ.out]; exact Nat.le_refl _)
    refine end_ex ((hz2.alloc _).set _ _ _ _ _ _ _) rfl rfl rfl ⟨hKV _ _ _ _ _ _ _, ⟨_, rfl, hA _ _ _ _ _ _ _⟩, ?_⟩
    exact HH.out.fin h2 (hKV _ _ _ _ _ _ _) ((heap_set7 (by omega) _ _ _ _ _ _ _).trans ((World.grownBy_alloc W2 _ none).block b h2.lt (by simp)))
 ·rw [if_pos rfl] at hR h1
  rcases hx : pU S.T f (k + 1) with _ | (j | ⟨x, j⟩)
  ·rw [hx] at hR
   cases hR
  ·rw [hx] at hR
   cases hR
   go_wp2_with fail
   refine (hU W1 (k + 1) _ h1 (hO.kp hk01 hb0) hx).mono ?_
   rintro e W2 ⟨hk2, rfl⟩
   exact ⟨rfl, hk01.trans hk2, rfl⟩
  ·rw [hx] at hR
   cases hR
   go_wp2_with fail
   refine (hU W1 (k + 1) _ h1 (hO.kp hk01 hb0) hx).mono ?_
   rintro e W2 ⟨hk2, ⟨cs, rfl, hX⟩, h2⟩
   obtain ⟨xk, xn, xs, xl, xo, xp, xa⟩ := x
   have hX0 := hX
   unfold ExL at hX
   obtain ⟨a, cap, rfl, hac, hXs⟩ := hX
   have hk02 := hk01.trans hk2
   have hz2 := hz1.of (hk2.block _ hz1.lt (by omega) (by omega))
   obtain ⟨z, hz⟩ : ∃ z, w.heap.size = z := ⟨_, rfl⟩
   have HZ := Lib.hid hz
   have HH := Lib.hid h
   rw [hz] at hz2 hbw ⊢
   have t0 := fun o => (hz2.alloc o).c0
   have t1 := fun o => (hz2.alloc o).c1
   have t2 := fun o => (hz2.alloc o).c2
   have t3 := fun o => (hz2.alloc o).c3
   have t4 := fun o => (hz2.alloc o).c4
   have t5 := fun o => (hz2.alloc o).c5
   have t6 := fun o => (hz2.alloc o).c6
   have f0 := fun o => (hz2.alloc o).frozen 0
   have f1 := fun o => (hz2.alloc o).frozen 1
   have f2 := fun o => (hz2.alloc o).frozen 2
   have f3 := fun o => (hz2.alloc o).frozen 3
   have f4 := fun o => (hz2.alloc o).frozen 4
   have f5 := fun o => (hz2.alloc o).frozen 5
   have f6 := fun o => (hz2.alloc o).frozen 6
   have hs01 := hk01.size
   have hzl := hz1.lt
   have hs2 := hk2.size
   have HE := Lib.hid (And.intro hz2 (And.intro (one_arg (w := w) hX0 (z := z) (by omega) hs2 hs01 4 0 ⟨#[]⟩) (And.intro hk02 h2)))
   clear hz2 hX0 hXs hk02 h2 hk0 hk1 hk01 hz0 hz1 h0 h1 hk2 hU hP h
   go_wp2_with fail
   obtain ⟨hz2, hA, hk02, h2⟩ := HE.out
   have hKV := kp_set7 (hk02.alloc (.cells #[.int .i64 xk, .int .i64 xn, .string xs, .int .i64 xl, .bool xo, .int .i64 xp, .slice a xa.length cap] 46)) (z := z) (by rw [HZ.out]; exact Nat.le_refl _)
   refine end_ex ((hz2.alloc _).set _ _ _ _ _ _ _) rfl rfl rfl ⟨hKV _ _ _ _ _ _ _, ⟨_, rfl, hA _ _ _ _ _ _ _⟩, ?_⟩
   exact HH.out.fin h2 (hKV _ _ _ _ _ _ _) ((heap_set7 (by omega) _ _ _ _ _ _ _).trans ((World.grownBy_alloc W2 _ none).block b h2.lt (by simp)))
end Go.Proofs.YtjmlmelcppbefaaGreatDoor
namespace Go.Proofs.YtjmlmelcppbefaaGreatDoor
open Go.RowKit Go.Maps
theorem field_k (kd : Int) (tx : ByteArray) (nu li co : Int) (w : World) : (Instr.field 91 (.agg #[.int .i64 kd, .string tx, .int .i64 nu, .int .i64 li, .int .i64 co]) 0).run Tryz.prog w = .ok (.int .i64 kd) w := by kernel_rfl
theorem no_arg {ok : Nat → Prop} (w : World) (q n : Int) (s : ByteArray) : ExL ok w [.int .i64 q, .int .i64 n, .string s, .int .i64 0, .bool false, .int .i64 0, .slice none 0 0] (.mk q n s 0 false 0 []) := by
 unfold ExL
 exact ⟨none, 0, rfl, ⟨Nat.le_refl _, by decide⟩, by unfold ExsL; trivial⟩
theorem one_arg0 {W1 W2 : World} {x : Ex} {cs : List Value} (hX : ExL (W1.heap.size ≤ ·) W2 cs x) (h12 : W1.heap.size ≤ W2.heap.size) (q n : Int) (s : ByteArray) :
  ExL (W1.heap.size ≤ ·) (W2.alloc (.cells cs.toArray 46)) [.int .i64 q, .int .i64 n, .string s, .int .i64 0, .bool false, .int .i64 0, .slice (some ⟨W2.heap.size, 0, none⟩) 1 1] (.mk q n s 0 false 0 [x]) := by
 unfold ExL
 refine ⟨some ⟨W2.heap.size, 0, none⟩, 1, rfl, ⟨Nat.le_refl _, by decide⟩, ?_⟩
 unfold ExsL
 refine ⟨⟨W2.heap.size, 0, cs, rfl, h12, fun t v hv => ?_, ?_⟩, by unfold ExsL; trivial⟩
 ·have h1 : (W2.alloc (.cells cs.toArray 46)).heap[W2.heap.size]? = some (.cells cs.toArray 46 (0, 0)) := World.alloc_heap_new _ _
  simp only [World.cellU, World.cell?, World.frozen?, h1]
  simpa using hv
 ·refine ExL.keep (fun c o v hc hv => ?_) hX
  have h1 := (World.grownBy_alloc W2 (.cells cs.toArray 46) none).block c (World.block_lt_of_cellU W2 hv) (by simp)
  rw [← hv]
  simp [World.cellU, World.cell?, World.frozen?, h1]
theorem ex_set {W1 W : World} {x : Ex} {cs : List Value} (hX : ExL (W1.heap.size ≤ ·) W cs x) {c : Nat} (hc : c < W1.heap.size) (t : Nat) (u : Value) : ExL (W1.heap.size ≤ ·) (W.setCell ⟨c, t, none⟩ u) cs x :=
 ExL.keep (fun d o v hd hv => by
  have hne : d ≠ c := by
   have : W1.heap.size ≤ d := hd
   omega
  rw [← hv]
  exact World.cellU_setCell_far W ⟨c, t, none⟩ ⟨d, o, none⟩ u (Ne.symm hne)) hX
theorem Xc.set06 {w : World} {b : Nat} {v0 v1 v2 v3 v4 v5 v6 : Value} (h : Xc w b v0 v1 v2 v3 v4 v5 v6) (u0 u6 : Value) : Xc ((w.setCell ⟨b, 0, none⟩ u0).setCell ⟨b, 6, none⟩ u6) b u0 v1 v2 v3 v4 v5 u6 := by
 have h2 := heap_set (j := 6) (heap_set (j := 0) h u0) u6
 unfold Xc
 rw [h2]
 simp
set_option maxRecDepth 100000 in
set_option maxHeartbeats 4000000 in
theorem prim_step {b : Nat} {S : Src} {f : Nat} (hb0 : b ≠ 0) (hE : CE b S f) : CP b S (f + 1) := by
 intro w k R h hO hR
 rw [pP] at hR
 have h0 := h.alloc (.cells #[.int .i64 0, .int .i64 0, .string ⟨#[]⟩, .int .i64 0, .bool false, .int .i64 0, .slice none 0 0] 46)
 have hz0 : Xc (w.alloc (.cells #[.int .i64 0, .int .i64 0, .string ⟨#[]⟩, .int .i64 0, .bool false, .int .i64 0, .slice none 0 0] 46)) w.heap.size (.int .i64 0) (.int .i64 0) (.string ⟨#[]⟩) (.int .i64 0) (.bool false) (.int .i64 0) (.slice none 0 0) := World.alloc_heap_new _ _
 have hk0 : Kp w (w.alloc (.cells #[.int .i64 0, .int .i64 0, .string ⟨#[]⟩, .int .i64 0, .bool false, .int .i64 0, .slice none 0 0] 46)) b b := kp_same ((Below.refl _ w).alloc (Nat.le_refl _) _)
 have hbw := h.lt
 have HH := Lib.hid h
 go_enter Tryz.func147, Tryz.ntmps147
 go_wp2_with fail
 generalize w.alloc (.cells #[.int .i64 0, .int .i64 0, .string ⟨#[]⟩, .int .i64 0, .bool false, .int .i64 0, .slice none 0 0] 46) = W0 at *
 refine (accept_any h0 sOpen).mono ?_
 rintro e W1 ⟨hk1, rfl, h1⟩
 have hk01 := hk0.trans hk1
 have hz1 := hz0.of (hk1.block _ hz0.lt (by omega) (by omega))
 obtain ⟨m, hm⟩ : ∃ m, isT S.T k sOpen = m := ⟨_, rfl⟩
 rw [hm] at hR h1
 rw [hm]
 clear hm hk0 hk1 hz0 h0
 obtain ⟨z, hz⟩ : ∃ z, w.heap.size = z := ⟨_, rfl⟩
 have HZ := Lib.hid hz
 have hs01 := hk01.size
 have hzl := hz1.lt
 rw [hz] at hz1 hbw hzl ⊢
 cases m
 ·rw [if_neg Bool.false_ne_true] at hR h1
  have hp := peek_any h1
  have hkd := kindN S.T S.en k
  obtain ⟨wd, hwd⟩ : ∃ wd, nextW S.T S.en k = wd := ⟨_, rfl⟩
  rw [hwd] at hp hkd
  obtain ⟨kd, tx, nu, li, co⟩ := wd
  have HK := Lib.hid (show kd = kindAt S.T k from hkd)
  have hf := field_k kd tx nu li co
  clear hkd hwd
  go_wp2_with fail
  refine hp.mono ?_
  rintro e W2 ⟨rfl, hb2⟩
  simp only [Wd.val]
  have hk2 := kp_same (b := b) hb2
  have h2 := h1.below hb2
  have hk02 := hk01.trans hk2
  have hs2 := hk2.size
  have hz2 := hz1.of (hb2.block z hzl)
  clear hk01 hk2 hb2 hz1 h1 hp
  by_cases hk2 : kd = 2
  ·subst hk2
   have HK2 := HK.out.symm
   rw [if_pos HK2] at hR
   have hnr := numb_rd h2 (R := .ok ((S.T.getD k default).num, k + 1)) (by unfold pNumb; rw [if_pos HK2])
   obtain ⟨nn, hnn⟩ : ∃ nn, (S.T.getD k default).num = nn := ⟨_, rfl⟩
   rw [hnn] at hnr hR
   cases hR
   clear HK2 hnn
   go_wp2_with fail
   refine hnr.mono ?_
   rintro e W4 ⟨hk4, rfl, h4⟩
   have hk04 := hk02.trans hk4
   have hz4 := hz2.of (hk4.block z (by omega) (by omega) (by omega))
   have HE := Lib.hid (And.intro hz4 (And.intro hk04 h4))
   have t0 := hz4.c0
   have t1 := hz4.c1
   have t2 := hz4.c2
   have t3 := hz4.c3
   have t4 := hz4.c4
   have t5 := hz4.c5
   have t6 := hz4.c6
   have f0 := hz4.frozen 0
   have f1 := hz4.frozen 1
   have f2 := hz4.frozen 2
   have f3 := hz4.frozen 3
   have f4 := hz4.frozen 4
   have f5 := hz4.frozen 5
   have f6 := hz4.frozen 6
   clear hz4 hk04 h4 hk4 hk02 h2 hz2 hE hnr
   go_wp2_with fail
   obtain ⟨hz4, hk04, h4⟩ := HE.out
   have hKV := kp_set7 hk04 (z := z) (by rw [HZ.out]; exact Nat.le_refl _)
   refine end_ex (hz4.set _ _ _ _ _ _ _) rfl rfl rfl ⟨hKV _ _ _ _ _ _ _, ⟨_, rfl, no_arg _ 1 nn ⟨#[]⟩⟩, ?_⟩
   exact HH.out.fin h4 (hKV _ _ _ _ _ _ _) (heap_set7 (by omega) _ _ _ _ _ _ _)
  ·rw [if_neg (fun e => hk2 (HK.out.trans e))] at hR
   go_wp2_with fail
   rcases hn : pName S.T k with _ | R2
   ·rw [hn] at hR
    cases hR
   ·refine (name_rd h2 hn).mono ?_
    rcases R2 with j2 | ⟨nm, j2⟩
    ·rw [hn] at hR
     cases hR
     rintro e W4 ⟨hk4, rfl⟩
     exact ⟨rfl, hk02.trans hk4, rfl⟩
    ·rw [hn, andT_ok] at hR
     rintro e W4 ⟨hk4, rfl, h4⟩
     have hk04 := hk02.trans hk4
     have hz4 := hz2.of (hk4.block z (by omega) (by omega) (by omega))
     have hs4 := hk4.size
     have hy5 : Xc (W4.alloc (.cells #[.int .i64 2, .int .i64 0, .string nm, .int .i64 0, .bool false, .int .i64 0, .slice none 0 0] 46)) W4.heap.size (.int .i64 2) (.int .i64 0) (.string nm) (.int .i64 0) (.bool false) (.int .i64 0) (.slice none 0 0) := World.alloc_heap_new _ _
     have hz5 := hz4.alloc (.cells #[.int .i64 2, .int .i64 0, .string nm, .int .i64 0, .bool false, .int .i64 0, .slice none 0 0] 46)
     have h5 := h4.alloc (.cells #[.int .i64 2, .int .i64 0, .string nm, .int .i64 0, .bool false, .int .i64 0, .slice none 0 0] 46)
     have hk05 := hk04.alloc (.cells #[.int .i64 2, .int .i64 0, .string nm, .int .i64 0, .bool false, .int .i64 0, .slice none 0 0] 46)
     have hs5 : (W4.alloc (.cells #[.int .i64 2, .int .i64 0, .string nm, .int .i64 0, .bool false, .int .i64 0, .slice none 0 0] 46)).heap.size = W4.heap.size + 1 := by simp
     obtain ⟨y, hy⟩ : ∃ y, W4.heap.size = y := ⟨_, rfl⟩
     rw [hy] at hy5 hs4 hs5
     have HY := Lib.hid hy
     clear hz4 h4 hk04 hk4 hk02 h2 hz2 hn
     go_wp2_with fail
     generalize W4.alloc (.cells #[.int .i64 2, .int .i64 0, .string nm, .int .i64 0, .bool false, .int .i64 0, .slice none 0 0] 46) = W5 at *
     refine (accept_any h5 sBrO).mono ?_
     rintro e W6 ⟨hk6, rfl, h6⟩
     have hs6 := hk6.size
     have hbl := h5.lt
     have hk06 := hk05.trans hk6
     have hz6 := hz5.of (hk6.block _ hz5.lt (by omega) (by omega))
     have hy6 := hy5.of (hk6.block _ hy5.lt (by omega) (by omega))
     obtain ⟨m, hm⟩ : ∃ m, isT S.T j2 sBrO = m := ⟨_, rfl⟩
     rw [hm] at hR h6
     rw [hm]
     clear hm hk6 hz5 hy5 h5 hk05
     cases m
     ·rw [if_neg Bool.false_ne_true] at hR h6
      cases hR
      have HE := Lib.hid (And.intro hz6 (And.intro hk06 h6))
      have hyz : y ≠ z := by omega
      have y0 := hy6.c0
      have y1 := hy6.c1
      have y2 := hy6.c2
      have y3 := hy6.c3
      have y4 := hy6.c4
      have y5 := hy6.c5
      have y6 := hy6.c6
      have t0 := hz6.c0
      have t1 := hz6.c1
      have t2 := hz6.c2
      have t3 := hz6.c3
      have t4 := hz6.c4
      have t5 := hz6.c5
      have t6 := hz6.c6
      have f0 := hz6.frozen 0
      have f1 := hz6.frozen 1
      have f2 := hz6.frozen 2
      have f3 := hz6.frozen 3
      have f4 := hz6.frozen 4
      have f5 := hz6.frozen 5
      have f6 := hz6.frozen 6
      clear hz6 hk06 h6 hy6 hE
      go_wp2_with fail
      obtain ⟨hz4, hk04, h4⟩ := HE.out
      have hKV := kp_set7 hk04 (z := z) (by rw [HZ.out]; exact Nat.le_refl _)
      refine end_ex (hz4.set _ _ _ _ _ _ _) rfl rfl rfl ⟨hKV _ _ _ _ _ _ _, ⟨_, rfl, no_arg _ 2 0 nm⟩, ?_⟩
      exact HH.out.fin h4 (hKV _ _ _ _ _ _ _) (heap_set7 (by omega) _ _ _ _ _ _ _)
     ·rw [if_pos rfl] at hR h6
      rcases hx : pE S.T f 1 (j2 + 1) with _ | (j | ⟨x, j⟩)
      ·rw [hx] at hR
       cases hR
      ·rw [hx] at hR
       cases hR
       go_wp2_with fail
       refine (hE W6 1 (j2 + 1) _ (by decide) h6 (hO.kp hk06 hb0) hx).mono ?_
       rintro e W7 ⟨hk7, rfl⟩
       exact ⟨rfl, hk06.trans hk7, rfl⟩
      ·rw [hx, andT_ok] at hR
       go_wp2_with fail
       refine (hE W6 1 (j2 + 1) _ (by decide) h6 (hO.kp hk06 hb0) hx).mono ?_
       rintro e W7 ⟨hk7, ⟨cs, rfl, hX⟩, h7⟩
       obtain ⟨xk, xn, xs, xl, xo, xp, xa⟩ := x
       have hX0 := hX
       unfold ExL at hX
       obtain ⟨a, cap, rfl, hac, hXs⟩ := hX
       have hs7 := hk7.size
       have hzl6 := hz6.lt
       have hyl6 := hy6.lt
       have hbl6 := h6.lt
       have hk07 := hk06.trans hk7
       have hz7 := hz6.of (hk7.block z (by omega) (by omega) (by omega))
       have hy7 := hy6.of (hk7.block y (by omega) (by omega) (by omega))
       have hA8 := one_arg0 hX0 hs7 3 0 nm
       have hz8 := hz7.alloc (.cells #[.int .i64 xk, .int .i64 xn, .string xs, .int .i64 xl, .bool xo, .int .i64 xp, .slice a xa.length cap] 46)
       have hy8 := hy7.alloc (.cells #[.int .i64 xk, .int .i64 xn, .string xs, .int .i64 xl, .bool xo, .int .i64 xp, .slice a xa.length cap] 46)
       have hk08 := hk07.alloc (.cells #[.int .i64 xk, .int .i64 xn, .string xs, .int .i64 xl, .bool xo, .int .i64 xp, .slice a xa.length cap] 46)
       have hb8 : (W7.alloc (.cells #[.int .i64 xk, .int .i64 xn, .string xs, .int .i64 xl, .bool xo, .int .i64 xp, .slice a xa.length cap] 46)).heap[b]? = W7.heap[b]? := (World.grownBy_alloc W7 _ none).block b h7.lt (by simp)
       have hyz : y ≠ z := by omega
       have hyb : y ≠ b := by omega
       have hA9 := ex_set (ex_set hA8 (c := y) hyl6 0 (.int .i64 3)) (c := y) hyl6 6 (.slice (some ⟨W7.heap.size, 0, none⟩) 1 1)
       have hz9 : Xc _ z _ _ _ _ _ _ _ := (hz8.of (Below.heap_setCell _ ⟨y, 0, none⟩ (.int .i64 3) z (Ne.symm hyz))).of (Below.heap_setCell _ ⟨y, 6, none⟩ (.slice (some ⟨W7.heap.size, 0, none⟩) 1 1) z (Ne.symm hyz))
       have hy9 := hy8.set06 (.int .i64 3) (.slice (some ⟨W7.heap.size, 0, none⟩) 1 1)
       have hk09 := (hk08.setNew (r := y) (by omega) 0 (.int .i64 3)).setNew (r := y) (by omega) 6 (.slice (some ⟨W7.heap.size, 0, none⟩) 1 1)
       have h9 := HH.out.fin h7 hk09 (((Below.heap_setCell _ ⟨y, 6, none⟩ _ b (Ne.symm hyb)).trans (Below.heap_setCell _ ⟨y, 0, none⟩ _ b (Ne.symm hyb))).trans hb8)
       have y0 := hy8.c0
       have y6 := hy8.c6
       have g0 := hy8.frozen 0
       have g6 := hy8.frozen 6
       have HX := Lib.hid hA9
       clear hA8 hA9 hz8 hk08 hb8 hk07 hz7 hy7 hX0 hXs hz6 hy6 hk7 hx hE h7 h6 hk06
       go_wp2_with fail
       clear y0 y6 g0 g6 hy8
       generalize hW9 : ((W7.alloc (.cells #[.int .i64 xk, .int .i64 xn, .string xs, .int .i64 xl, .bool xo, .int .i64 xp, .slice a xa.length cap] 46)).setCell ⟨y, 0, none⟩ (.int .i64 3)).setCell ⟨y, 6, none⟩ (.slice (some ⟨W7.heap.size, 0, none⟩) 1 1) = W9 at *
       clear hW9
       generalize W7.heap.size = q7 at *
       rcases hw : want S.T sBrS j with _ | R2
       ·rw [hw] at hR
        cases hR
       ·refine (want_any h9 sBrS hw).mono ?_
        rintro e W10 ⟨hk10, hr10⟩
        rcases R2 with j3 | ⟨_, j3⟩
        ·rw [hw] at hR
         cases hR
         obtain rfl := hr10
         exact ⟨rfl, hk09.trans hk10, rfl⟩
        ·rw [hw] at hR
         cases hR
         obtain ⟨rfl, h10⟩ := hr10
         have hk010 := hk09.trans hk10
         have hz10 := hz9.of (hk10.block z hz9.lt (by omega) (by omega))
         have hy10 := hy9.of (hk10.block y hy9.lt (by omega) (by omega))
         have hX10 := ExL.kp HX.out hk10 hbl6
         have hs06 : w.heap.size ≤ W6.heap.size := by omega
         have HE := Lib.hid (And.intro hz10 (And.intro (ex_put (w := w) hX10 (z := z) hzl6 hs06) (And.intro hk010 h10)))
         have y0 := hy10.c0
         have y1 := hy10.c1
         have y2 := hy10.c2
         have y3 := hy10.c3
         have y4 := hy10.c4
         have y5 := hy10.c5
         have y6 := hy10.c6
         have t0 := hz10.c0
         have t1 := hz10.c1
         have t2 := hz10.c2
         have t3 := hz10.c3
         have t4 := hz10.c4
         have t5 := hz10.c5
         have t6 := hz10.c6
         have f0 := hz10.frozen 0
         have f1 := hz10.frozen 1
         have f2 := hz10.frozen 2
         have f3 := hz10.frozen 3
         have f4 := hz10.frozen 4
         have f5 := hz10.frozen 5
         have f6 := hz10.frozen 6
         clear hz10 hy10 hX10 hk010 h10 hk10 hz9 hy9 h9 hk09 HX
         go_wp2_with fail
         obtain ⟨hz4, hA, hk04, h4⟩ := HE.out
         have hKV := kp_set7 hk04 (z := z) (by rw [HZ.out]; exact Nat.le_refl _)
         refine end_ex (hz4.set _ _ _ _ _ _ _) rfl rfl rfl ⟨hKV _ _ _ _ _ _ _, ⟨_, rfl, hA _ _ _ _ _ _ _⟩, ?_⟩
         exact HH.out.fin h4 (hKV _ _ _ _ _ _ _) (heap_set7 (by omega) _ _ _ _ _ _ _)
 ·rw [if_pos rfl] at hR h1
  rcases hx : pE S.T f 1 (k + 1) with _ | (j | ⟨x, j⟩)
  ·rw [hx] at hR
   cases hR
  ·rw [hx] at hR
   cases hR
   go_wp2_with fail
   refine (hE W1 1 (k + 1) _ (by decide) h1 (hO.kp hk01 hb0) hx).mono ?_
   rintro e W2 ⟨hk2, rfl⟩
   exact ⟨rfl, hk01.trans hk2, rfl⟩
  ·rw [hx, andT_ok] at hR
   go_wp2_with fail
   refine (hE W1 1 (k + 1) _ (by decide) h1 (hO.kp hk01 hb0) hx).mono ?_
   rintro e W2 ⟨hk2, ⟨cs, rfl, hX⟩, h2⟩
   obtain ⟨xk, xn, xs, xl, xo, xp, xa⟩ := x
   have hX0 := hX
   unfold ExL at hX
   obtain ⟨a, cap, rfl, hac, hXs⟩ := hX
   have hk02 := hk01.trans hk2
   have hz2 := hz1.of (hk2.block _ (by omega) (by omega) (by omega))
   have hy2 : Xc (W2.alloc (.cells #[.int .i64 xk, .int .i64 xn, .string xs, .int .i64 xl, .bool xo, .int .i64 xp, .slice a xa.length cap] 46)) W2.heap.size (.int .i64 xk) (.int .i64 xn) (.string xs) (.int .i64 xl) (.bool xo) (.int .i64 xp) (.slice a xa.length cap) := World.alloc_heap_new _ _
   have hs2 := hk2.size
   have h3 := h2.alloc (.cells #[.int .i64 xk, .int .i64 xn, .string xs, .int .i64 xl, .bool xo, .int .i64 xp, .slice a xa.length cap] 46)
   have hk23 : Kp W2 (W2.alloc (.cells #[.int .i64 xk, .int .i64 xn, .string xs, .int .i64 xl, .bool xo, .int .i64 xp, .slice a xa.length cap] 46)) b b := kp_same ((Below.refl _ W2).alloc (Nat.le_refl _) _)
   go_wp2_with fail
   generalize hW3 : W2.alloc (.cells #[.int .i64 xk, .int .i64 xn, .string xs, .int .i64 xl, .bool xo, .int .i64 xp, .slice a xa.length cap] 46) = W3 at *
   clear hW3
   rcases hy : want S.T sShut j with _ | R2
   ·rw [hy] at hR
    cases hR
   ·refine (want_any h3 sShut hy).mono ?_
    rintro e W4 ⟨hk4, hr4⟩
    rcases R2 with j2 | ⟨_, j2⟩
    ·rw [hy] at hR
     cases hR
     obtain rfl := hr4
     exact ⟨rfl, (hk02.trans hk23).trans hk4, rfl⟩
    ·rw [hy] at hR
     cases hR
     obtain ⟨rfl, h4⟩ := hr4
     have hk24 := hk23.trans hk4
     have hk04 := hk02.trans hk24
     have hz4 := hz2.of (hk24.block z (by omega) (by omega) (by omega))
     have hy4 := hy2.of (hk4.block _ hy2.lt (by omega) (by omega))
     have hX4 : ExL (W1.heap.size ≤ ·) W4 _ _ := ExL.kp hX0 hk24 (by omega)
     have HE := Lib.hid (And.intro hz4 (And.intro (ex_put (w := w) hX4 (z := z) (by omega) hs01) (And.intro hk04 h4)))
     have hyz : W2.heap.size ≠ z := by omega
     have y0 := hy4.c0
     have y1 := hy4.c1
     have y2 := hy4.c2
     have y3 := hy4.c3
     have y4 := hy4.c4
     have y5 := hy4.c5
     have y6 := hy4.c6
     have t0 := hz4.c0
     have t1 := hz4.c1
     have t2 := hz4.c2
     have t3 := hz4.c3
     have t4 := hz4.c4
     have t5 := hz4.c5
     have t6 := hz4.c6
     have f0 := hz4.frozen 0
     have f1 := hz4.frozen 1
     have f2 := hz4.frozen 2
     have f3 := hz4.frozen 3
     have f4 := hz4.frozen 4
     have f5 := hz4.frozen 5
     have f6 := hz4.frozen 6
     clear hz4 hy4 hX4 hk04 h4 hk24 hk4 hk02 hk23 hy2 h3 hX0 hXs h2 hk2 hz2 hk01 hz1 h1 hE hy hx
     go_wp2_with fail
     obtain ⟨hz4, hA, hk04, h4⟩ := HE.out
     have hKV := kp_set7 hk04 (z := z) (by rw [HZ.out]; exact Nat.le_refl _)
     refine end_ex (hz4.set _ _ _ _ _ _ _) rfl rfl rfl ⟨hKV _ _ _ _ _ _ _, ⟨_, rfl, hA _ _ _ _ _ _ _⟩, ?_⟩
     exact HH.out.fin h4 (hKV _ _ _ _ _ _ _) (heap_set7 (by omega) _ _ _ _ _ _ _)
end Go.Proofs.YtjmlmelcppbefaaGreatDoor
namespace Go.Proofs.YtjmlmelcppbefaaGreatDoor
open Go.RowKit Go.Maps
theorem two_args {ok : Nat → Prop} {W : World} {x y : Ex} {v0 v1 v2 v3 v4 v5 v6 u0 u1 u2 u3 u4 u5 u6 : Value} (hx : ExL ok W [v0, v1, v2, v3, v4, v5, v6] x) (hy : ExL ok W [u0, u1, u2, u3, u4, u5, u6] y) (hW : ok W.heap.size) (op : Nat) :
  ExL ok (W.alloc (.cells #[v0, v1, v2, v3, v4, v5, v6, u0, u1, u2, u3, u4, u5, u6] 46)) [.int .i64 6, .int .i64 0, .string noB, .int .i64 0, .bool false, .int .i64 (op : Int), .slice (some ⟨W.heap.size, 0, none⟩) 2 2] (exBin op x y) := by
 have h1 : (W.alloc (.cells #[v0, v1, v2, v3, v4, v5, v6, u0, u1, u2, u3, u4, u5, u6] 46)).heap[W.heap.size]? = some (.cells #[v0, v1, v2, v3, v4, v5, v6, u0, u1, u2, u3, u4, u5, u6] 46 (0, 0)) := World.alloc_heap_new _ _
 have hk : ∀ (c o : Nat) (v : Value), ok c → W.cellU ⟨c, o, none⟩ = some v → (W.alloc (.cells #[v0, v1, v2, v3, v4, v5, v6, u0, u1, u2, u3, u4, u5, u6] 46)).cellU ⟨c, o, none⟩ = some v := fun c o v _ hv => by
  have h2 := (World.grownBy_alloc W (.cells #[v0, v1, v2, v3, v4, v5, v6, u0, u1, u2, u3, u4, u5, u6] 46) none).block c (World.block_lt_of_cellU W hv) (by simp)
  rw [← hv]
  simp [World.cellU, World.cell?, World.frozen?, h2]
 unfold exBin ExL
 refine ⟨some ⟨W.heap.size, 0, none⟩, 2, rfl, ⟨Nat.le_refl _, by decide⟩, ?_⟩
 unfold ExsL
 refine ⟨⟨W.heap.size, 0, _, rfl, hW, fun t v hv => ?_, ExL.keep hk hx⟩, ?_⟩
 ·simp only [World.cellU, World.cell?, World.frozen?, h1]
  rcases t with _ | _ | _ | _ | _ | _ | _ | t
  all_goals first | (simp at hv; done) | simpa using hv
 ·unfold ExsL
  refine ⟨⟨W.heap.size, 0, _, rfl, hW, fun t v hv => ?_, ExL.keep hk hy⟩, by unfold ExsL; trivial⟩
  simp only [World.cellU, World.cell?, World.frozen?, h1]
  rcases t with _ | _ | _ | _ | _ | _ | _ | t
  all_goals first | (simp at hv; done) | simpa using hv
end Go.Proofs.YtjmlmelcppbefaaGreatDoor
