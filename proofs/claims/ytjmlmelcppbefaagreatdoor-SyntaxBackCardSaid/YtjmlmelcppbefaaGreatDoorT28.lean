/- What the syntax texts share, part 28. No condition. -/
import Derived.Defers
import Derived.Recover
import Derived.Test.YtjmlmelcppbefaaGreatDoorT27
namespace Go.Proofs.YtjmlmelcppbefaaGreatDoor
open Go.RowKit
theorem ta_nil (w : World) : (Instr.typeAssert .nilIface 20 136 true).run Tryz.prog w = .ok (.tuple #[.agg #[.int .i64 0, .int .i64 0], .bool false]) w := by kernel_rfl
theorem ta_flaw (x y : Int) (w : World) : (Instr.typeAssert (.iface 136 (.agg #[.int .i64 x, .int .i64 y])) 20 136 true).run Tryz.prog w = .ok (.tuple #[.agg #[.int .i64 x, .int .i64 y], .bool true]) w := by kernel_rfl
set_option maxRecDepth 100000 in
theorem catch_idle (p q r : Addr) (w : World) :
  CallsD Tryz.prog 78 #[.pointer (some p), .pointer (some q), .pointer (some r)] .returning w fun e u' w' => e = .returned (.tuple #[]) ∧ u' = .returning ∧ Below w.heap.size w w' := by
 refine callsD_of_wpS Tryz.func78 rfl fun c₀ cs hu => ?_
 simp only [Tryz.ntmps78, List.size_toArray, List.length_cons, List.length_nil, Nat.reduceAdd, Nat.reduceSub, Array.replicate_succ, Array.replicate_zero, List.push_toArray, List.append_toArray, List.nil_append, List.cons_append]
 apply wpS_seq
 apply wpS_region
 have hT : Blk (w.alloc (.cells #[.int .i64 0, .int .i64 0] 136)) w.heap.size 136 [.int .i64 0, .int .i64 0] := World.alloc_heap_new _ _
 have hB : Below w.heap.size w (w.alloc (.cells #[.int .i64 0, .int .i64 0] 136)) := (Below.refl _ w).alloc (Nat.le_refl _) _
 have c0 := hT.cell 0
 have f0 := hT.frozen 0
 simp [wpOpsS, go_sem, recoverD, hu, Exit.thenS, ta_nil, c0, f0]
 apply wpS_seq
 apply wpS_region
 simp [wpOpsS, go_sem, Exit.thenS]
 refine wpS_cond (t := false) (by simp [Act.eval]) ?_
 simp only [Bool.false_eq_true, if_false]
 refine wpS_of_wp (wp_skip ?_)
 cases c₀
 simp_all [bodyPostS, results, Tryz.f78]
structure Caught (w w' : World) (z2 z3 z4 : Nat) (x y : Int) : Prop where
 l : Blk w' z2 23 [.slice none 0 0]
 p : Blk w' z3 25 [.int .i64 x, .int .i64 y]
 e : Blk w' z4 26 [.int .i64 120]
 os : w'.os = w.os
 tape : w'.tape = w.tape
 output : w'.output = w.output
 size : w.heap.size ≤ w'.heap.size
 block : ∀ c, c < w.heap.size → c ≠ z2 → c ≠ z3 → c ≠ z4 → w'.heap[c]? = w.heap[c]?
theorem Caught.mk' {w W : World} {z2 z3 z4 : Nat} {v2 v3 v3' v4 : Value} (x y : Int) (hB : Below w.heap.size w W) (h2 : Blk W z2 23 [v2]) (h3 : Blk W z3 25 [v3, v3']) (h4 : Blk W z4 26 [v4]) :
  Caught w ((((W.setCell ⟨z2, 0, none⟩ (.slice none 0 0)).setCell ⟨z3, 0, none⟩ (.int .i64 x)).setCell ⟨z3, 1, none⟩ (.int .i64 y)).setCell ⟨z4, 0, none⟩ (.int .i64 120)) z2 z3 z4 x y := by
 have h23 : z2 ≠ z3 := by
  rintro rfl
  have := Option.some.inj (h2.symm.trans h3)
  simp at this
 have h24 : z2 ≠ z4 := by
  rintro rfl
  have := Option.some.inj (h2.symm.trans h4)
  simp at this
 have h34 : z3 ≠ z4 := by
  rintro rfl
  have := Option.some.inj (h3.symm.trans h4)
  simp at this
 refine ⟨(((h2.set1 0 (.slice none 0 0)).other h23 0 _).other h23 1 _).other h24 0 _, (((h3.other (Ne.symm h23) 0 (.slice none 0 0)).set1 0 (.int .i64 x)).set1 1 (.int .i64 y)).other h34 0 _, (((h4.other (Ne.symm h24) 0 (.slice none 0 0)).other (Ne.symm h34) 0 (.int .i64 x)).other (Ne.symm h34) 1 (.int .i64 y)).set1 0 (.int .i64 120), hB.os, hB.tape, hB.output, by simpa [World.setCell] using hB.size, fun c hc h5 h6 h7 => ?_⟩
 rw [Below.heap_setCell _ ⟨z4, 0, none⟩ _ c h7, Below.heap_setCell _ ⟨z3, 1, none⟩ _ c h6, Below.heap_setCell _ ⟨z3, 0, none⟩ _ c h6, Below.heap_setCell _ ⟨z2, 0, none⟩ _ c h5]
 exact hB.block c hc
theorem Caught.drew {w w' : World} {z2 z3 z4 : Nat} {x y : Int} (h : Caught w w' z2 z3 z4 x y) : Caught w w'.drew z2 z3 z4 x y := ⟨h.l, h.p, h.e, h.os, h.tape, h.output, h.size, h.block⟩
set_option maxRecDepth 100000 in
set_option maxHeartbeats 4000000 in
theorem catch_panicking (z2 z3 z4 : Nat) (x y : Int) {v2 : Value} {p q r : Int} (older : List PanicEntry) (w : World) (h2 : Blk w z2 23 [v2]) (h3 : Blk w z3 25 [.int .i64 p, .int .i64 q]) (h4 : Blk w z4 26 [.int .i64 r]) :
  CallsD Tryz.prog 78 #[.pointer (some ⟨z2, 0, none⟩), .pointer (some ⟨z3, 0, none⟩), .pointer (some ⟨z4, 0, none⟩)] (.panicking ({ v := .iface 136 (.agg #[.int .i64 x, .int .i64 y]), recovered := false } :: older)) w
   fun e u' w' => e = .returned (.tuple #[]) ∧ u' = .panicking ({ v := .iface 136 (.agg #[.int .i64 x, .int .i64 y]), recovered := true } :: older) ∧ Caught w w' z2 z3 z4 x y := by
 refine callsD_of_wpS Tryz.func78 rfl fun c₀ cs hu => ?_
 simp only [Tryz.ntmps78, List.size_toArray, List.length_cons, List.length_nil, Nat.reduceAdd, Nat.reduceSub, Array.replicate_succ, Array.replicate_zero, List.push_toArray, List.append_toArray, List.nil_append, List.cons_append]
 apply wpS_seq
 apply wpS_region
 have hB : Below w.heap.size w (w.alloc (.cells #[.int .i64 x, .int .i64 y] 136)) := (Below.refl _ w).alloc (Nat.le_refl _) _
 have hz : Blk (w.alloc (.cells #[.int .i64 0, .int .i64 0] 136)) w.heap.size 136 [.int .i64 0, .int .i64 0] := World.alloc_heap_new _ _
 have c0 := hz.cell 0
 have f0 := hz.frozen 0
 simp [wpOpsS, go_sem, recoverD, hu, Exit.thenS, ta_flaw, c0, f0]
 apply wpS_seq
 apply wpS_region
 simp [wpOpsS, go_sem, Exit.thenS]
 refine wpS_cond (t := true) (by simp [Act.eval]) ?_
 simp only [if_true]
 have hf : Blk (w.alloc (.cells #[.int .i64 x, .int .i64 y] 136)) w.heap.size 136 [.int .i64 x, .int .i64 y] := World.alloc_heap_new _ _
 have g2 := h2.alloc (.cells #[.int .i64 x, .int .i64 y] 136)
 have g3 := h3.alloc (.cells #[.int .i64 x, .int .i64 y] 136)
 have g4 := h4.alloc (.cells #[.int .i64 x, .int .i64 y] 136)
 have hz2 := h2.lt
 have hne2 : w.heap.size ≠ z2 := by omega
 have HC := Lib.hid (Caught.mk' x y hB g2 g3 g4).drew
 clear c0 f0 hz
 generalize w.alloc (.cells #[.int .i64 x, .int .i64 y] 136) = W at *
 have c0 := hf.cell 0
 have c1 := hf.cell 1
 have a2 := g2.cell 0
 have b2 := g2.frozen 0
 have a3 := g3.cell 0
 have b3 := g3.frozen 0
 have a31 := g3.cell 1
 have b31 := g3.frozen 1
 have a4 := g4.cell 0
 have b4 := g4.frozen 0
 have h23 : z2 ≠ z3 := by
  rintro rfl
  have := Option.some.inj (g2.symm.trans g3)
  simp at this
 have h24 : z2 ≠ z4 := by
  rintro rfl
  have := Option.some.inj (g2.symm.trans g4)
  simp at this
 have h34 : z3 ≠ z4 := by
  rintro rfl
  have := Option.some.inj (g3.symm.trans g4)
  simp at this
 refine wpS_of_wp ?_
 go_region
 have hC := HC.out
 simp [bodyPostS, results, Tryz.f78]
 exact hC
end Go.Proofs.YtjmlmelcppbefaaGreatDoor
namespace Go.Proofs.YtjmlmelcppbefaaGreatDoor
open Go.RowKit Go.Maps
structure Bx (W : World) (z2 z3 z4 : Nat) (v : Value) (p q r : Int) : Prop where
 l : Blk W z2 23 [v]
 p : Blk W z3 25 [.int .i64 p, .int .i64 q]
 e : Blk W z4 26 [.int .i64 r]
theorem Bx.kp {W W' : World} {z2 z3 z4 b : Nat} {v : Value} {p q r : Int} (h : Bx W z2 z3 z4 v p q r) (hk : Kp W W' b b) (h2 : z2 ≠ b) (h3 : z3 ≠ b) (h4 : z4 ≠ b) : Bx W' z2 z3 z4 v p q r := ⟨h.l.kp hk h2 h2, h.p.kp hk h3 h3, h.e.kp hk h4 h4⟩
theorem Bx.below {W W' : World} {B z2 z3 z4 : Nat} {v : Value} {p q r : Int} (h : Bx W z2 z3 z4 v p q r) (hk : Below B W W') (h2 : z2 < B) (h3 : z3 < B) (h4 : z4 < B) : Bx W' z2 z3 z4 v p q r := ⟨h.l.of (hk.block _ h2), h.p.of (hk.block _ h3), h.e.of (hk.block _ h4)⟩
theorem prog_gone {w W : World} {b z2 z3 z4 : Nat} {act : Act} {R : Ending → World → Prop} {v : Value} {p q r x y : Int} (hH : Bx W z2 z3 z4 v p q r)
  (hK : Kp w W b b) (h2w : w.heap.size ≤ z2) (h3w : w.heap.size ≤ z3) (h4w : w.heap.size ≤ z4)
  (h2 : act.tmps.getD 2 undef = .pointer (some ⟨z2, 0, none⟩)) (h3 : act.tmps.getD 3 undef = .pointer (some ⟨z3, 0, none⟩)) (h4 : act.tmps.getD 4 undef = .pointer (some ⟨z4, 0, none⟩))
  (hd : act.defers = [{ target := .fn (.func 78) #[.pointer (some ⟨z2, 0, none⟩), .pointer (some ⟨z3, 0, none⟩), .pointer (some ⟨z4, 0, none⟩)], args := #[] }])
  (hR : ∀ W', Kp w W' b b → R (.returned (.tuple #[.slice none 0 0, .agg #[.int .i64 x, .int .i64 y], .int .i64 120])) W') :
  bodyPostD Tryz.prog Tryz.f37 R (.panic [{ v := .iface 136 (.agg #[.int .i64 x, .int .i64 y]), recovered := false }]) act W := by
 show Leaves Tryz.prog Tryz.f37 act.tmps R act.defers (.panicking [{ v := .iface 136 (.agg #[.int .i64 x, .int .i64 y]), recovered := false }]) W
 rw [hd]
 refine leaves_cons (f := 78) (args := #[.pointer (some ⟨z2, 0, none⟩), .pointer (some ⟨z3, 0, none⟩), .pointer (some ⟨z4, 0, none⟩)]) (by simp) (by simp [go_sem]) ?_
 refine (catch_panicking z2 z3 z4 x y [] W hH.l hH.p hH.e).mono ?_
 rintro e u' w' ⟨rfl, rfl, hc⟩
 have h2' : act.tmps[2]?.getD undef = .pointer (some ⟨z2, 0, none⟩) := by rw [← h2]; simp
 have h3' : act.tmps[3]?.getD undef = .pointer (some ⟨z3, 0, none⟩) := by rw [← h3]; simp
 have h4' : act.tmps[4]?.getD undef = .pointer (some ⟨z4, 0, none⟩) := by rw [← h4]; simp
 have hkp : Kp w w' b b := ⟨hc.os.trans hK.os, hc.tape.trans hK.tape, hc.output.trans hK.output, Nat.le_trans hK.size hc.size, fun c hcl hcb _ => (hc.block c (Nat.lt_of_lt_of_le hcl hK.size) (by omega) (by omega) (by omega)).trans (hK.block c hcl hcb hcb)⟩
 have c0 := hc.l.cell 0
 have c1 := hc.p.cell 0
 have c2 := hc.p.cell 1
 have c3 := hc.e.cell 0
 simp only [List.getElem?_cons_zero, List.getElem?_cons_succ] at c0 c1 c2 c3
 have hfin := hR w' hkp
 simp [Leaves, settle, results, Tryz.f37, go_sem, h2', h3', h4', c0, c1, c2, c3]
 exact hfin
theorem prog_done {W : World} {z2 z3 z4 : Nat} {act : Act} {R : Ending → World → Prop} {a : Option Addr} {n cap : Nat} {p q r : Int} (hH : Bx W z2 z3 z4 (.slice a n cap) p q r)
  (h2 : act.tmps.getD 2 undef = .pointer (some ⟨z2, 0, none⟩)) (h3 : act.tmps.getD 3 undef = .pointer (some ⟨z3, 0, none⟩)) (h4 : act.tmps.getD 4 undef = .pointer (some ⟨z4, 0, none⟩))
  (hd : act.defers = [{ target := .fn (.func 78) #[.pointer (some ⟨z2, 0, none⟩), .pointer (some ⟨z3, 0, none⟩), .pointer (some ⟨z4, 0, none⟩)], args := #[] }])
  (hR : ∀ W', Below W.heap.size W W' → R (.returned (.tuple #[.slice a n cap, .agg #[.int .i64 p, .int .i64 q], .int .i64 r])) W') : bodyPostD Tryz.prog Tryz.f37 R .ret act W := by
 show Leaves Tryz.prog Tryz.f37 act.tmps R act.defers .returning W
 rw [hd]
 refine leaves_cons (f := 78) (args := #[.pointer (some ⟨z2, 0, none⟩), .pointer (some ⟨z3, 0, none⟩), .pointer (some ⟨z4, 0, none⟩)]) (by simp) (by simp [go_sem]) ?_
 refine (catch_idle ⟨z2, 0, none⟩ ⟨z3, 0, none⟩ ⟨z4, 0, none⟩ W).mono ?_
 rintro e u' w' ⟨rfl, rfl, hw'⟩
 have h2' : act.tmps[2]?.getD undef = .pointer (some ⟨z2, 0, none⟩) := by rw [← h2]; simp
 have h3' : act.tmps[3]?.getD undef = .pointer (some ⟨z3, 0, none⟩) := by rw [← h3]; simp
 have h4' : act.tmps[4]?.getD undef = .pointer (some ⟨z4, 0, none⟩) := by rw [← h4]; simp
 have hB := hH.below hw' hH.l.lt hH.p.lt hH.e.lt
 have c0 := hB.l.cell 0
 have c1 := hB.p.cell 0
 have c2 := hB.p.cell 1
 have c3 := hB.e.cell 0
 simp only [List.getElem?_cons_zero, List.getElem?_cons_succ] at c0 c1 c2 c3
 have hfin := hR w' hw'
 simp [Leaves, settle, results, Tryz.f37, go_sem, h2', h3', h4', c0, c1, c2, c3]
 exact hfin
theorem Bx.sets {W : World} {z2 z3 z4 : Nat} {v : Value} {p q r : Int} (h : Bx W z2 z3 z4 v p q r) (h23 : z2 ≠ z3) (h24 : z2 ≠ z4) (h34 : z3 ≠ z4) (v' : Value) (x y e : Int) :
  Bx ((((W.setCell ⟨z2, 0, none⟩ v').setCell ⟨z3, 0, none⟩ (.int .i64 x)).setCell ⟨z3, 1, none⟩ (.int .i64 y)).setCell ⟨z4, 0, none⟩ (.int .i64 e)) z2 z3 z4 v' x y e :=
 ⟨(((h.l.set1 0 v').other h23 0 _).other h23 1 _).other h24 0 _, (((h.p.other (Ne.symm h23) 0 v').set1 0 (.int .i64 x)).set1 1 (.int .i64 y)).other h34 0 _, (((h.e.other (Ne.symm h24) 0 v').other (Ne.symm h34) 0 (.int .i64 x)).other (Ne.symm h34) 1 (.int .i64 y)).set1 0 (.int .i64 e)⟩
theorem wp_alt {P : Program} {c : Code} {Q : Exit → Act → World → Prop} {P0 : Exit → Act → World → Prop} {a : Act} {w : World} (h : c.wp P (Exit.then (Q .normal) P0) a w) (h2 : ∀ e a w, e ≠ .normal → P0 e a w → Q e a w) : c.wp P Q a w := by
 refine wp_mono h (fun e a w h => ?_)
 cases e
 case normal => exact h
 all_goals exact h2 _ _ _ (by simp) h
def GoneQ (w : World) (b z2 z3 z4 : Nat) (S : Src) (R : Except Nat (List De × Nat)) (e : Exit) (a : Act) (W : World) : Prop :=
 ∃ (j : Nat) (v : Value), e = .panic [flawM S j] ∧ R = .error j ∧ Bx W z2 z3 z4 v 0 0 0 ∧ Kp w W b b ∧ a.tmps.getD 2 undef = .pointer (some ⟨z2, 0, none⟩) ∧ a.tmps.getD 3 undef = .pointer (some ⟨z3, 0, none⟩) ∧ a.tmps.getD 4 undef = .pointer (some ⟨z4, 0, none⟩) ∧
  a.defers = [{ target := .fn (.func 78) #[.pointer (some ⟨z2, 0, none⟩), .pointer (some ⟨z3, 0, none⟩), .pointer (some ⟨z4, 0, none⟩)], args := #[] }]
theorem GoneQ.put {w : World} {b z2 z3 z4 : Nat} {S : Src} {R : Except Nat (List De × Nat)} {e : Exit} {a : Act} {W : World} {d : Nat} {u : Value} (hd : 5 ≤ d) (h : GoneQ w b z2 z3 z4 S R e (a.put (some d) u) W) : GoneQ w b z2 z3 z4 S R e a W := by
 obtain ⟨j, v, e1, e2, e3, e4, e5, e6, e7, e8⟩ := h
 have hg : ∀ k, k < 5 → (a.put (some d) u).tmps.getD k undef = a.tmps.getD k undef := fun k hk => by
  simp only [Act.put, Array.getD_eq_getD_getElem?, Array.getElem?_setIfInBounds]
  rw [if_neg (by omega)]
 exact ⟨j, v, e1, e2, e3, e4, (hg 2 (by decide)).symm.trans e5, (hg 3 (by decide)).symm.trans e6, (hg 4 (by decide)).symm.trans e7, e8⟩
def PP (w : World) (b : Nat) (S : Src) (R : Except Nat (List De × Nat)) (e : Ending) (w' : World) : Prop := Kp w w' b b ∧ match R with
 | .ok (l, _) => ∃ (a : Option Addr) (cap : Nat), e = .returned (.tuple #[.slice a l.length cap, .agg #[.int .i64 0, .int .i64 0], .int .i64 0]) ∧ Roomy l.length cap ∧ DesL (w.heap.size ≤ ·) w' a l
 | .error j => e = .returned (.tuple #[.slice none 0 0, .agg #[.int .i64 (nextW S.T S.en j).line, .int .i64 (nextW S.T S.en j).col], .int .i64 120])
set_option maxRecDepth 100000 in
set_option maxHeartbeats 16000000 in
theorem program_any {w : World} {b : Nat} {S : Src} (hb0 : b ≠ 0) (hN : ∀ i, 0 ≤ (S.T.getD i default).num ∧ (S.T.getD i default).num ≤ 2147483647) (h : Rw w b S 0) (hO : Ops w) (hkd : Kds w b S) {R : Except Nat (List De × Nat)} (hR : pDs S.T (S.T.length + 1) [] 0 = some R) :
  Calls Tryz.prog 37 #[.pointer (some ⟨b, 0, none⟩)] w (PP w b S R) := by
 have hmf : ∀ (fn : Fn) (first cap : Array Value) (w : World), (Instr.makeFunc fn first cap).run Tryz.prog w = .ok (.func fn first cap) w := fun _ _ _ _ => rfl
 have HR := Lib.hid hR
 have HH := Lib.hid h
 have hbw := h.lt
 clear hR
 have hz2 : Bx (((w.alloc (.cells #[.slice none 0 0] 23)).alloc (.cells #[.int .i64 0, .int .i64 0] 25)).alloc (.cells #[.int .i64 0] 26)) w.heap.size (w.heap.size + 1) (w.heap.size + 2) (.slice none 0 0) 0 0 0 := by
  refine ⟨((Blk.new w 23 [.slice none 0 0]).alloc _).alloc _, ?_, ?_⟩
  ·have := (Blk.new (w.alloc (.cells #[.slice none 0 0] 23)) 25 [.int .i64 0, .int .i64 0]).alloc (.cells #[.int .i64 0] 26)
   simpa using this
  ·have := Blk.new ((w.alloc (.cells #[.slice none 0 0] 23)).alloc (.cells #[.int .i64 0, .int .i64 0] 25)) 26 [.int .i64 0]
   simpa using this
 have hh0 := ((h.alloc (.cells #[.slice none 0 0] 23)).alloc (.cells #[.int .i64 0, .int .i64 0] 25)).alloc (.cells #[.int .i64 0] 26)
 have hk0 : Kp w (((w.alloc (.cells #[.slice none 0 0] 23)).alloc (.cells #[.int .i64 0, .int .i64 0] 25)).alloc (.cells #[.int .i64 0] 26)) b b := (((Kp.refl w b b).alloc _).alloc _).alloc _
 have hsz0 : (((w.alloc (.cells #[.slice none 0 0] 23)).alloc (.cells #[.int .i64 0, .int .i64 0] 25)).alloc (.cells #[.int .i64 0] 26)).heap.size = w.heap.size + 3 := by simp
 have HE := Lib.hid (And.intro hh0 hk0)
 have HB := Lib.hid hz2
 clear h hz2 hh0 hk0
 obtain ⟨i0, z0, hi0, hz0, hsz0', hzc0, hby0⟩ := info_el infoDe
 go_enter_defers Tryz.func37, Tryz.ntmps37
 go_wp2_with fail
 generalize ((w.alloc (.cells #[.slice none 0 0] 23)).alloc (.cells #[.int .i64 0, .int .i64 0] 25)).alloc (.cells #[.int .i64 0] 26) = W0 at *
 go_loopg [] (S.T.length + 1) (fun x wr => ∃ (g : Nat) (acc : List De) (i : Nat) (v : Value), x = g ∧ acc.length ≤ i ∧ Hid (pDs S.T g acc i = some R) ∧ Hid (Bx wr w.heap.size (w.heap.size + 1) (w.heap.size + 2) v 0 0 0) ∧ Hid (Grow elDe (w.heap.size + 3) wr v acc) ∧ Hid (Rw wr b S i ∧ Kp w wr b b) ∧ w.heap.size + 3 ≤ wr.heap.size)
 case atStart => exact ⟨_, [], 0, _, rfl, by simp, HR, HB, Lib.hid (Grow.nil _ _ _), HE, by omega⟩
 case round =>
  clear HR HB HE hsz0
  obtain ⟨g0, acc, i, v, hgk, hai, HR, HB, HG, HE, hws⟩ := hrel
  obtain ⟨g, rfl⟩ : ∃ g', g0 = g' + 1 := by
   cases g0 with
   | zero => exact absurd HR.out (by unfold pDs; simp)
   | succ g => exact ⟨g, rfl⟩
  subst hgk
  have hR := HR.out
  rw [pDs] at hR
  obtain ⟨a, cap, rfl, hcap⟩ := HG.out.form
  obtain ⟨h1, hK1⟩ := HE.out
  have c0 := h1.c0
  have c1 := h1.c1
  have hle := h1.le
  have hmx := h1.mx
  by_cases hi : i < S.T.length
  ·have hii : (i : Int) < (S.T.length : Int) := by omega
   rw [if_pos hi] at hR
   go_wp2_with fail
   go_quiet (fail)
   rename_i nq
   have h2 := h1.drewN nq
   have hK2 := hK1.drewN nq
   have hG2 := HG.out.drewN nq
   have hB2 : Bx (wr.drewN nq) w.heap.size (w.heap.size + 1) (w.heap.size + 2) (.slice a acc.length cap) 0 0 0 := ⟨HB.out.l.drewN nq, HB.out.p.drewN nq, HB.out.e.drewN nq⟩
   have hws2 : w.heap.size + 3 ≤ (wr.drewN nq).heap.size := hws
   clear c0 c1 h1 hK1 HG HB HE hws
   generalize wr.drewN nq = V at *
   go_wp2_with fail
   refine wp_alt (P0 := GoneQ w b w.heap.size (w.heap.size + 1) (w.heap.size + 2) S R) ?_ ?_
   rotate_left
   ·rintro e a' w' - ⟨j, v', rfl, rfl, hB, hK, t2, t3, t4, td⟩
    show bodyPostD Tryz.prog Tryz.f37 (PP w b S (.error j)) (.panic [flawM S j]) a' w'
    exact prog_gone hB hK (Nat.le_refl _) (by omega) (by omega) t2 t3 t4 td (fun W' hk => ⟨hk, rfl⟩)
   have hl0 : Blk V.drew w.heap.size 23 [.slice a acc.length cap] := hB2.l
   refine wp_region_x [5] (fun W => Blk W w.heap.size 23 [.slice a acc.length cap]) rfl ?_
   refine wpX_take 0 (v := ?v0) rfl (by kernel_rfl) (by kernel_rfl) (by kernel_rfl) (by kernel_rfl) (fun _ _ _ h => GoneQ.put (by decide) h) hl0 (Or.inl ⟨by kernel_rfl, ?h0⟩) ?_
   case h0 => (intro W1 hS1; have s0 := hS1.cell 0; go_simp; with_reducible rfl)
   refine wpX_take 1 (v := ?v1) rfl (by kernel_rfl) (by kernel_rfl) (by kernel_rfl) (by kernel_rfl) (fun _ _ _ h => GoneQ.put (by decide) h) hl0 (Or.inl ⟨by kernel_rfl, ?h1⟩) ?_
   case h1 => (intro W1 hS1; go_simp; with_reducible rfl)
   refine wpX_one 2 (by kernel_rfl) rfl (fun K hK => ?_)
   go_simp
   have h3 : Rw V.drew b S i := h2.drewN 1
   have hK3 : Kp w V.drew b b := hK2.drew
   have hO3 := hO.kp hK3 hb0
   have hkd3 := hkd.kp hK3 (Nat.le_refl _)
   have hb2 : w.heap.size ≠ b := by omega
   have hb3 : w.heap.size + 1 ≠ b := by omega
   have hb4 : w.heap.size + 2 ≠ b := by omega
   have hB3 : Bx V.drew w.heap.size (w.heap.size + 1) (w.heap.size + 2) (.slice a acc.length cap) 0 0 0 := ⟨hB2.l, hB2.p, hB2.e⟩
   rcases hx : pD S.T i with _ | (j | ⟨d, j⟩)
   ·rw [hx] at hR
    cases hR
   ·rw [hx] at hR
    cases hR
    refine (decl_any hb0 hN h3 hO3 hkd3 hx).mono ?_
    rintro e W5 ⟨hk5, rfl⟩
    exact ⟨j, _, rfl, rfl, hB3.kp hk5 hb2 hb3 hb4, hK3.trans hk5, rfl, rfl, rfl, rfl⟩
   ·rw [hx, andT_ok] at hR
    refine (decl_any hb0 hN h3 hO3 hkd3 hx).mono ?_
    rintro e W5 ⟨hk5, ⟨cs, rfl, hL⟩, h5⟩
    have hB5 := hB3.kp hk5 hb2 hb3 hb4
    refine hK _ _ (fun _ => hB5.l) ?_
    clear hK K
    have hadv := pD_adv S.T hle hx
    have hl := hL.cells.1
    have hsz : V.drew.heap.size = V.heap.size := rfl
    have hs5 := hk5.size
    rw [hsz] at hs5
    have hG5 : Grow elDe (w.heap.size + 3) W5 (.slice a acc.length cap) acc := (hG2.drewN 1).kp hk5 (by omega) (by omega)
    have hbk : (Value.slice a acc.length cap).ownBlock = none ∨ ∃ g, (Value.slice a acc.length cap).ownBlock = some g ∧ g < V.heap.size := by
     obtain ⟨cells, -, h6, -⟩ := hG2.own
     rcases ho : (Value.slice a acc.length cap).ownBlock with _ | g
     ·exact .inl rfl
     ·exact .inr ⟨g, rfl, (h6.lt g ho).2⟩
    have HL := Lib.hid (show elDe.L (fun c => w.heap.size + 3 ≤ c ∧ (Value.slice a acc.length cap).ownBlock ≠ some c) W5 cs d from DeL.weak (fun c hc => by
     have hc2 : V.drew.heap.size ≤ c := hc
     rw [hsz] at hc2
     refine ⟨by omega, fun e => ?_⟩
     rcases hbk with h6 | ⟨g, h6, h7⟩
     ·rw [h6] at e
      cases e
     ·rw [h6] at e
      cases e
      omega) hL)
    have HG := Lib.hid hG5
    have hst := fold_cells #[.int .i64 0, .int .i64 0, .int .i64 0, .string ⟨#[]⟩, .int .i64 0, .slice none 0 0] cs (by rw [hl]; rfl)
    refine wpX_one 3 (by kernel_rfl) rfl (fun K hK => ?_)
    go_simp
    refine hK _ _ (fun _ => hB5.l.alloc _) ?_
    clear hK K
    have ht23 : Tryz.prog.underlying 23 = some (.slice 55) := by kernel_rfl
    have hacc : acc.length ≤ 10000000 := by omega
    have hwB : w.heap.size + 3 ≤ W5.heap.size := by omega
    refine wpX_one 4 (by kernel_rfl) rfl (fun K hK => ?_)
    refine step_append_grow elDe rfl (.tmp 18) (.tmp 21) 23 rfl i0 z0 _ ht23 hi0 hz0 hsz0' rfl hzc0 (by decide) hby0 (w.heap.size + 3) W5 _ (.slice a acc.length cap) acc rfl HG cs d HL rfl rfl hacc hwB ?_
    intro gb gcap W6 hG6 hW6 hlt6
    have hb6 : Below (w.heap.size + 3) W5 W6 := hW6.out
    have hB6 := hB5.below hb6 (by omega) (by omega) (by omega)
    refine hK _ _ (fun _ => hB6.l) ?_
    clear hK K
    refine wpX_one 5 (by kernel_rfl) rfl (fun K hK => ?_)
    have s0 := hB6.l.cell 0
    have s1 := hB6.l.frozen 0
    go_simp
    refine hK _ _ (fun h => absurd h (by decide)) ?_
    clear hK K
    refine wpX_done (by kernel_rfl) ?_ _
    go_simp
    have hK6 := (hK3.trans hk5).to hb6 (by omega)
    have h6 := HH.out.fin h5 hK6 (hb6.block b (by omega))
    have hB7 : Bx (W6.setCell ⟨w.heap.size, 0, none⟩ (.slice (some ⟨gb, 0, none⟩) (acc.length + 1) gcap)) w.heap.size (w.heap.size + 1) (w.heap.size + 2) (.slice (some ⟨gb, 0, none⟩) (acc.length + 1) gcap) 0 0 0 := ⟨hB6.l.set1 0 _, hB6.p.other (by omega) 0 _, hB6.e.other (by omega) 0 _⟩
    have hG7 : Grow elDe (w.heap.size + 3) (W6.setCell ⟨w.heap.size, 0, none⟩ (.slice (some ⟨gb, 0, none⟩) (acc.length + 1) gcap)) (.slice (some ⟨gb, 0, none⟩) (acc.length + 1) gcap) (acc ++ [d]) := hG6.out.keep (fun c hc hcB => Below.heap_setCell _ ⟨w.heap.size, 0, none⟩ _ c (show c ≠ w.heap.size by omega)) (by simp [World.setCell])
    have hK7 := hK6.setNew (r := w.heap.size) (Nat.le_refl _) 0 (.slice (some ⟨gb, 0, none⟩) (acc.length + 1) gcap)
    have h7 := rw_new HH.out hK6 h6 (Nat.le_refl _) hb2 0 (.slice (some ⟨gb, 0, none⟩) (acc.length + 1) gcap)
    have HR7 := Lib.hid hR
    have hs7 : (W6.setCell ⟨w.heap.size, 0, none⟩ (.slice (some ⟨gb, 0, none⟩) (acc.length + 1) gcap)).heap.size = W6.heap.size := by simp [World.setCell]
    rename_i ha
    refine ha _ _ ?_
    go_wp2_with fail
    go_roundg g
    case measure => omega
    case rel => exact ⟨g, acc ++ [d], j, _, rfl, by simp; omega, HR7, Lib.hid hB7, Lib.hid hG7, Lib.hid ⟨h7, hK7⟩, by rw [hs7]; omega⟩
  ·have hii : ¬ (i : Int) < (S.T.length : Int) := by omega
   rw [if_neg hi] at hR
   cases hR
   go_wp2_with fail
   go_quiet (fail)
   rename_i nq
   have h2 := h1.drewN nq
   have hK2 := hK1.drewN nq
   have hG2 := HG.out.drewN nq
   have hB2 : Bx (wr.drewN nq) w.heap.size (w.heap.size + 1) (w.heap.size + 2) (.slice a acc.length cap) 0 0 0 := ⟨HB.out.l.drewN nq, HB.out.p.drewN nq, HB.out.e.drewN nq⟩
   clear c0 c1 h1 hK1 HG HB HE hws
   generalize wr.drewN nq = V at *
   have l0 := hB2.l.cell 0
   have l1 := hB2.l.frozen 0
   have p0 := hB2.p.cell 0
   have p1 := hB2.p.cell 1
   have p2 := hB2.p.frozen 0
   have p3 := hB2.p.frozen 1
   have e0 := hB2.e.cell 0
   have e1 := hB2.e.frozen 0
   go_wp2_with fail
   have hKV := (((hK2.setNew (r := w.heap.size) (Nat.le_refl _) 0 (.slice a acc.length cap)).setNew (r := w.heap.size + 1) (by omega) 0 (.int .i64 0)).setNew (r := w.heap.size + 1) (by omega) 1 (.int .i64 0)).setNew (r := w.heap.size + 2) (by omega) 0 (.int .i64 0)
   have hGV : Grow elDe (w.heap.size + 3) ((((V.setCell ⟨w.heap.size, 0, none⟩ (.slice a acc.length cap)).setCell ⟨w.heap.size + 1, 0, none⟩ (.int .i64 0)).setCell ⟨w.heap.size + 1, 1, none⟩ (.int .i64 0)).setCell ⟨w.heap.size + 2, 0, none⟩ (.int .i64 0)) (.slice a acc.length cap) acc := hG2.keep (fun c hc hcB => by
    rw [Below.heap_setCell _ ⟨w.heap.size + 2, 0, none⟩ _ c (show c ≠ w.heap.size + 2 by omega), Below.heap_setCell _ ⟨w.heap.size + 1, 1, none⟩ _ c (show c ≠ w.heap.size + 1 by omega), Below.heap_setCell _ ⟨w.heap.size + 1, 0, none⟩ _ c (show c ≠ w.heap.size + 1 by omega), Below.heap_setCell _ ⟨w.heap.size, 0, none⟩ _ c (show c ≠ w.heap.size by omega)]) (by simp [World.setCell])
   refine prog_done (hB2.sets (by omega) (by omega) (by omega) _ 0 0 0) rfl rfl rfl rfl (fun W' hb => ⟨hKV.trans (kp_same hb), a, cap, rfl, hcap, ?_⟩)
   have hD := (hGV.below hb).des
   exact hD.weak (fun c hc => by have : w.heap.size + 3 ≤ c := hc; omega)
end Go.Proofs.YtjmlmelcppbefaaGreatDoor
