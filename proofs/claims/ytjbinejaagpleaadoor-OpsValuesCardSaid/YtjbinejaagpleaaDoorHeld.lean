/- What is held while a writer writes; a string is appended to a row of bytes. -/
import Derived.Test.YtjbinejaagpleaaDoorWr2
import Derived.Test.YtjbinejaagpleaaDoorThr
import Derived.Lib.AppendStr
import Derived.Room.AppendFits
namespace Go.Proofs.YtjbinejaagpleaaDoor
open Go.RowKit

/-- These blocks hold these. -/
def Held (W : World) (l : List (Nat × Obj)) : Prop := ∀ x ∈ l, W.heap[x.1]? = some x.2
def notW : Obj → Bool
  | .cells _ t _ => t != 5 && t != 56
  | _ => true
theorem row_obj {W : World} {base : Nat} {v : Value} {n : Nat} {xs : List Value} {r : Nat} (h : W.ownsRow base 5 1 v n xs) (hr : v.ownBlock = some r) : ∃ cs, W.heap[r]? = some (.cells cs 5 (0, 0)) := by
  rcases h.2 with ⟨rfl, _⟩ | ⟨g, cap, cur, rfl, _, hg, _⟩
  · cases hr
  · have : g = r := by simpa [Value.ownBlock] using hr
    subst this
    exact ⟨_, hg⟩
theorem Held.lt {W : World} {l : List (Nat × Obj)} (h : Held W l) {x : Nat × Obj} (hx : x ∈ l) : x.1 < W.heap.size := (Array.getElem?_eq_some_iff.1 (h x hx)).1
theorem Held.wk {W W' : World} {l : List (Nat × Obj)} {b base : Nat} {v v' : Value} {xs : List Nat} (h : Held W l) (hn : l.all (fun x => notW x.2) = true) (hw : Wr W b base v xs) (hk : WK W W' b v v') : Held W' l := by
  intro x hx
  have h1 := h x hx
  have h2 := List.all_eq_true.1 hn x hx
  refine (hk.block x.1 (h.lt hx) (fun e => ?_) (fun e => ?_)).trans h1
  · rw [e, show W.heap[b]? = _ from hw.bx] at h1
    rw [← Option.some.inj h1] at h2
    cases h2
  · obtain ⟨cs, hc⟩ := row_obj hw.ow e.symm
    rw [hc] at h1
    rw [← Option.some.inj h1] at h2
    cases h2
theorem Held.below {W W' : World} {l : List (Nat × Obj)} (h : Held W l) (hb : Below W.heap.size W W') : Held W' l := fun x hx => (hb.block x.1 (h.lt hx)).trans (h x hx)
theorem Held.add {W : World} {l : List (Nat × Obj)} (h : Held W l) (cs : Array Value) (t : TypeId) : Held (W.alloc (.cells cs t)) (l ++ [(W.heap.size, .cells cs t (0, 0))]) := by
  intro x hx
  rcases List.mem_append.1 hx with hx | hx
  · exact (Below.heap_alloc W _ _ (h.lt hx)).trans (h x hx)
  · obtain rfl : x = _ := by simpa using hx
    exact World.alloc_heap_new _ _
theorem Held.grown {W W' : World} {l : List (Nat × Obj)} {row : Option Nat} (h : Held W l) (hg : W.grownBy W' row) (hr : ∀ r, row = some r → ∀ x ∈ l, x.1 ≠ r) : Held W' l := fun x hx =>
  (hg.block x.1 (h.lt hx) (fun e => hr x.1 e.symm x hx rfl)).trans (h x hx)
theorem WK.new {w W W' : World} {b base : Nat} {v v' : Value} (h : WK w W b v v') (hb : Below base W W') (hB : w.heap.size ≤ base) : WK w W' b v v' :=
  ⟨hb.os.trans h.os, hb.tape.trans h.tape, hb.output.trans h.output, Nat.le_trans h.size hb.size, fun k hk h1 h2 => (hb.block k (by omega)).trans (h.block k hk h1 h2), h.row⟩
theorem Wr.below {W W' : World} {b base : Nat} {v : Value} {xs : List Nat} (h : Wr W b base v xs) (hb : Below W.heap.size W W') : Wr W' b base v xs :=
  ⟨(hb.block b h.bx.lt).trans h.bx, ownsRow_blw h.ow hb, Nat.le_trans h.bs hb.size⟩
/-- A cell of block p (neither the writer's nor its row's) is written. -/
theorem Wr.other {W : World} {b base p j : Nat} {v u : Value} {xs : List Nat} (h : Wr W b base v xs) (h1 : p ≠ b) (h2 : some p ≠ v.ownBlock) : Wr (W.setCell ⟨p, j, none⟩ u) b base v xs := by
  refine ⟨(Below.heap_setCell W ⟨p, j, none⟩ u b (Ne.symm h1)).trans h.bx, h.ow.kept (row := some p) ⟨rfl, rfl, rfl, by simp [World.setCell], fun k _ hk => Below.heap_setCell W ⟨p, j, none⟩ u k (fun e => hk (by rw [e]))⟩ (.inr (Ne.symm h2)), ?_⟩
  have := h.bs
  simpa [World.setCell] using this
theorem Held.ne {W : World} {l : List (Nat × Obj)} {b base : Nat} {v : Value} {xs : List Nat} (h : Held W l) (hn : l.all (fun x => notW x.2) = true) (hw : Wr W b base v xs) {x : Nat × Obj} (hx : x ∈ l) : x.1 ≠ b ∧ some x.1 ≠ v.ownBlock := by
  have h1 := h x hx
  have h2 := List.all_eq_true.1 hn x hx
  refine ⟨fun e => ?_, fun e => ?_⟩
  · rw [e, show W.heap[b]? = _ from hw.bx] at h1
    rw [← Option.some.inj h1] at h2
    cases h2
  · obtain ⟨cs, hc⟩ := row_obj hw.ow e.symm
    rw [hc] at h1
    rw [← Option.some.inj h1] at h2
    cases h2
theorem Held.cell {W : World} {l : List (Nat × Obj)} (h : Held W l) (i : Nat) {k p : Nat} {cs : Array Value} {t : TypeId} {v : Value} (hi : l[i]? = some (p, .cells cs t (0, 0))) (hk : cs[k]? = some v) : W.cell? ⟨p, k, none⟩ = some v :=
  cell_blk (h _ (List.mem_of_getElem? hi)) hk
theorem Held.froz {W : World} {l : List (Nat × Obj)} (h : Held W l) (i : Nat) {k p : Nat} {cs : Array Value} {t : TypeId} (hi : l[i]? = some (p, .cells cs t (0, 0))) : W.frozen? ⟨p, k, none⟩ = false :=
  froz_blk (h _ (List.mem_of_getElem? hi))
/-- What is shown of a region that ends normally serves whatever else is asked. -/
theorem wp_calmly {P : Program} {c : Code} {K : Act → World → Prop} {Q : Exit → Act → World → Prop} {a : Act} {w : World} (h : c.wp P (Exit.then K (fun _ _ _ => False)) a w) : c.wp P (Exit.then K Q) a w := by
  refine wp_mono h (fun e a w h => ?_)
  cases e <;> first | exact h | exact h.elim
theorem nats_cells (s : ByteArray) : Lib.strCells s = u8s (s.data.toList.map UInt8.toNat) := by
  simp [Lib.strCells, u8s]

theorem run_str_lies (w : World) (ty base : Nat) (v : Value) (n : Nat) (xs : List Value) (hown : w.ownsRow base 5 1 v n xs) (hn : 0 < n) (s : ByteArray) (hs : n + s.size ≤ 10000000000000) (hbase : base ≤ w.heap.size) (i : TypeInfo) (hi : Tryd.prog.info? 5 = some i)
    (hz : i.zero = some (.int .u8 0)) (hsize : i.size = 1) (hby : i.bytes = 1) :
    ∃ g cap w', (Builtin.append_ #[28, 9] ty #[v, .string s]).run Tryd.prog w = .ok (.slice (some ⟨g, 0, none⟩) (n + s.size) cap) w' ∧ w'.ownsRow base 5 1 (.slice (some ⟨g, 0, none⟩) (n + s.size) cap) (n + s.size) (xs ++ Lib.strCells s) ∧
      w.grownBy w' v.ownBlock ∧ (v.ownBlock = some g ∨ g = w.heap.size) := by
  obtain ⟨v', w', hr, h2, h3, _⟩ := Lib.run_append_own_string (P := Tryd.prog) w base 28 9 ty 5 i Tryd.underlying28 Tryd.underlying9 hi hz hsize hby v n xs hown s (by unfold maxLen; omega) (by omega) hbase
  obtain ⟨g0, cap0, rfl, _, _⟩ := hown.form hn
  obtain ⟨g, cap, rfl, _, _⟩ := h2.form (by omega)
  refine ⟨g, cap, w', hr, h2, h3, ?_⟩
  by_cases hroom : n + s.size ≤ cap0
  · obtain ⟨w2, hr2, _, _⟩ := Lib.run_append_fits_string (P := Tryd.prog) w base 28 9 ty 5 i Tryd.underlying28 Tryd.underlying9 hi hsize _ n cap0 xs hown s (by omega) hroom
    rw [hr] at hr2
    simp only [Result.ok.injEq, Value.slice.injEq, Option.some.injEq, Addr.mk.injEq] at hr2
    left
    rw [hr2.1.1.1]
    rfl
  · have hxl : xs.length = n := by simpa using hown.1
    have hcap : cap0 ≤ 140737488355328 ∨ 140737488355328 < cap0 := by omega
    have hr2 := Lib.run_append_grow_string (P := Tryd.prog) w 28 9 ty 5 i (.int .u8 0) Tryd.underlying28 Tryd.underlying9 hi hz ⟨g0, 0, none⟩ n cap0 xs (by rw [hsize]; omega) (hown.cells (g := g0) rfl) s (by omega) (by omega) (by rw [hby]; exact growslice_fits (by omega) (by omega))
    rw [hr] at hr2
    simp only [Result.ok.injEq, Value.slice.injEq, Option.some.injEq, Addr.mk.injEq] at hr2
    right
    exact hr2.1.1.1
/-- At the operation. -/
theorem wp_str_lies {ops : Array Oper} {o : Oper} {a : Act} {K : Act → World → Prop} {Q : Exit → Act → World → Prop} (w : World) (s x : Operand)
    (ho : o.op = .call { callee := .builtin .append, args := #[s, x], argTypes := #[28, 9] }) (base : Nat) (v : Value) (n : Nat) (xs : List Value) (hs : a.eval s = v) (hown : w.ownsRow base 5 1 v n xs) (hn : 0 < n)
    (t : ByteArray) (hx : a.eval x = .string t) (hl : n + t.size ≤ 10000000000000) (hbase : base ≤ w.heap.size)
    (hw : Region.wanted o (yielded ops a.tmps) = true)
    (h : ∀ g cap w', w'.ownsRow base 5 1 (.slice (some ⟨g, 0, none⟩) (n + t.size) cap) (n + t.size) (xs ++ Lib.strCells t) → w.grownBy w' v.ownBlock → (v.ownBlock = some g ∨ g = w.heap.size) → K (a.put o.dst (.slice (some ⟨g, 0, none⟩) (n + t.size) cap)) w') :
    if Region.wanted o (yielded ops a.tmps) then o.wp Tryd.prog a w K Q else K (a.put o.dst undef) w := by
  obtain ⟨i0, hi0, hz0, hz1, hz2⟩ := info_parts info5
  obtain ⟨g, cap, w', hr, h2, h3, h4⟩ := run_str_lies w o.type base v n xs hown hn t hl hbase i0 hi0 hz0 hz1 hz2
  rw [if_pos hw]
  unfold Oper.wp execOp
  simp only [ho, resolve, invoke, builtin, Sem.run_bind, Sem.run_pure, Result.andThen_ok, List.map_toArray, List.map_cons, List.map_nil, hs, hx, hr]
  exact h g cap w' h2 h3 h4
/-- .. of one byte, behind its literal. -/
theorem wp_put_lies {ops : Array Oper} {o : Oper} {a : Act} {K : Act → World → Prop} {Q : Exit → Act → World → Prop} (w : World) (s x : Operand)
    (ho : o.op = .call { callee := .builtin .append, args := #[s, x], argTypes := #[28, 28] }) (base : Nat) (v : Value) (n : Nat) (xs : List Value) (hs : a.eval s = v) (hown : w.ownsRow base 5 1 v n xs)
    (ad : Addr) (c : Nat) (z : Int) (hx : a.eval x = .slice (some ad) 1 c) (hc : w.cell? ad = some (.int .u8 z)) (hl : n + 1 ≤ 10000000000000) (hbase : base ≤ w.heap.size)
    (hw : Region.wanted o (yielded ops a.tmps) = true)
    (h : ∀ g cap w', w'.ownsRow base 5 1 (.slice (some ⟨g, 0, none⟩) (n + 1) cap) (n + 1) (xs ++ [.int .u8 z]) → w.grownBy w' v.ownBlock → (v.ownBlock = some g ∨ g = w.heap.size) → K (a.put o.dst (.slice (some ⟨g, 0, none⟩) (n + 1) cap)) w') :
    if Region.wanted o (yielded ops a.tmps) then o.wp Tryd.prog a w K Q else K (a.put o.dst undef) w := by
  obtain ⟨i0, hi0, hz0, hz1, hz2⟩ := info_parts info5
  rw [if_pos hw]
  refine wp_append_lies w s x 28 ho base 5 i0 (.int .u8 0) 1 1 Tryd.underlying28 hi0 hz0 hz1 hz2 rfl (by decide) v n xs hs hown ad 1 c [.int .u8 z] hx rfl (fun j u hu => ?_) (by simp [Value.oneCell']) (by decide) (by unfold maxLen; omega) (by omega) hbase w.heap.size rfl (fun g cap w' h2 h3 h4 _ => h g cap w' h2 h3 h4)
  match j, hu with
  | 0, hu =>
    simp at hu
    subst hu
    have : ad.add 0 = ad := by cases ad with | mk a b c => cases c <;> simp [Addr.add]
    rw [this]
    exact hc
/-- The row has grown by a string's bytes, and is laid in the box. -/
theorem Wr.putS {W w1 : World} {b base g cap m : Nat} {v : Value} {xs ys : List Nat} (h : Wr W b base v xs) (hown : w1.ownsRow base 5 1 (.slice (some ⟨g, 0, none⟩) m cap) m (u8s (xs ++ ys))) (hm : m = (xs ++ ys).length)
    (hgrow : W.grownBy w1 v.ownBlock) (hl : v.ownBlock = some g ∨ g = W.heap.size) :
    Boxed w1 b 56 v ∧ Wr (w1.setCell ⟨b, 0, none⟩ (.slice (some ⟨g, 0, none⟩) m cap)) b base (.slice (some ⟨g, 0, none⟩) m cap) (xs ++ ys) ∧
      WK W (w1.setCell ⟨b, 0, none⟩ (.slice (some ⟨g, 0, none⟩) m cap)) b v (.slice (some ⟨g, 0, none⟩) m cap) := by
  have hne := h.bx.not_row (by decide) h.ow
  have hv1 : Boxed w1 b 56 v := h.bx.kept hgrow hne
  have hne2 := hv1.not_row (by decide) hown
  have hg := grownBy_setCell' w1 b (.slice (some ⟨g, 0, none⟩) m cap)
  have hsz := hgrow.size
  subst hm
  refine ⟨hv1, ⟨hv1.set _, ?_, ?_⟩, ⟨hgrow.os, hgrow.tape, hgrow.output, ?_, fun k hk h1 h2 => ?_, ?_⟩⟩
  · exact hown.kept hg (.inr hne2.symm)
  · have := h.bs
    have := hg.size
    omega
  · have := hg.size
    omega
  · exact (Below.heap_setCell w1 ⟨b, 0, none⟩ _ k h1).trans (hgrow.block k hk h2)
  · rcases hl with hl | hl
    · exact .inl hl.symm
    · exact .inr ⟨g, rfl, by omega⟩
theorem WK.others {W W' : World} {b base : Nat} {v v' : Value} {xs : List Nat} (hk : WK W W' b v v') (hw : Wr W b base v xs) : KeepsOthers W W' := by
  refine ⟨hk.size, fun k o hk0 ho => ?_⟩
  refine (hk.block k (Array.getElem?_eq_some_iff.1 hk0).1 (fun e => ?_) (fun e => ?_)).trans hk0
  · rw [e, show W.heap[b]? = _ from hw.bx] at hk0
    rw [← Option.some.inj hk0] at ho
    cases ho
  · obtain ⟨cs, hc⟩ := row_obj hw.ow e.symm
    rw [hc] at hk0
    rw [← Option.some.inj hk0] at ho
    cases ho
/-- What is known while a thread's code is written. -/
structure Ts (w W : World) (b base : Nat) (v u : Value) (ys : List Nat) (l : List (Nat × Obj)) : Prop where
  wr : Wr W b base u ys
  wk : WK w W b v u
  hl : Held W l
  tb : TabC W
theorem Ts.go {w W W' : World} {b base : Nat} {v u u' : Value} {ys ys' : List Nat} {l : List (Nat × Obj)} (h : Ts w W b base v u ys l) (hn : l.all (fun x => notW x.2) = true) (hb : base ≤ b) (h0 : 0 < base)
    (hw : Wr W' b base u' ys') (hk : WK W W' b u u') : Ts w W' b base v u' ys' l := ⟨hw, h.wk.trans hk, h.hl.wk hn h.wr hk, h.tb.below (hk.below h.wr hb) h0⟩
theorem Ts.below {w W W' : World} {b base : Nat} {v u : Value} {ys : List Nat} {l : List (Nat × Obj)} (h : Ts w W b base v u ys l) (hb : Below W.heap.size W W') : Ts w W' b base v u ys l :=
  ⟨h.wr.below hb, h.wk.new hb h.wk.size, h.hl.below hb, h.tb.below hb h.tb.1⟩
theorem Ts.add {w W : World} {b base : Nat} {v u : Value} {ys : List Nat} {l : List (Nat × Obj)} (h : Ts w W b base v u ys l) (cs : Array Value) (t : TypeId) : Ts w (W.alloc (.cells cs t)) b base v u ys (l ++ [(W.heap.size, .cells cs t (0, 0))]) :=
  have hb : Below W.heap.size W (W.alloc (.cells cs t)) := (Below.refl _ W).alloc (Nat.le_refl _) _
  ⟨h.wr.below hb, h.wk.new hb h.wk.size, h.hl.add cs t, h.tb.below hb h.tb.1⟩
theorem Ts.cA {w W : World} {b base : Nat} {v u : Value} {ys : List Nat} {l : List (Nat × Obj)} (h : Ts w W b base v u ys l) (i : Nat) {k p : Nat} {cs : Array Value} {t : TypeId} {x : Value} (hi : l[i]? = some (p, .cells cs t (0, 0))) (hk : cs[k]? = some x) : W.cell? ⟨p, k, none⟩ = some x := h.hl.cell i hi hk
theorem Ts.base_le {w W : World} {b base : Nat} {v u : Value} {ys : List Nat} {l : List (Nat × Obj)} (h : Ts w W b base v u ys l) {xs : List Nat} (hw : Wr w b base v xs) (hb : base ≤ b) : Below base w W := h.wk.below hw hb
theorem Ts.own {w W W' : World} {b base : Nat} {v u : Value} {ys : List Nat} {l : List (Nat × Obj)} {row : Option Nat} (h : Ts w W b base v u ys l) (h0 : 0 < w.heap.size) (hl : ∀ x ∈ l, x.2.isCells = true) (hg : W.grownBy W' row)
    (hr : ∀ r, row = some r → w.heap.size ≤ r ∧ ∃ o : Obj, W.heap[r]? = some o ∧ o.isCells = false) : Ts w W' b base v u ys l := by
  have hb : some b ≠ row := fun e => by
    obtain ⟨_, o, ho, hc⟩ := hr b e.symm
    rw [show W.heap[b]? = _ from h.wr.bx] at ho
    rw [← Option.some.inj ho] at hc
    cases hc
  have hv : ∀ r, u.ownBlock = some r → some r ≠ row := fun r hr0 e => by
    obtain ⟨_, o, ho, hc⟩ := hr r e.symm
    obtain ⟨cs, h2⟩ := row_obj h.wr.ow hr0
    rw [h2] at ho
    rw [← Option.some.inj ho] at hc
    cases hc
  have hz : some 0 ≠ row := fun e => by
    have := (hr 0 e.symm).1
    omega
  refine ⟨⟨h.wr.bx.kept hg hb, h.wr.ow.kept hg ?_, Nat.le_trans h.wr.bs hg.size⟩, ⟨hg.os.trans h.wk.os, hg.tape.trans h.wk.tape, hg.output.trans h.wk.output, Nat.le_trans h.wk.size hg.size, fun k hk h1 h2 => ?_, h.wk.row⟩, fun x hx => ?_, ?_⟩
  · cases hu : u.ownBlock with
    | none => exact .inl rfl
    | some r => exact .inr (hv r hu)
  · refine (hg.block k (Nat.lt_of_lt_of_le hk h.wk.size) (fun e => ?_)).trans (h.wk.block k hk h1 h2)
    have := (hr k e.symm).1
    omega
  · refine (hg.block x.1 (h.hl.lt hx) (fun e => ?_)).trans (h.hl x hx)
    obtain ⟨_, o, ho, hc⟩ := hr x.1 e.symm
    rw [h.hl x hx] at ho
    rw [← Option.some.inj ho, hl x hx] at hc
    cases hc
  · have he := hg.block 0 h.tb.1 hz
    have hc : ∀ o, W'.cell? ⟨0, o, none⟩ = W.cell? ⟨0, o, none⟩ := fun o => by simp [World.cell?, he]
    exact ⟨Nat.lt_of_lt_of_le h.tb.1 hg.size, fun c hcc => ⟨(hc _).trans (h.tb.2 c hcc).1, (hc _).trans (h.tb.2 c hcc).2⟩⟩
/-- .. and between the rounds of its loop: block p is not the row's. -/
structure Rs (w W : World) (p b base : Nat) (v u : Value) (ys : List Nat) (l : List (Nat × Obj)) : Prop where
  ts : Ts w W b base v u ys l
  nr : ∀ r, u.ownBlock = some r → r ≠ p
  sz : p < W.heap.size
theorem Rs.go {w W W' : World} {p b base : Nat} {v u u' : Value} {ys ys' : List Nat} {l : List (Nat × Obj)} (h : Rs w W p b base v u ys l) (hn : l.all (fun x => notW x.2) = true) (hb : base ≤ b) (h0 : 0 < base)
    (hw : Wr W' b base u' ys') (hk : WK W W' b u u') : Rs w W' p b base v u' ys' l := by
  refine ⟨h.ts.go hn hb h0 hw hk, fun r hr => ?_, Nat.lt_of_lt_of_le h.sz hk.size⟩
  rcases hk.row with h1 | ⟨r', h1, h2⟩
  · exact h.nr r (by rw [← h1, hr])
  · rw [hr] at h1
    have := Option.some.inj h1
    have := h.sz
    omega
theorem Rs.below {w W W' : World} {p b base : Nat} {v u : Value} {ys : List Nat} {l : List (Nat × Obj)} (h : Rs w W p b base v u ys l) (hb : Below W.heap.size W W') : Rs w W' p b base v u ys l := ⟨h.ts.below hb, h.nr, Nat.lt_of_lt_of_le h.sz hb.size⟩
theorem Rs.add {w W : World} {p b base : Nat} {v u : Value} {ys : List Nat} {l : List (Nat × Obj)} (h : Rs w W p b base v u ys l) (cs : Array Value) (t : TypeId) : Rs w (W.alloc (.cells cs t)) p b base v u ys (l ++ [(W.heap.size, .cells cs t (0, 0))]) :=
  ⟨h.ts.add cs t, h.nr, by have := h.sz; simp; omega⟩
theorem Rs.own {w W W' : World} {p b base : Nat} {v u : Value} {ys : List Nat} {l : List (Nat × Obj)} {row : Option Nat} (h : Rs w W p b base v u ys l) (h0 : 0 < w.heap.size) (hl : ∀ x ∈ l, x.2.isCells = true) (hg : W.grownBy W' row)
    (hr : ∀ r, row = some r → w.heap.size ≤ r ∧ ∃ o : Obj, W.heap[r]? = some o ∧ o.isCells = false) : Rs w W' p b base v u ys l := ⟨h.ts.own h0 hl hg hr, h.nr, Nat.lt_of_lt_of_le h.sz hg.size⟩
theorem Rs.kp {w W W' : World} {p b base : Nat} {v u : Value} {ys : List Nat} {l : List (Nat × Obj)} (h : Rs w W p b base v u ys l) (hpb : p ≠ b) (hp0 : p ≠ 0) (hpw : w.heap.size ≤ p) (hl : ∀ x ∈ l, x.1 ≠ p) (hk : Kp W W' p p) : Rs w W' p b base v u ys l := by
  have hg : W.grownBy W' (some p) := ⟨hk.os, hk.tape, hk.output, hk.size, fun k hk0 hne => hk.block k hk0 (fun e => hne (by rw [e])) (fun e => hne (by rw [e]))⟩
  refine ⟨⟨⟨h.ts.wr.bx.kept hg (fun e => hpb (Option.some.inj e).symm), h.ts.wr.ow.kept hg ?_, Nat.le_trans h.ts.wr.bs hg.size⟩, ⟨hg.os.trans h.ts.wk.os, hg.tape.trans h.ts.wk.tape, hg.output.trans h.ts.wk.output, Nat.le_trans h.ts.wk.size hg.size, fun k hk h1 h2 => ?_, h.ts.wk.row⟩, fun x hx => ?_, ?_⟩, h.nr, Nat.lt_of_lt_of_le h.sz hg.size⟩
  · cases hu : u.ownBlock with
    | none => exact .inl rfl
    | some r => exact .inr (fun e => h.nr r hu (Option.some.inj e))
  · exact (hg.block k (Nat.lt_of_lt_of_le hk h.ts.wk.size) (fun e => by have := Option.some.inj e; omega)).trans (h.ts.wk.block k hk h1 h2)
  · exact (hg.block x.1 (h.ts.hl.lt hx) (fun e => hl x hx (Option.some.inj e))).trans (h.ts.hl x hx)
  · exact h.ts.tb.kp hk hp0 hp0
theorem u8s_append (xs ys : List Nat) : u8s (xs ++ ys) = u8s xs ++ u8s ys := by simp [u8s]
def natsB (s : ByteArray) : List Nat := s.data.toList.map UInt8.toNat
theorem natsB_len (s : ByteArray) : (natsB s).length = s.size := by
  unfold natsB
  rw [List.length_map, Array.length_toList]
  rfl
end Go.Proofs.YtjbinejaagpleaaDoor
