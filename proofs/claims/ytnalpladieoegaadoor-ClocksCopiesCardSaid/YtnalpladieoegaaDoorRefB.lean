/- The document's watch in a box, how a function ends that returns one, and how one is made. -/
import Derived.Test.YtnalpladieoegaaDoorRefA
namespace Go.Proofs.YtnalpladieoegaaDoor
open Go.RowKit Go.Shelf

/-- Block b holds a document's watch: two slices. -/
def Bx (w : World) (b : Nat) (s1 s2 : Value) : Prop := w.heap[b]? = some (.cells #[s1, s2] 41 (0, 0))
theorem Bx.lt {w : World} {b : Nat} {s1 s2 : Value} (h : Bx w b s1 s2) : b < w.heap.size := (Array.getElem?_eq_some_iff.1 h).1
theorem Bx.c0 {w : World} {b : Nat} {s1 s2 : Value} (h : Bx w b s1 s2) : w.cell? ⟨b, 0, none⟩ = some s1 := by
  unfold Bx at h
  simp [World.cell?, h]
theorem Bx.c1 {w : World} {b : Nat} {s1 s2 : Value} (h : Bx w b s1 s2) : w.cell? ⟨b, 1, none⟩ = some s2 := by
  unfold Bx at h
  simp [World.cell?, h]
theorem Bx.frozen {w : World} {b : Nat} {s1 s2 : Value} (h : Bx w b s1 s2) (k : Nat) : w.frozen? ⟨b, k, none⟩ = false := by
  unfold Bx at h
  simp [World.frozen?, h]
theorem Bx.new (w : World) (s1 s2 : Value) : Bx (w.alloc (.cells #[s1, s2] 41)) w.heap.size s1 s2 := World.alloc_heap_new w _
theorem Bx.of {w w' : World} {b : Nat} {s1 s2 : Value} (h : Bx w b s1 s2) (he : w'.heap[b]? = w.heap[b]?) : Bx w' b s1 s2 := he.trans h
theorem Bx.kept {w w' : World} {row : Option Nat} {b : Nat} {s1 s2 : Value} (h : Bx w b s1 s2) (hg : w.grownBy w' row) (hne : some b ≠ row) : Bx w' b s1 s2 := h.of (hg.block b h.lt hne)
theorem Bx.alloc {w : World} {b : Nat} {s1 s2 : Value} (h : Bx w b s1 s2) (o : Obj) : Bx (w.alloc o) b s1 s2 := h.kept (World.grownBy_alloc w o none) (by simp)
theorem Bx.below {w w' : World} {B b : Nat} {s1 s2 : Value} (h : Bx w b s1 s2) (hb : Below B w w') (hlt : b < B) : Bx w' b s1 s2 := h.of (hb.block b hlt)
theorem Bx.belowS {w w' : World} {b : Nat} {s1 s2 : Value} (h : Bx w b s1 s2) (hb : Below w.heap.size w w') : Bx w' b s1 s2 := h.below hb h.lt
theorem Bx.drew {w : World} {b : Nat} {s1 s2 : Value} (h : Bx w b s1 s2) : Bx w.drew b s1 s2 := h
theorem RL.drew {w : World} {g cap : Nat} {l : List Ck} (h : RL w g cap l) : RL w.drew g cap l := h
theorem Bx.other {w : World} {b b' : Nat} {s1 s2 : Value} (h : Bx w b s1 s2) (hne : b ≠ b') (k : Nat) (u : Value) : Bx (w.setCell ⟨b', k, none⟩ u) b s1 s2 := h.of (Below.heap_setCell w ⟨b', k, none⟩ u b hne)
theorem heap_set {w : World} {b : Nat} {cs : Array Value} {t : TypeId} (h : w.heap[b]? = some (.cells cs t (0, 0))) (k : Nat) (u : Value) : (w.setCell ⟨b, k, none⟩ u).heap[b]? = some (.cells (cs.setIfInBounds k u) t (0, 0)) := by
  have hlt : b < w.heap.size := (Array.getElem?_eq_some_iff.1 h).1
  have h' : w.heap[b] = .cells cs t (0, 0) := by simpa [Array.getElem?_eq_getElem hlt] using h
  show (w.heap.modify b _)[b]? = _
  rw [Array.getElem?_eq_getElem (by simpa using hlt), Array.getElem_modify_self, h']
  rfl
theorem Bx.set0 {w : World} {b : Nat} {s1 s2 : Value} (h : Bx w b s1 s2) (u : Value) : Bx (w.setCell ⟨b, 0, none⟩ u) b u s2 := heap_set h 0 u
theorem Bx.set1 {w : World} {b : Nat} {s1 s2 : Value} (h : Bx w b s1 s2) (u : Value) : Bx (w.setCell ⟨b, 1, none⟩ u) b s1 u := heap_set h 1 u
theorem Bx.set2 {w : World} {b : Nat} {s1 s2 : Value} (h : Bx w b s1 s2) (u v : Value) : Bx ((w.setCell ⟨b, 0, none⟩ u).setCell ⟨b, 1, none⟩ v) b u v := (h.set0 u).set1 v
theorem grown_set (w : World) (b k : Nat) (v : Value) : w.grownBy (w.setCell ⟨b, k, none⟩ v) (some b) :=
  ⟨rfl, rfl, rfl, by simp [World.setCell], fun j _ hne => Below.heap_setCell w ⟨b, k, none⟩ v j (fun e => hne (by rw [e]))⟩
theorem set2_grown (w : World) (b : Nat) (u v : Value) : w.grownBy ((w.setCell ⟨b, 0, none⟩ u).setCell ⟨b, 1, none⟩ v) (some b) :=
  (grown_set w b 0 u).trans (grown_set (w.setCell ⟨b, 0, none⟩ u) b 1 v)

theorem end_wt {fn : Func} {R : Ending → World → Prop} {act : Act} {W : World} {b : Nat} {s u : Tmp} {s1 s2 v : Value} (h : Bx W b s1 s2) (hres : fn.results = #[.cell s 41, .tmp u])
    (hs : act.tmps.getD s undef = .pointer (some ⟨b, 0, none⟩)) (hu : act.tmps.getD u undef = v) (hd : act.defers = []) (hR : R (.returned (.tuple #[.agg #[s1, s2], v])) W) : bodyPost Tryd.prog fn R .ret act W := by
  have e0 := h.c0
  have e1 := h.c1
  have hs' : act.tmps[s]?.getD undef = .pointer (some ⟨b, 0, none⟩) := by rw [← hs]; simp
  have hu' : act.tmps[u]?.getD undef = v := by rw [← hu]; simp
  refine bodyPost_ret (v := .tuple #[.agg #[s1, s2], v]) ?_ hd hR
  simp [results, hres, go_sem, hs', hu', e0, e1]
theorem end_wct {fn : Func} {R : Ending → World → Prop} {act : Act} {W : World} {b b2 : Nat} {t : TypeId} {s u x : Tmp} {s1 s2 v : Value} {c : Ck} (h : Bx W b s1 s2) (h2 : Blk W b2 t c) (hres : fn.results = #[.cell s 41, .cell x 23, .tmp u])
    (hs : act.tmps.getD s undef = .pointer (some ⟨b, 0, none⟩)) (hx : act.tmps.getD x undef = .pointer (some ⟨b2, 0, none⟩)) (hu : act.tmps.getD u undef = v) (hd : act.defers = []) (hR : R (.returned (.tuple #[.agg #[s1, s2], .agg (cl c), v])) W) : bodyPost Tryd.prog fn R .ret act W := by
  have a0 := h.c0
  have a1 := h.c1
  have e0 := h2.cell (k := 0) (by decide)
  have e1 := h2.cell (k := 1) (by decide)
  have e2 := h2.cell (k := 2) (by decide)
  have e3 := h2.cell (k := 3) (by decide)
  have e4 := h2.cell (k := 4) (by decide)
  have e5 := h2.cell (k := 5) (by decide)
  have e6 := h2.cell (k := 6) (by decide)
  have e7 := h2.cell (k := 7) (by decide)
  have hs' : act.tmps[s]?.getD undef = .pointer (some ⟨b, 0, none⟩) := by rw [← hs]; simp
  have hx' : act.tmps[x]?.getD undef = .pointer (some ⟨b2, 0, none⟩) := by rw [← hx]; simp
  have hu' : act.tmps[u]?.getD undef = v := by rw [← hu]; simp
  refine bodyPost_ret (v := .tuple #[.agg #[s1, s2], .agg (cl c), v]) ?_ hd hR
  simp [results, hres, go_sem, hs', hx', hu', a0, a1, e0, e1, e2, e3, e4, e5, e6, e7]
theorem end_twt {fn : Func} {R : Ending → World → Prop} {act : Act} {W : World} {b : Nat} {s u x : Tmp} {s1 s2 v y : Value} (h : Bx W b s1 s2) (hres : fn.results = #[.tmp x, .cell s 41, .tmp u])
    (hs : act.tmps.getD s undef = .pointer (some ⟨b, 0, none⟩)) (hx : act.tmps.getD x undef = y) (hu : act.tmps.getD u undef = v) (hd : act.defers = []) (hR : R (.returned (.tuple #[y, .agg #[s1, s2], v])) W) : bodyPost Tryd.prog fn R .ret act W := by
  have e0 := h.c0
  have e1 := h.c1
  have hs' : act.tmps[s]?.getD undef = .pointer (some ⟨b, 0, none⟩) := by rw [← hs]; simp
  have hx' : act.tmps[x]?.getD undef = y := by rw [← hx]; simp
  have hu' : act.tmps[u]?.getD undef = v := by rw [← hu]; simp
  refine bodyPost_ret (v := .tuple #[y, .agg #[s1, s2], v]) ?_ hd hR
  simp [results, hres, go_sem, hs', hx', hu', e0, e1]

theorem make39 (n : Nat) (hn : n ≤ 65536) (W : World) : (Instr.makeSlice 39 (.int .i64 (n : Int)) (.int .i64 (n : Int))).run Tryd.prog W = .ok (.slice (some ⟨W.heap.size, 0, none⟩) n n) (W.alloc (.cells (flat (zs n)).toArray 23)) := by
  obtain ⟨j, hj, hz, hs, hb⟩ := info_parts info23
  have h := run_make (P := Tryd.prog) W 39 23 j (.agg (cl z0)) Tryd.underlying39 hj hz .i64 .i64 (n : Int) (n : Int) (by omega) (by omega) (by rw [hb]; omega) (by omega)
  rw [hs] at h
  simp only [Int.toNat_natCast, made_flat] at h
  exact h
theorem RL.made {w : World} {g : Nat} {n : Nat} (hn : n ≤ 65536) (h : w.heap[g]? = some (.cells (flat (zs n)).toArray 23 (0, 0))) : RL w g n (zs n) :=
  ⟨Nat.le_trans hn (by decide), _, h, Nat.le_of_eq (zs_len n), by rw [List.size_toArray, flat_length, zs_len], List.take_of_length_le (Nat.le_of_eq (flat_length _))⟩

/-- What the document's New has made. -/
def RNew (n m : Nat) (w : World) (e : Ending) (w' : World) : Prop :=
  ∃ g1 g2, e = .returned (.tuple #[.agg #[.slice (some ⟨g1, 0, none⟩) n n, .slice (some ⟨g2, 0, none⟩) m m], .int .i64 0]) ∧ RL w' g1 n (zs n) ∧ RL w' g2 m (zs m) ∧ Below w.heap.size w w' ∧ w.heap.size ≤ g1 ∧ w.heap.size ≤ g2

theorem three {w : World} (s1 s2 : Value) (x y : List Ck) :
    let W := (((w.alloc (.cells #[s1, s2] 41)).alloc (.cells (flat x).toArray 23)).alloc (.cells (flat y).toArray 23)).drew
    Bx W w.heap.size s1 s2 ∧ W.heap[w.heap.size + 1]? = some (.cells (flat x).toArray 23 (0, 0)) ∧ W.heap[w.heap.size + 1 + 1]? = some (.cells (flat y).toArray 23 (0, 0)) ∧ Below w.heap.size w W := by
  intro W
  refine ⟨((Bx.new w s1 s2).alloc _).alloc _, ?_, ?_, ((((Below.refl _ w).alloc (Nat.le_refl _) _).alloc (by simp) _).alloc (by simp; omega) _).drew⟩
  · have h0 : Row ((w.alloc (.cells #[s1, s2] 41)).alloc (.cells (flat x).toArray 23)) (w.alloc (.cells #[s1, s2] 41)).heap.size 23 x := World.alloc_heap_new _ _
    rw [World.size_alloc] at h0
    exact h0.alloc _
  · have h0 : Row (((w.alloc (.cells #[s1, s2] 41)).alloc (.cells (flat x).toArray 23)).alloc (.cells (flat y).toArray 23)) ((w.alloc (.cells #[s1, s2] 41)).alloc (.cells (flat x).toArray 23)).heap.size 23 y := World.alloc_heap_new _ _
    rw [World.size_alloc, World.size_alloc] at h0
    exact h0

set_option maxHeartbeats 2000000 in
theorem rnew_in (n m : Nat) (w : World) (hn : 1 ≤ n) (hn8 : n ≤ 8) (hm : m ≤ 65536) : Calls Tryd.prog 27 #[.int .i64 (n : Int), .int .i64 (m : Int)] w (RNew n m w) := by
  have hk1 := fun W => make39 n (by omega) W
  have hk2 := fun W => make39 m hm W
  go_enter Tryd.func27, Tryd.ntmps27
  go_wp2
  go_region
  all_goals go_wp2
  · obtain ⟨h1, h2, h3, h4⟩ := three (w := w) (.slice (some ⟨w.heap.size + 1, 0, none⟩) n n) (.slice (some ⟨w.heap.size + 1 + 1, 0, none⟩) m m) (zs n) (zs m)
    exact end_wt h1 rfl rfl rfl rfl ⟨_, _, rfl, RL.made (by omega) h2, RL.made hm h3, h4, by omega, by omega⟩
  · obtain ⟨h1, h2, h3, h4⟩ := three (w := w) (.slice (some ⟨w.heap.size + 1 + 1, 0, none⟩) n n) (.slice (some ⟨w.heap.size + 1, 0, none⟩) m m) (zs m) (zs n)
    exact end_wt h1 rfl rfl rfl rfl ⟨_, _, rfl, RL.made (by omega) h3, RL.made hm h2, h4, by omega, by omega⟩

set_option maxHeartbeats 2000000 in
theorem rnew_out (n m : Int) (w : World) (h : n < 1 ∨ 8 < n ∨ m < 0 ∨ 65536 < m) : Calls Tryd.prog 27 #[.int .i64 n, .int .i64 m] w fun e w' => e = .returned (.tuple #[.agg #[.slice none 0 0, .slice none 0 0], .int .i64 2]) ∧ Below w.heap.size w w' := by
  have hB : Below w.heap.size w (w.alloc (.cells #[.slice none 0 0, .slice none 0 0] 41)) := (Below.refl _ w).alloc (Nat.le_refl _) _
  have hA := Bx.new w (.slice none 0 0) (.slice none 0 0)
  by_cases h1 : n < 1
  · clear h
    go_enter Tryd.func27, Tryd.ntmps27
    go_wp2
    exact end_wt hA rfl rfl rfl rfl ⟨rfl, hB⟩
  · by_cases h2 : 8 < n
    · clear h
      go_enter Tryd.func27, Tryd.ntmps27
      go_wp2
      exact end_wt hA rfl rfl rfl rfl ⟨rfl, hB⟩
    · by_cases h3 : m < 0
      · clear h
        go_enter Tryd.func27, Tryd.ntmps27
        go_wp2
        exact end_wt hA rfl rfl rfl rfl ⟨rfl, hB⟩
      · have h4 : 65536 < m := by omega
        clear h
        go_enter Tryd.func27, Tryd.ntmps27
        go_wp2
        exact end_wt hA rfl rfl rfl rfl ⟨rfl, hB⟩
end Go.Proofs.YtnalpladieoegaaDoor
