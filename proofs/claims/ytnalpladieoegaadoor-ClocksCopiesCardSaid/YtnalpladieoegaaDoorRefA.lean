/- The document's lists of clocks: is there such a number; a list with another clock at a place; a new watch. No condition but that the list lies. -/
import Derived.Test.YtnalpladieoegaaDoorMove
import Derived.Test.YtnalpladieoegaaDoorNew
import Derived.Deep.AppendLies
namespace Go.Proofs.YtnalpladieoegaaDoor
open Go.RowKit Go.Shelf

/-- Block b begins with the clocks l, and has room for cap. -/
def PRow (w : World) (b : Nat) (t : TypeId) (l : List Ck) (cap : Nat) : Prop :=
  ∃ cur : Array Value, w.heap[b]? = some (.cells cur t (0, 0)) ∧ l.length ≤ cap ∧ cur.size = cap * 8 ∧ cur.toList.take (l.length * 8) = flat l
theorem PRow.lt {w : World} {b : Nat} {t : TypeId} {l : List Ck} {cap : Nat} (h : PRow w b t l cap) : b < w.heap.size := by
  obtain ⟨cur, h, _⟩ := h
  exact (Array.getElem?_eq_some_iff.1 h).1
theorem PRow.le {w : World} {b : Nat} {t : TypeId} {l : List Ck} {cap : Nat} (h : PRow w b t l cap) : l.length ≤ cap := by
  obtain ⟨cur, _, h, _⟩ := h
  exact h
theorem PRow.cell {w : World} {b : Nat} {t : TypeId} {l : List Ck} {cap : Nat} (h : PRow w b t l cap) {i j : Nat} (hi : i < l.length) (hj : j < 8) : w.cell? ⟨b, i * 8 + j, none⟩ = some (.int .i64 (at_ l i j)) := by
  obtain ⟨cur, h, _, _, ht⟩ := h
  have h1 := flat_get l hi hj
  rw [← ht, List.getElem?_take, if_pos (by omega)] at h1
  simp only [World.cell?, h]
  simpa using h1
theorem PRow.frozen {w : World} {b : Nat} {t : TypeId} {l : List Ck} {cap : Nat} (h : PRow w b t l cap) (k : Nat) : w.frozen? ⟨b, k, none⟩ = false := by
  obtain ⟨cur, h, _⟩ := h
  simp [World.frozen?, h]
theorem PRow.of {w w' : World} {b : Nat} {t : TypeId} {l : List Ck} {cap : Nat} (h : PRow w b t l cap) (he : w'.heap[b]? = w.heap[b]?) : PRow w' b t l cap := by
  obtain ⟨cur, h1, h2⟩ := h
  exact ⟨cur, he.trans h1, h2⟩
theorem PRow.set1 {w : World} {b : Nat} {t : TypeId} {l : List Ck} {cap : Nat} (h : PRow w b t l cap) {i j : Nat} (hi : i < l.length) (hj : j < 8) (x : Int) : PRow (w.setCell ⟨b, i * 8 + j, none⟩ (.int .i64 x)) b t (l.set i (upd (at_ l i) j x)) cap := by
  have hlt := h.lt
  obtain ⟨cur, h, hle, hsz, htk⟩ := h
  have h' : w.heap[b] = .cells cur t (0, 0) := by simpa [Array.getElem?_eq_getElem hlt] using h
  refine ⟨cur.setIfInBounds (i * 8 + j) (.int .i64 x), ?_, by simpa using hle, by simpa using hsz, ?_⟩
  · show (w.heap.modify b _)[b]? = _
    rw [Array.getElem?_eq_getElem (by simpa using hlt), Array.getElem_modify_self, h']
    simp only [Option.isSome_none, Bool.false_eq_true, if_false]
  · rw [← flat_set l hi hj x, ← htk, Array.toList_setIfInBounds, List.length_set, List.take_set]
theorem PRow.setN {w : World} {b : Nat} {t : TypeId} {l : List Ck} {cap i : Nat} {d : Ck} (h : PRow w b t (l.set i d) cap) (hi : i < l.length) {j : Nat} (hj : j < 8) (x : Int) : PRow (sc w b (i * 8 + j) x) b t (l.set i (upd d j x)) cap := by
  have h1 := h.set1 (i := i) (by simpa using hi) hj x
  rwa [set_set, at_set l hi] at h1
theorem PRow.set8 {w : World} {b : Nat} {t : TypeId} {l : List Ck} {cap : Nat} (h : PRow w b t l cap) {i : Nat} (hi : i < l.length) (c : Ck) : PRow (st8 w b (i * 8) c) b t (l.set i c) cap := by
  have h0 : PRow (sc w b (i * 8 + 0) (c 0)) b t (l.set i (upd (at_ l i) 0 (c 0))) cap := h.set1 hi (by decide) (c 0)
  have h7 := ((((((h0.setN hi (j := 1) (by decide) (c 1)).setN hi (j := 2) (by decide) (c 2)).setN hi (j := 3) (by decide) (c 3)).setN hi (j := 4) (by decide) (c 4)).setN hi (j := 5) (by decide) (c 5)).setN hi (j := 6) (by decide) (c 6)).setN hi (j := 7) (by decide) (c 7)
  have ha : Alk (upd (upd (upd (upd (upd (upd (upd (upd (at_ l i) 0 (c 0)) 1 (c 1)) 2 (c 2)) 3 (c 3)) 4 (c 4)) 5 (c 5)) 6 (c 6)) 7 (c 7)) c := by
    intro k hk
    rcases lt8 hk with rfl | rfl | rfl | rfl | rfl | rfl | rfl | rfl <;> rfl
  obtain ⟨cur, h1, h2, h3, h4⟩ := h7
  rw [flat_set_alk l i ha] at h4
  exact ⟨cur, h1, by simpa using h2, h3, by simpa using h4⟩

/-- From block g on lies the document's list l of clocks, with room for cap. -/
def RL (w : World) (g cap : Nat) (l : List Ck) : Prop := cap ≤ maxLen ∧ PRow w g 23 l cap
theorem RL.of {w w' : World} {g cap : Nat} {l : List Ck} (h : RL w g cap l) (he : w'.heap[g]? = w.heap[g]?) : RL w' g cap l := ⟨h.1, h.2.of he⟩
theorem RL.lt {w : World} {g cap : Nat} {l : List Ck} (h : RL w g cap l) : g < w.heap.size := h.2.lt
theorem RL.kept {w w' : World} {row : Option Nat} {g cap : Nat} {l : List Ck} (h : RL w g cap l) (hg : w.grownBy w' row) (hne : some g ≠ row) : RL w' g cap l := h.of (hg.block g h.lt hne)
theorem RL.alloc {w : World} {g cap : Nat} {l : List Ck} (h : RL w g cap l) (o : Obj) : RL (w.alloc o) g cap l := h.kept (World.grownBy_alloc w o none) (by simp)
theorem RL.below {w w' : World} {B g cap : Nat} {l : List Ck} (h : RL w g cap l) (hb : Below B w w') (hlt : g < B) : RL w' g cap l := h.of (hb.block g hlt)
theorem RL.belowS {w w' : World} {g cap : Nat} {l : List Ck} (h : RL w g cap l) (hb : Below w.heap.size w w') : RL w' g cap l := h.below hb h.lt
theorem RL.of_own {w : World} {base g cap : Nat} {l : List Ck} (h : w.ownsRow base 23 8 (.slice (some ⟨g, 0, none⟩) l.length cap) l.length (flat l)) : base ≤ g ∧ RL w g cap l := by
  rcases h.2 with ⟨h, _⟩ | ⟨g', cap', cur, hv, hb, h1, h2, hm, h3, h4⟩
  · cases h
  · cases hv
    exact ⟨hb, hm, cur, h1, h2, h3, h4⟩

set_option maxHeartbeats 400000 in
theorem in_yes (w : World) (b n cap : Nat) (i : Int) (h0 : 0 ≤ i) (h1 : i < (n : Int)) :
    Calls Tryd.prog 52 #[.slice (some ⟨b, 0, none⟩) n cap, .int .i64 i] w fun e w' => e = .returned (.bool true) ∧ w = w' := by
  go_enter Tryd.func52, Tryd.ntmps52
  go_wp2
  go_ret
  exact ⟨rfl, rfl⟩
set_option maxHeartbeats 400000 in
theorem in_no (w : World) (b n cap : Nat) (i : Int) (h : i < 0 ∨ (n : Int) ≤ i) :
    Calls Tryd.prog 52 #[.slice (some ⟨b, 0, none⟩) n cap, .int .i64 i] w fun e w' => e = .returned (.bool false) ∧ w = w' := by
  by_cases h0 : 0 ≤ i
  · have h1 : ¬ i < (n : Int) := by omega
    clear h
    go_enter Tryd.func52, Tryd.ntmps52
    go_wp2
    go_ret
    exact ⟨rfl, rfl⟩
  · clear h
    go_enter Tryd.func52, Tryd.ntmps52
    go_wp2
    go_ret
    exact ⟨rfl, rfl⟩

theorem info23 : (Tryd.prog.info? 23).map (fun i => (i.zero, i.size, i.bytes)) = some (some (.agg (cl z0)), 8, 64) := by kernel_rfl

set_option maxRecDepth 100000 in
set_option maxHeartbeats 1000000 in
theorem set_in {w : World} {g cap : Nat} {l : List Ck} (h : RL w g cap l) {i : Nat} (hi : i < l.length) (c : Ck) (hn : l.length ≤ 65536) :
    Calls Tryd.prog 53 #[.slice (some ⟨g, 0, none⟩) l.length cap, .int .i64 (i : Int), .agg (cl c)] w fun e w' =>
      ∃ g2 cap2, e = .returned (.slice (some ⟨g2, 0, none⟩) l.length cap2) ∧ RL w' g2 cap2 (l.set i c) ∧ Below w.heap.size w w' ∧ w.heap.size ≤ g2 := by
  obtain ⟨hm, hP⟩ := h
  obtain ⟨i0, hI, hz0, hz1, hz2⟩ := info_parts info23
  have hB : Below w.heap.size w ((w.alloc (.cells (cl c) 23)).alloc (.cells #[] 23)) := ((Below.refl _ w).alloc (Nat.le_refl _) _).alloc (by simp) _
  have hC := (Blk.new w 23 c).alloc (.cells #[] 23)
  have hown : ((w.alloc (.cells (cl c) 23)).alloc (.cells #[] 23)).ownsRow w.heap.size 23 8 (.slice (some ⟨w.heap.size + 1, 0, none⟩) 0 0) 0 [] := by
    refine ⟨rfl, .inr ⟨w.heap.size + 1, 0, #[], rfl, by omega, ?_, by omega, by decide, rfl, rfl⟩⟩
    have := World.alloc_heap_new (w.alloc (.cells (cl c) 23)) (.cells #[] 23)
    rw [World.size_alloc] at this
    exact this
  have hnews : ∀ j u, (flat l)[j]? = some u → ((w.alloc (.cells (cl c) 23)).alloc (.cells #[] 23)).cell? ((⟨g, 0, none⟩ : Addr).add j) = some u := by
    intro j u hj
    have hjl : j < (flat l).length := (List.getElem?_eq_some_iff.1 hj).1
    rw [flat_length] at hjl
    have hq : j / 8 < l.length := by omega
    have h1 := hP.cell hq (Nat.mod_lt j (by decide : 0 < 8))
    have h2 := flat_get l hq (Nat.mod_lt j (by decide : 0 < 8))
    rw [show j / 8 * 8 + j % 8 = j from by omega] at h1 h2
    rw [hj] at h2
    have hadd : (⟨g, 0, none⟩ : Addr).add j = ⟨g, j, none⟩ := by unfold Addr.add; split <;> simp_all
    rw [hadd, hB.cell (p := ⟨g, j, none⟩) hP.lt, h1, ← h2]
  have hone : ∀ u ∈ flat l, u.oneCell' = true := by
    intro u hu
    obtain ⟨j, hj, rfl⟩ := List.getElem_of_mem hu
    rw [flat_length] at hj
    have hq : j / 8 < l.length := by omega
    have h2 := flat_get l hq (Nat.mod_lt j (by decide : 0 < 8))
    rw [show j / 8 * 8 + j % 8 = j from by omega, List.getElem?_eq_getElem (by rw [flat_length]; omega)] at h2
    rw [Option.some.inj h2]
    rfl
  have hlen : 0 < l.length := by omega
  have hmax : l.length ≤ maxLen := Nat.le_trans hn (by decide)
  go_enter Tryd.func53, Tryd.ntmps53
  go_wp2_with (at_builtin; refine wpList_append_lies _ rfl (.tmp 8) (.tmp 9) 39 rfl w.heap.size 23 i0 (.agg (cl z0)) 8 64 Tryd.underlying39 hI hz0 hz1 hz2 rfl (by decide) (.slice (some ⟨w.heap.size + 1, 0, none⟩) 0 0) 0 [] rfl ?own ⟨g, 0, none⟩ l.length cap (flat l) rfl (flat_length l) ?c1 hone hlen ?c3 ?c4 ?c5 (w.heap.size + 2) ?c6 ?_)
  case own => exact hown
  case c1 => exact hnews
  case c3 => omega
  case c4 => omega
  case c5 => simp; omega
  case c6 => simp
  intro g2 cap2 w2 ho2 hg2 hl2 hlt2
  obtain ⟨hge, hm2, hP2⟩ := RL.of_own ho2
  have hC2 := hC.kept hg2 (by show some w.heap.size ≠ some (w.heap.size + 1); exact nesome (by omega))
  have hB2 : Below w.heap.size w w2 := hB.grown hg2 hB.size (fun k e => by have := Option.some.inj (show some (w.heap.size + 1) = some k from e); omega)
  have hne : g2 ≠ w.heap.size := by
    rcases hl2 with hl2 | hl2
    · have := Option.some.inj (show some (w.heap.size + 1) = some g2 from hl2)
      omega
    · omega
  clear hg2 hl2 ho2 hown hnews hone hB hC hmax hI hz0 hz1 hz2 hP hm
  have x0 := hC2.cell (k := 0) (by decide)
  have x1 := hC2.cell (k := 1) (by decide)
  have x2 := hC2.cell (k := 2) (by decide)
  have x3 := hC2.cell (k := 3) (by decide)
  have x4 := hC2.cell (k := 4) (by decide)
  have x5 := hC2.cell (k := 5) (by decide)
  have x6 := hC2.cell (k := 6) (by decide)
  have x7 := hC2.cell (k := 7) (by decide)
  have y0 := hP2.cell (j := 0) hi (by decide)
  have y1 := hP2.cell (j := 1) hi (by decide)
  have y2 := hP2.cell (j := 2) hi (by decide)
  have y3 := hP2.cell (j := 3) hi (by decide)
  have y4 := hP2.cell (j := 4) hi (by decide)
  have y5 := hP2.cell (j := 5) hi (by decide)
  have y6 := hP2.cell (j := 6) hi (by decide)
  have y7 := hP2.cell (j := 7) hi (by decide)
  rw [Nat.add_zero] at y0
  have f0 := hP2.frozen (i * 8)
  have f1 := hP2.frozen (i * 8 + 1)
  have f2 := hP2.frozen (i * 8 + 2)
  have f3 := hP2.frozen (i * 8 + 3)
  have f4 := hP2.frozen (i * 8 + 4)
  have f5 := hP2.frozen (i * 8 + 5)
  have f6 := hP2.frozen (i * 8 + 6)
  have f7 := hP2.frozen (i * 8 + 7)
  go_wp2
  go_ret
  refine ⟨g2, cap2, rfl, ⟨hm2, hP2.set8 hi c⟩, ?_, hge⟩
  exact hB2.grown (st8_grown w2 g2 (i * 8) c) hB2.size (fun k e => by cases e; exact hge)
end Go.Proofs.YtnalpladieoegaaDoor
