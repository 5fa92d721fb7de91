/- A list of clocks is copied, and a watch. Asked: it lies there. -/
import Derived.Test.YtnalpladieoegaaDoorCap
import Derived.Lib.SliceRun
namespace Go.Proofs.YtnalpladieoegaaDoor
open Go.RowKit Go.Shelf

/-- What Clone leaves. -/
def Clo (w : World) (l : List Ck) (e : Ending) (w' : World) : Prop :=
  ∃ g k, e = .returned (.slice (some ⟨g, 0, none⟩) l.length k) ∧ PRow w' g 68 l k ∧ k ≤ maxLen ∧ Below w.heap.size w w' ∧ w.heap.size ≤ g

theorem prow_of_own {w : World} {base g cap : Nat} {l : List Ck} (h : w.ownsRow base 68 8 (.slice (some ⟨g, 0, none⟩) l.length cap) l.length (flat l)) : base ≤ g ∧ cap ≤ maxLen ∧ PRow w g 68 l cap := by
  rcases h.2 with ⟨h, _⟩ | ⟨g', cap', cur, hv, hb, h1, h2, hm, h3, h4⟩
  · cases h
  · cases hv
    exact ⟨hb, hm, cur, h1, h2, h3, h4⟩

set_option maxRecDepth 100000 in
set_option maxHeartbeats 1000000 in
theorem clone_some {w : World} {g cap : Nat} {l : List Ck} (hP : PRow w g 68 l cap) (hlen : 0 < l.length) (hn : l.length ≤ 65536) :
    Calls Tryd.prog 57 #[.slice (some ⟨g, 0, none⟩) l.length cap] w (Clo w l) := by
  obtain ⟨i0, hI, hz0, hz1, hz2⟩ := info_parts info68
  have hB : Below w.heap.size w (w.alloc (.cells #[] 68)) := (Below.refl _ w).alloc (Nat.le_refl _) _
  have hown : (w.alloc (.cells #[] 68)).ownsRow w.heap.size 68 8 (.slice (some ⟨w.heap.size, 0, none⟩) 0 0) 0 [] := by
    refine ⟨rfl, .inr ⟨w.heap.size, 0, #[], rfl, by omega, ?_, by omega, by decide, rfl, rfl⟩⟩
    exact World.alloc_heap_new w (.cells #[] 68)
  have hnews : ∀ j u, (flat l)[j]? = some u → (w.alloc (.cells #[] 68)).cell? ((⟨g, 0, none⟩ : Addr).add j) = some u := by
    intro j u hj
    have hjl : j < (flat l).length := (List.getElem?_eq_some_iff.1 hj).1
    rw [flat_length] at hjl
    have hq : j / 8 < l.length := by omega
    have h1 := hP.cell hq (Nat.mod_lt j (by decide : 0 < 8))
    have h2 := flat_get l hq (Nat.mod_lt j (by decide : 0 < 8))
    rw [show j / 8 * 8 + j % 8 = j from by omega] at h1 h2
    rw [hj] at h2
    have hadd : (⟨g, 0, none⟩ : Addr).add j = ⟨g, j, none⟩ := by unfold Addr.add; split <;> simp_all
    rw [hadd, hB.cell (p := ⟨g, j, none⟩) hP.lt, h1, ← h2]
  have hone : ∀ u ∈ flat l, u.oneCell' = true := by
    intro u hu
    obtain ⟨j, hj, rfl⟩ := List.getElem_of_mem hu
    rw [flat_length] at hj
    have hq : j / 8 < l.length := by omega
    have h2 := flat_get l hq (Nat.mod_lt j (by decide : 0 < 8))
    rw [show j / 8 * 8 + j % 8 = j from by omega, List.getElem?_eq_getElem (by rw [flat_length]; omega)] at h2
    rw [Option.some.inj h2]
    rfl
  have hmax : l.length ≤ maxLen := Nat.le_trans hn (by decide)
  have hnil := fun (w : World) (g n cap : Nat) => Lib.run_eql_slice_nil (P := Tryd.prog) w 80 68 (some ⟨g, 0, none⟩) n cap 0 0 Tryd.underlying80
  go_enter Tryd.func57, Tryd.ntmps57
  go_wp2_with (at_builtin; refine wpList_append_lies _ rfl (.tmp 5) (.tmp 6) 80 rfl w.heap.size 68 i0 (.agg (cl z0)) 8 64 Tryd.underlying80 hI hz0 hz1 hz2 rfl (by decide) (.slice (some ⟨w.heap.size, 0, none⟩) 0 0) 0 [] rfl ?own ⟨g, 0, none⟩ l.length cap (flat l) rfl (flat_length l) ?c1 hone hlen ?c3 ?c4 ?c5 (w.heap.size + 1) ?c6 ?_)
  case own => exact hown
  case c1 => exact hnews
  case c3 => omega
  case c4 => omega
  case c5 => simp
  case c6 => simp
  intro g2 cap2 w2 ho2 hg2 hl2 hlt2
  obtain ⟨hge, hm2, hP2⟩ := prow_of_own ho2
  have hB2 : Below w.heap.size w w2 := hB.grown hg2 hB.size (fun k e => by have := Option.some.inj (show some w.heap.size = some k from e); omega)
  clear hg2 hl2 ho2 hown hnews hone hB hmax hI hz0 hz1 hz2 hP
  go_wp2
  go_ret
  exact ⟨g2, cap2, rfl, hP2, hm2, hB2, hge⟩

set_option maxRecDepth 100000 in
set_option maxHeartbeats 1000000 in
theorem clone_none (w : World) (g cap : Nat) :
    Calls Tryd.prog 57 #[.slice (some ⟨g, 0, none⟩) 0 cap] w (Clo w []) := by
  have hnil := fun (w : World) (g n cap : Nat) => Lib.run_eql_slice_nil (P := Tryd.prog) w 80 68 (some ⟨g, 0, none⟩) n cap 0 0 Tryd.underlying80
  go_enter Tryd.func57, Tryd.ntmps57
  go_wp2
  go_ret
  refine ⟨w.heap.size, 0, rfl, ⟨#[], World.alloc_heap_new w (.cells #[] 68), Nat.le_refl _, rfl, rfl⟩, by decide, (Below.refl _ w).alloc (Nat.le_refl _) _, Nat.le_refl _⟩

theorem clone_any {w : World} {g cap : Nat} {l : List Ck} (hP : PRow w g 68 l cap) (hn : l.length ≤ 65536) :
    Calls Tryd.prog 57 #[.slice (some ⟨g, 0, none⟩) l.length cap] w (Clo w l) := by
  cases l with
  | nil => exact clone_none w g cap
  | cons a l => exact clone_some hP (by simp) hn
/-- What Copy leaves: a watch of its own, in new memory. -/
def Cpy (w : World) (th pl : List Ck) (e : Ending) (w' : World) : Prop :=
  ∃ p2 t2 b2 j1 j2, e = .returned (.pointer (some ⟨p2, 0, none⟩)) ∧ WtC w' p2 t2 b2 j1 j2 th pl ∧ Below w.heap.size w w' ∧ w.heap.size ≤ p2 ∧ w.heap.size ≤ t2 ∧ w.heap.size ≤ b2

set_option maxRecDepth 100000 in
set_option maxHeartbeats 2000000 in
theorem copy_any {w : World} {p tb pb k1 k2 : Nat} {th pl : List Ck} (hW : WtC w p tb pb k1 k2 th pl) (ht : 0 < th.length) (hn : th.length ≤ 65536) (hm : pl.length ≤ 65536) :
    Calls Tryd.prog 32 #[.pointer (some ⟨p, 0, none⟩)] w (Cpy w th pl) := by
  have hmx : Tryd.prog.follows .mixedOrders = true := by kernel_rfl
  go_enter Tryd.func32, Tryd.ntmps32
  go_wp2_with fail
  refine (c_there hW ht).mono ?_
  rintro e w' ⟨rfl, rfl⟩
  go_wp2_with fail
  refine wp_region_x [] (fun W1 => WtC W1 p tb pb k1 k2 th pl) hmx ?_
  have HS : Hid (WtC w.drew p tb pb k1 k2 th pl) := hW.drew
  refine wpX_take 0 (v := ?v0) rfl (by kernel_rfl) (by kernel_rfl) (by kernel_rfl) (by kernel_rfl) (fun _ _ _ h => h) HS.out (Or.inl ⟨by rfl, ?h0⟩) ?_
  case h0 =>
    intro W1 hS1
    clear hS1
    go_simp
    with_reducible rfl
  refine wpX_take 1 (v := ?v1) rfl (by kernel_rfl) (by kernel_rfl) (by kernel_rfl) (by kernel_rfl) (fun _ _ _ h => h) HS.out (Or.inl ⟨by rfl, ?h1⟩) ?_
  case h1 =>
    intro W1 hS1
    clear hS1
    go_simp
    with_reducible rfl
  refine wpX_take 2 (v := ?v2) rfl (by kernel_rfl) (by kernel_rfl) (by kernel_rfl) (by kernel_rfl) (fun _ _ _ h => h) HS.out (Or.inl ⟨by rfl, ?h2⟩) ?_
  case h2 =>
    intro W1 hS1
    clear hS1
    go_simp
    with_reducible rfl
  refine wpX_take 3 (v := ?v3) rfl (by kernel_rfl) (by kernel_rfl) (by kernel_rfl) (by kernel_rfl) (fun _ _ _ h => h) HS.out (Or.inl ⟨by rfl, ?h3⟩) ?_
  case h3 =>
    intro W1 hS1
    have b0 := hS1.c0
    have b1 := hS1.c1
    clear hS1
    go_simp
    with_reducible rfl
  refine wpX_take 5 (v := ?v5) rfl (by kernel_rfl) (by kernel_rfl) (by kernel_rfl) (by kernel_rfl) (fun _ _ _ h => h) HS.out (Or.inl ⟨by rfl, ?h5⟩) ?_
  case h5 =>
    intro W1 hS1
    clear hS1
    go_simp
    with_reducible rfl
  refine wpX_take 6 (v := ?v6) rfl (by kernel_rfl) (by kernel_rfl) (by kernel_rfl) (by kernel_rfl) (fun _ _ _ h => h) HS.out (Or.inl ⟨by rfl, ?h6⟩) ?_
  case h6 =>
    intro W1 hS1
    clear hS1
    go_simp
    with_reducible rfl
  refine wpX_take 7 (v := ?v7) rfl (by kernel_rfl) (by kernel_rfl) (by kernel_rfl) (by kernel_rfl) (fun _ _ _ h => h) HS.out (Or.inl ⟨by rfl, ?h7⟩) ?_
  case h7 =>
    intro W1 hS1
    clear hS1
    go_simp
    with_reducible rfl
  refine wpX_take 8 (v := ?v8) rfl (by kernel_rfl) (by kernel_rfl) (by kernel_rfl) (by kernel_rfl) (fun _ _ _ h => h) HS.out (Or.inl ⟨by rfl, ?h8⟩) ?_
  case h8 =>
    intro W1 hS1
    have b0 := hS1.c0
    have b1 := hS1.c1
    clear hS1
    go_simp
    with_reducible rfl
  have e1 : w.drew.heap.size = w.heap.size := rfl
  refine wpX_one 4 (by kernel_rfl) rfl (fun K hK => ?_)
  go_simp
  refine (clone_any hW.drew.tc hn).mono ?_
  rintro e w1 ⟨g1, j1, rfl, hP1, hm1, hb1, q1⟩
  have hb1' : Below w.heap.size w w1 := (Below.refl w.heap.size w).drew.trans hb1
  have hW1 := hW.below hb1'
  clear HS
  have HS : Hid (WtC w1 p tb pb k1 k2 th pl) := hW1
  refine hK _ _ (fun _ => HS.out) ?_
  clear hK K hb1
  refine wpX_one 9 (by kernel_rfl) rfl (fun K hK => ?_)
  go_simp
  refine (clone_any hW1.pc hm).mono ?_
  rintro e w2 ⟨g2, j2, rfl, hP2, hm2, hb2, q2⟩
  have sz1 := hb1'.size
  have hb2' : Below w.heap.size w w2 := hb1'.trans (hb2.mono sz1)
  have hP12 : PRow w2 g1 68 th j1 := hP1.of (hb2.block _ hP1.lt)
  have hW2 := hW1.below hb2
  clear HS
  have HS : Hid (WtC w2 p tb pb k1 k2 th pl) := hW2
  refine hK _ _ (fun _ => HS.out) ?_
  clear hK K hb2 hW1 hP1 hb1'
  refine wpX_one 10 (by kernel_rfl) rfl (fun K hK => ?_)
  go_simp
  refine hK _ _ (fun _ => HS.out) ?_
  clear hK K
  have sz2 := hb2'.size
  have hW3 : WtC (w2.alloc (.cells #[.slice (some ⟨g1, 0, none⟩) th.length j1, .slice (some ⟨g2, 0, none⟩) pl.length j2] 82)) w2.heap.size g1 g2 j1 j2 th pl :=
    ⟨World.alloc_heap_new _ _, hP12.of ((World.grownBy_alloc w2 _ none).block _ hP12.lt (by simp)), hP2.of ((World.grownBy_alloc w2 _ none).block _ hP2.lt (by simp)), hm1, hm2⟩
  have hB3 := hb2'.alloc sz2 (.cells #[.slice (some ⟨g1, 0, none⟩) th.length j1, .slice (some ⟨g2, 0, none⟩) pl.length j2] 82)
  refine wpX_one 11 (by kernel_rfl) rfl (fun K hK => ?_)
  go_simp
  refine hK _ _ (fun _ => HS.out.kept (grown_alloc w2 _)) ?_
  clear hK K
  refine wpX_one 12 (by kernel_rfl) rfl (fun K hK => ?_)
  go_simp
  refine hK _ _ (fun _ => HS.out.kept (grown_alloc w2 _)) ?_
  clear hK K
  refine wpX_done (by kernel_rfl) ?_ _
  go_wp2
  go_ret
  exact ⟨w2.heap.size, g1, g2, j1, j2, rfl, hW3, hB3, sz2, q1, by omega⟩
end Go.Proofs.YtnalpladieoegaaDoor
