/- A call by both, but a step: they tell the same, and go on in step. Asked: the watch and the document's lists lie there, apart. -/
import Derived.Test.YtnalpladieoegaaDoorActB
namespace Go.Proofs.YtnalpladieoegaaDoor
open Go.RowKit Go.Shelf

set_option maxRecDepth 100000 in
set_option maxHeartbeats 4000000 in
theorem act_move {w : World} {p tb pb g1 k1 g2 k2 : Nat} {th pl th' pl' : List Ck} {a t n e : Int} (hW : Wt w p tb pb th pl) (h1 : RL w g1 k1 th) (h2 : RL w g2 k2 pl) (n1 : g1 ≠ tb) (n2 : g1 ≠ pb) (n3 : g2 ≠ tb) (n4 : g2 ≠ pb) (hp : 0 < th.length) (h8 : th.length ≤ 8) (hm : pl.length ≤ 65536) (hM : Mv a t n th pl th' pl' e) (h0 : ¬ a < 0) (h3 : ¬ 3 < a) :
    Calls Tryd.prog 30 #[.pointer (some ⟨p, 0, none⟩), .agg #[.slice (some ⟨g1, 0, none⟩) th.length k1, .slice (some ⟨g2, 0, none⟩) pl.length k2], .agg #[.int .i64 a, .int .i64 t, .int .i64 n]] w (ActPost w p tb pb g1 g2 th' pl') := by
  have hmx : Tryd.prog.follows .mixedOrders = true := by kernel_rfl
  have hee : (e == e) = true := by simp
  have hB := actW_below w (.slice (some ⟨g1, 0, none⟩) th.length k1) (.slice (some ⟨g2, 0, none⟩) pl.length k2) a t n
  have hA := actW_a w (.slice (some ⟨g1, 0, none⟩) th.length k1) (.slice (some ⟨g2, 0, none⟩) pl.length k2) a t n
  have hX := actW_x w (.slice (some ⟨g1, 0, none⟩) th.length k1) (.slice (some ⟨g2, 0, none⟩) pl.length k2) a t n
  have hD := actW_d w (.slice (some ⟨g1, 0, none⟩) th.length k1) (.slice (some ⟨g2, 0, none⟩) pl.length k2) a t n
  have hW0 := hW.below hB
  have hR1 := h1.belowS hB
  have hR2 := h2.belowS hB
  have l1 := hW.ptl
  have l2 := hW.tc.lt
  have l3 := hW.pc.lt
  go_enter Tryd.func30, Tryd.ntmps30
  go_wp2_with fail
  change Calls _ _ _ (actW w (.slice (some ⟨g1, 0, none⟩) th.length k1) (.slice (some ⟨g2, 0, none⟩) pl.length k2) a t n) _
  generalize actW w (.slice (some ⟨g1, 0, none⟩) th.length k1) (.slice (some ⟨g2, 0, none⟩) pl.length k2) a t n = W0 at *
  refine (rmove_mv hR1 hR2 hM h8 hm).mono ?_
  rintro x w1 ⟨v, rfl, ⟨a1, j1, a2, j2, rfl, hQ1, hQ2, hq1, hq2⟩, hb⟩
  have hX1 := (hX.belowS hb).alloc (.cells #[.slice (some ⟨a1, 0, none⟩) th'.length j1, .slice (some ⟨a2, 0, none⟩) pl'.length j2] 41)
  have hB1 : Below w.heap.size w w1 := hB.trans (hb.mono hB.size)
  have hB2 := hB1.alloc hB1.size (.cells #[.slice (some ⟨a1, 0, none⟩) th'.length j1, .slice (some ⟨a2, 0, none⟩) pl'.length j2] 41)
  have hD2 := (hD.belowS hb).alloc (.cells #[.slice (some ⟨a1, 0, none⟩) th'.length j1, .slice (some ⟨a2, 0, none⟩) pl'.length j2] 41)
  have hW2 := (hW0.below hb).kept (grown_alloc _ (.cells #[.slice (some ⟨a1, 0, none⟩) th'.length j1, .slice (some ⟨a2, 0, none⟩) pl'.length j2] 41))
  have hE2 := Bx.new w1 (.slice (some ⟨a1, 0, none⟩) th'.length j1) (.slice (some ⟨a2, 0, none⟩) pl'.length j2)
  have hQ12 := hQ1.alloc (.cells #[.slice (some ⟨a1, 0, none⟩) th'.length j1, .slice (some ⟨a2, 0, none⟩) pl'.length j2] 41)
  have hQ22 := hQ2.alloc (.cells #[.slice (some ⟨a1, 0, none⟩) th'.length j1, .slice (some ⟨a2, 0, none⟩) pl'.length j2] 41)
  have z0' := hB.size
  have m1 : W0.heap.size ≤ w1.heap.size := hb.size
  have m2 := hD.lt
  have lg1 := h1.lt
  have lg2 := h2.lt
  have x1n : w.heap.size + 1 + 1 ≠ a1 := by
    rcases hq1 with h | h <;> omega
  have x2n : w.heap.size + 1 + 1 ≠ a2 := by
    rcases hq2 with h | h <;> omega
  have ne1 : a1 ≠ tb ∧ a1 ≠ pb := by
    rcases hq1 with rfl | hq1
    · exact ⟨n1, n2⟩
    · exact ⟨by omega, by omega⟩
  have ne2 : a2 ≠ tb ∧ a2 ≠ pb := by
    rcases hq2 with rfl | hq2
    · exact ⟨n3, n4⟩
    · exact ⟨by omega, by omega⟩
  have hq1' : a1 = g1 ∨ w.heap.size ≤ a1 := hq1.imp id (fun h => by omega)
  have hq2' : a2 = g2 ∨ w.heap.size ≤ a2 := hq2.imp id (fun h => by omega)
  clear hQ1 hQ2 hb hA
  go_wp2_with fail
  obtain ⟨s1, hs⟩ : ∃ s, w1.heap.size = s := ⟨_, rfl⟩
  rw [hs] at hE2 m1 ⊢
  generalize w1.alloc (.cells #[.slice (some ⟨a1, 0, none⟩) th'.length j1, .slice (some ⟨a2, 0, none⟩) pl'.length j2] 41) = W2 at *
  clear hX hD hW0 hR1 hR2 hB hB1
  refine wp_region_x [] (fun W1 => Bx W1 s1 (.slice (some ⟨a1, 0, none⟩) th'.length j1) (.slice (some ⟨a2, 0, none⟩) pl'.length j2) ∧ Tx W1 (w.heap.size + 1) a t n) hmx ?_
  have HS : Hid (Bx W2.drew s1 (.slice (some ⟨a1, 0, none⟩) th'.length j1) (.slice (some ⟨a2, 0, none⟩) pl'.length j2) ∧ Tx W2.drew (w.heap.size + 1) a t n) := ⟨hE2.drew, hX1⟩
  refine wpX_take 0 (v := ?v0) rfl (by kernel_rfl) (by kernel_rfl) (by kernel_rfl) (by kernel_rfl) (fun _ _ _ h => h) HS.out (Or.inl ⟨by rfl, ?h0⟩) ?_
  case h0 =>
    intro W1 hS1
    have b0 := hS1.1.c0
    have b1 := hS1.1.c1
    clear hS1
    go_simp
    with_reducible rfl
  refine wpX_take 1 (v := ?v1) rfl (by kernel_rfl) (by kernel_rfl) (by kernel_rfl) (by kernel_rfl) (fun _ _ _ h => h) HS.out (Or.inl ⟨by rfl, ?h1⟩) ?_
  case h1 =>
    intro W1 hS1
    clear hS1
    go_simp
    with_reducible rfl
  refine wpX_take 2 (v := ?v2) rfl (by kernel_rfl) (by kernel_rfl) (by kernel_rfl) (by kernel_rfl) (fun _ _ _ h => h) HS.out (Or.inl ⟨by rfl, ?h2⟩) ?_
  case h2 =>
    intro W1 hS1
    have b0 := hS1.2.c0
    have b1 := hS1.2.c1
    have b2 := hS1.2.c2
    clear hS1
    go_simp
    with_reducible rfl
  refine wpX_take 5 (v := ?v5) rfl (by kernel_rfl) (by kernel_rfl) (by kernel_rfl) (by kernel_rfl) (fun _ _ _ h => h) HS.out (Or.inl ⟨by rfl, ?h5⟩) ?_
  case h5 =>
    intro W1 hS1
    clear hS1
    go_simp
    with_reducible rfl
  refine wpX_one 3 (by kernel_rfl) rfl (fun K hK => ?_)
  go_simp
  refine (move_mv hW2.drew hM hp h8 hm).mono ?_
  rintro x w3 ⟨rfl, hW3, hk3⟩
  have hk3' : Kp W2 w3 tb pb := ⟨hk3.os, hk3.tape, hk3.output, hk3.size, hk3.block⟩
  have m3 := hX1.lt
  have m4 := hE2.lt
  have m5 := hD2.lt
  have m6 : W2.heap.size ≤ w3.heap.size := hk3'.size
  have hE3 := hE2.keep hk3' (by omega) (by omega)
  have hX3 : Tx w3 (w.heap.size + 1) a t n := hX1.of (hk3'.block _ m3 (by omega) (by omega))
  have HQ : Hid (RL w3 a1 j1 th' ∧ RL w3 a2 j2 pl' ∧ Wt w3 p tb pb th' pl' ∧ Kp w w3 tb pb ∧ Bx w3 (w.heap.size + 1 + 1) sn sn ∧ Bx w3 s1 (.slice (some ⟨a1, 0, none⟩) th'.length j1) (.slice (some ⟨a2, 0, none⟩) pl'.length j2) ∧ Tx w3 (w.heap.size + 1) a t n) :=
    ⟨hQ12.keep hk3' ne1.1 ne1.2, hQ22.keep hk3' ne2.1 ne2.2, hW3, (Kp.below hB2).trans hk3', hD2.keep hk3' (by omega) (by omega), hE3, hX3⟩
  clear HS
  have HS : Hid (Bx w3 s1 (.slice (some ⟨a1, 0, none⟩) th'.length j1) (.slice (some ⟨a2, 0, none⟩) pl'.length j2) ∧ Tx w3 (w.heap.size + 1) a t n) := ⟨hE3, hX3⟩
  refine hK _ _ (fun _ => HS.out) ?_
  clear hK K hQ12 hQ22 hW2 hE2 hD2 hX1 hB2 hk3 hk3' hW3 hE3 hX3 hW h1 h2 hM
  refine wpX_one 4 (by kernel_rfl) rfl (fun K hK => ?_)
  go_simp
  refine (num_any _ _).mono ?_
  rintro x w' ⟨rfl, rfl⟩
  refine hK _ _ (fun _ => HS.out) ?_
  clear hK K
  refine wpX_take 6 (v := ?v6) rfl (by kernel_rfl) (by kernel_rfl) (by kernel_rfl) (by kernel_rfl) (fun _ _ _ h => h) HS.out (Or.inl ⟨by rfl, ?h6⟩) ?_
  case h6 =>
    intro W1 hS1
    clear hS1
    go_simp
    with_reducible rfl
  refine wpX_one 7 (by kernel_rfl) rfl (fun K hK => ?_)
  have d0 := HQ.out.2.2.2.2.1.c0
  have d1 := HQ.out.2.2.2.2.1.c1
  have df0 := HQ.out.2.2.2.2.1.frozen 0
  have df1 := HQ.out.2.2.2.2.1.frozen 1
  go_simp
  have hg := set2_grown w3 (w.heap.size + 1 + 1) (.slice (some ⟨a1, 0, none⟩) th'.length j1) (.slice (some ⟨a2, 0, none⟩) pl'.length j2)
  have HS2 : Hid (Bx ((w3.setCell ⟨w.heap.size + 1 + 1, 0, none⟩ (.slice (some ⟨a1, 0, none⟩) th'.length j1)).setCell ⟨w.heap.size + 1 + 1, 1, none⟩ (.slice (some ⟨a2, 0, none⟩) pl'.length j2)) s1 (.slice (some ⟨a1, 0, none⟩) th'.length j1) (.slice (some ⟨a2, 0, none⟩) pl'.length j2) ∧ Tx ((w3.setCell ⟨w.heap.size + 1 + 1, 0, none⟩ (.slice (some ⟨a1, 0, none⟩) th'.length j1)).setCell ⟨w.heap.size + 1 + 1, 1, none⟩ (.slice (some ⟨a2, 0, none⟩) pl'.length j2)) (w.heap.size + 1) a t n) :=
    ⟨HQ.out.2.2.2.2.2.1.kept hg (nesome (by omega)), HQ.out.2.2.2.2.2.2.of (hg.block _ HQ.out.2.2.2.2.2.2.lt (nesome (by omega)))⟩
  refine hK _ _ (fun _ => HS2.out) ?_
  clear hK K d0 d1 df0 df1
  refine wpX_one 8 (by kernel_rfl) rfl (fun K hK => ?_)
  go_simp
  refine hK _ _ (fun _ => HS2.out) ?_
  clear hK K HS2 HS
  refine wpX_done (by kernel_rfl) ?_ _
  go_wp2
  have hD5 := HQ.out.2.2.2.2.1.set2 (.slice (some ⟨a1, 0, none⟩) th'.length j1) (.slice (some ⟨a2, 0, none⟩) pl'.length j2)
  refine end_wt hD5 rfl rfl rfl rfl ?_
  exact ⟨_, rfl, ⟨a1, j1, a2, j2, rfl, HQ.out.1.kept hg (nesome x1n.symm), HQ.out.2.1.kept hg (nesome x2n.symm), hq1', hq2'⟩, HQ.out.2.2.1.newSet hg (by omega) (by omega) (by omega), HQ.out.2.2.2.1.new hg (by omega)⟩

/-- What the two sides have between calls. -/
structure Two (w : World) (p tb pb : Nat) (v : Value) (th pl : List Ck) : Prop where
  wt : Wt w p tb pb th pl
  rw : ∃ g1 k1 g2 k2, v = .agg #[.slice (some ⟨g1, 0, none⟩) th.length k1, .slice (some ⟨g2, 0, none⟩) pl.length k2] ∧ RL w g1 k1 th ∧ RL w g2 k2 pl ∧ g1 ≠ tb ∧ g1 ≠ pb ∧ g2 ≠ tb ∧ g2 ≠ pb
/-- One call, whichever it is. -/
def Nx (a t n : Int) (th pl th' pl' : List Ck) : Prop := (∃ e, Mv a t n th pl th' pl' e) ∨ (pl' = pl ∧ ∃ c e, St t th th' c e)
theorem Nx.len {a t n : Int} {th pl th' pl' : List Ck} (h : Nx a t n th pl th' pl') : th'.length = th.length ∧ pl'.length = pl.length := by
  rcases h with ⟨e, h⟩ | ⟨rfl, c, e, h⟩
  · exact h.len
  · exact ⟨h.len, rfl⟩
theorem act_any {w : World} {p tb pb : Nat} {v : Value} {th pl : List Ck} (h : Two w p tb pb v th pl) (a t n : Int) (hp : 0 < th.length) (h8 : th.length ≤ 8) (hm : pl.length ≤ 65536) :
    Calls Tryd.prog 30 #[.pointer (some ⟨p, 0, none⟩), v, .agg #[.int .i64 a, .int .i64 t, .int .i64 n]] w fun x w' =>
      ∃ v' th' pl', x = .returned (.tuple #[v', .bool true]) ∧ Two w' p tb pb v' th' pl' ∧ Nx a t n th pl th' pl' ∧ Kp w w' tb pb := by
  obtain ⟨hW, g1, k1, g2, k2, rfl, h1, h2, n1, n2, n3, n4⟩ := h
  have l2 := hW.tc.lt
  have l3 := hW.pc.lt
  have fin : ∀ x w' th' pl', Nx a t n th pl th' pl' → ActPost w p tb pb g1 g2 th' pl' x w' → ∃ v' th' pl', x = .returned (.tuple #[v', .bool true]) ∧ Two w' p tb pb v' th' pl' ∧ Nx a t n th pl th' pl' ∧ Kp w w' tb pb := by
    rintro x w' th' pl' hN ⟨v', rfl, ⟨a1, j1, a2, j2, rfl, hQ1, hQ2, hq1, hq2⟩, hW', hK⟩
    have ne1 : a1 ≠ tb ∧ a1 ≠ pb := by
      rcases hq1 with rfl | hq1
      · exact ⟨n1, n2⟩
      · exact ⟨by omega, by omega⟩
    have ne2 : a2 ≠ tb ∧ a2 ≠ pb := by
      rcases hq2 with rfl | hq2
      · exact ⟨n3, n4⟩
      · exact ⟨by omega, by omega⟩
    exact ⟨_, th', pl', rfl, ⟨hW', a1, j1, a2, j2, rfl, hQ1, hQ2, ne1.1, ne1.2, ne2.1, ne2.2⟩, hN, hK⟩
  by_cases h0 : a < 0
  · obtain ⟨th', c, e, hS⟩ := St.total t th
    exact (act_stepA hW h1 h2 n1 n2 n3 n4 hp h8 hm hS h0).mono fun x w' hx => fin x w' th' pl (.inr ⟨rfl, c, e, hS⟩) hx
  · by_cases h3 : 3 < a
    · obtain ⟨th', c, e, hS⟩ := St.total t th
      exact (act_stepB hW h1 h2 n1 n2 n3 n4 hp h8 hm hS h0 h3).mono fun x w' hx => fin x w' th' pl (.inr ⟨rfl, c, e, hS⟩) hx
    · obtain ⟨th', pl', e, hM⟩ := Mv.total a t n th pl (by omega)
      exact (act_move hW h1 h2 n1 n2 n3 n4 hp h8 hm hM h0 h3).mono fun x w' hx => fin x w' th' pl' (.inl ⟨e, hM⟩) hx
end Go.Proofs.YtnalpladieoegaaDoor
