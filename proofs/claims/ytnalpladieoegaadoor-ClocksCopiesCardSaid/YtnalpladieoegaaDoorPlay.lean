/- Calls are played by both: what a law on plays walks. Asked: the calls lie there; the table of powers of ten is laid. -/
import Derived.Test.YtnalpladieoegaaDoorIs
import Derived.Test.YtnalpladieoegaaDoorWorks
import Derived.Test.YtnalpladieoegaaDoorRound2
namespace Go.Proofs.YtnalpladieoegaaDoor
open Go.RowKit Go.Shelf

/-- The slice at a, of len elements, holds calls. -/
def Acts (w : World) (a : Option Addr) (len : Nat) : Prop := ∀ i, i < len → ∃ b off, a = some ⟨b, off, none⟩ ∧ b < w.heap.size ∧ ∃ x y z : Int,
  w.cell? ⟨b, off + i * 3, none⟩ = some (.int .i64 x) ∧ w.cell? ⟨b, off + i * 3 + 1, none⟩ = some (.int .i64 y) ∧ w.cell? ⟨b, off + i * 3 + 2, none⟩ = some (.int .i64 z)
theorem Acts.below {w w' : World} {a : Option Addr} {len : Nat} (h : Acts w a len) (hb : Below w.heap.size w w') : Acts w' a len := fun i hi => by
  obtain ⟨b, off, ha, hlt, x, y, z, c0, c1, c2⟩ := h i hi
  exact ⟨b, off, ha, Nat.lt_of_lt_of_le hlt hb.size, x, y, z, (hb.cell (p := ⟨b, off + i * 3, none⟩) hlt).trans c0, (hb.cell (p := ⟨b, off + i * 3 + 1, none⟩) hlt).trans c1, (hb.cell (p := ⟨b, off + i * 3 + 2, none⟩) hlt).trans c2⟩

set_option maxHeartbeats 1000000 in
theorem small_yes (w : World) (n m : Int) (a : Option Addr) (len cap : Nat) (h1 : 1 ≤ n) (h2 : n ≤ 8) (h3 : 0 ≤ m) (h4 : m ≤ 20) (h5 : (len : Int) ≤ 100) :
    Calls Tryd.prog 24 #[.int .i64 n, .int .i64 m, .slice a len cap] w fun e w' => e = .returned (.bool true) ∧ w = w' := by
  go_enter Tryd.func24, Tryd.ntmps24
  go_wp2
  go_ret
  exact ⟨rfl, rfl⟩
set_option maxHeartbeats 1000000 in
theorem small_no (w : World) (n m : Int) (a : Option Addr) (len cap : Nat) (h : n < 1 ∨ 8 < n ∨ m < 0 ∨ 20 < m ∨ 100 < (len : Int)) :
    Calls Tryd.prog 24 #[.int .i64 n, .int .i64 m, .slice a len cap] w fun e w' => e = .returned (.bool false) ∧ w = w' := by
  by_cases h1 : 1 ≤ n
  · by_cases h2 : n ≤ 8
    · by_cases h3 : 0 ≤ m
      · by_cases h4 : m ≤ 20
        · have h5 : ¬ (len : Int) ≤ 100 := by omega
          clear h
          go_enter Tryd.func24, Tryd.ntmps24
          go_wp2
          go_ret
          exact ⟨rfl, rfl⟩
        · clear h
          go_enter Tryd.func24, Tryd.ntmps24
          go_wp2
          go_ret
          exact ⟨rfl, rfl⟩
      · clear h
        go_enter Tryd.func24, Tryd.ntmps24
        go_wp2
        go_ret
        exact ⟨rfl, rfl⟩
    · clear h
      go_enter Tryd.func24, Tryd.ntmps24
      go_wp2
      go_ret
      exact ⟨rfl, rfl⟩
  · clear h
    go_enter Tryd.func24, Tryd.ntmps24
    go_wp2
    go_ret
    exact ⟨rfl, rfl⟩

theorem RL.ne_bx {w : World} {g cap b : Nat} {l : List Ck} {s1 s2 : Value} (h : RL w g cap l) (hb : Bx w b s1 s2) : g ≠ b := by
  rintro rfl
  obtain ⟨_, cur, h1, _⟩ := h
  unfold Bx at hb
  rw [h1] at hb
  simp at hb
/-- What played leaves. -/
def Plyd (n m : Nat) (w : World) (x : Ending) (w' : World) : Prop :=
  ∃ p tb pb v th pl, x = .returned (.tuple #[.pointer (some ⟨p, 0, none⟩), v, .bool true]) ∧ Two w' p tb pb v th pl ∧ th.length = n ∧ pl.length = m ∧ Below w.heap.size w w' ∧ w.heap.size ≤ p ∧ w.heap.size ≤ tb ∧ w.heap.size ≤ pb

set_option maxRecDepth 100000 in
set_option maxHeartbeats 4000000 in
theorem played_any {w : World} {n m : Nat} {a : Option Addr} {len cap : Nat} (ha : Acts w a len) (hn : 1 ≤ n) (hn8 : n ≤ 8) (hm : m ≤ 20) (hl : len ≤ 100) :
    Calls Tryd.prog 25 #[.int .i64 (n : Int), .int .i64 (m : Int), .slice a len cap] w (Plyd n m w) := by
  have hmx : Tryd.prog.follows .mixedOrders = true := by kernel_rfl
  have hB0 : Below w.heap.size w (w.alloc (.cells #[sn, sn] 41)) := (Below.refl _ w).alloc (Nat.le_refl _) _
  have hD0 := Bx.new w sn sn
  go_enter Tryd.func25, Tryd.ntmps25
  go_wp2_with fail
  change Calls _ _ _ (w.alloc (.cells #[sn, sn] 41)) _
  generalize w.alloc (.cells #[sn, sn] 41) = W0 at *
  refine (new_in n m W0 hn hn8 (by omega)).mono ?_
  rintro x w1 ⟨p, tb, pb, rfl, hW1, hb1, q1, q2, q3⟩
  have hD1 := hD0.belowS hb1
  have hB1 : Below w.heap.size w w1 := hB0.trans (hb1.mono hB0.size)
  have z0' := hB0.size
  have z1 := hW1.ptl
  have z2 := hW1.tc.lt
  have z3 := hW1.pc.lt
  have z4 := hD0.lt
  clear hD0 hB0 hb1
  go_wp2_with fail
  refine (rnew_in n m w1 hn hn8 (by omega)).mono ?_
  rintro x w2 ⟨g1, g2, rfl, hR1, hR2, hb2, q4, q5⟩
  have hD2 := (hD1.belowS hb2).alloc (.cells #[.slice (some ⟨g1, 0, none⟩) n n, .slice (some ⟨g2, 0, none⟩) m m] 41)
  have hB2 : Below w.heap.size w w2 := hB1.trans (hb2.mono hB1.size)
  have hB3 := hB2.alloc hB2.size (.cells #[.slice (some ⟨g1, 0, none⟩) n n, .slice (some ⟨g2, 0, none⟩) m m] 41)
  have hW3 := (hW1.below hb2).kept (grown_alloc w2 (.cells #[.slice (some ⟨g1, 0, none⟩) n n, .slice (some ⟨g2, 0, none⟩) m m] 41))
  have hR13 := hR1.alloc (.cells #[.slice (some ⟨g1, 0, none⟩) n n, .slice (some ⟨g2, 0, none⟩) m m] 41)
  have hR23 := hR2.alloc (.cells #[.slice (some ⟨g1, 0, none⟩) n n, .slice (some ⟨g2, 0, none⟩) m m] 41)
  have hE3 := Bx.new w2 (.slice (some ⟨g1, 0, none⟩) n n) (.slice (some ⟨g2, 0, none⟩) m m)
  have z5 : w1.heap.size ≤ w2.heap.size := hb2.size
  clear hD1 hB1 hW1 hb2 hR1 hR2 hB2
  go_wp2_with (go_at_call 14; refine (num_any _ _).mono ?_; rintro x w' ⟨rfl, rfl⟩)
  obtain ⟨s2, hs2⟩ : ∃ s, w2.heap.size = s := ⟨_, rfl⟩
  rw [hs2] at hE3 z5 ⊢
  generalize w2.alloc (.cells #[.slice (some ⟨g1, 0, none⟩) n n, .slice (some ⟨g2, 0, none⟩) m m] 41) = W3 at *
  have hT3 : Two W3 p tb pb (.agg #[.slice (some ⟨g1, 0, none⟩) n n, .slice (some ⟨g2, 0, none⟩) m m]) (zs n) (zs m) := ⟨hW3, g1, n, g2, m, by rw [zs_len, zs_len], hR13, hR23, by omega, by omega, by omega, by omega⟩
  go_loopw [13, 14] (fun f i wr => ∃ k : Nat, k ≤ len ∧ f = .bool true ∧ i = .int .i64 k ∧ ∃ (S1 S2 : Value) (th pl : List Ck), Two wr p tb pb (.agg #[S1, S2]) th pl ∧ th.length = n ∧ pl.length = m ∧ Below w.heap.size w wr ∧ Bx wr s2 S1 S2 ∧ Bx wr w.heap.size sn sn) (fun _ i _ => len - (intOf i).toNat)
  case atStart => exact ⟨0, by omega, rfl, rfl, _, _, zs n, zs m, hT3, zs_len n, zs_len m, hB3, hE3, hD2⟩
  case round =>
    clear hB3 hE3 hD2 hT3 hW3 hR13 hR23
    obtain ⟨k, hk, rfl, rfl, S1, S2, th, pl, hT, hthl, hpll, hB, hE, hD⟩ := hrel
    obtain ⟨hW, g1, k1, g2, k2, hv, hR1, hR2, n1, n2, n3, n4⟩ := hT
    simp only [Value.agg.injEq, Array.mk.injEq, List.cons.injEq, and_true] at hv
    obtain ⟨rfl, rfl⟩ := hv
    have e0 : 0 < th.length := by omega
    have e8 : th.length ≤ 8 := by omega
    have em : pl.length ≤ 65536 := by omega
    have HL : Hid (th.length = n ∧ pl.length = m) := ⟨hthl, hpll⟩
    clear hthl hpll
    by_cases hlt : k < len
    · obtain ⟨b, off, rfl, hbl, x, y, z, c0, c1, c2⟩ := ha k hlt
      have hp0 : (0 : Int) ≤ (k : Int) := by omega
      have hp1 : (k : Int) < (len : Int) := by omega
      have hC : (∀ W', Below w.heap.size w W' → W'.cell? ⟨b, off + k * 3, none⟩ = some (.int .i64 x) ∧ W'.cell? ⟨b, off + k * 3 + 1, none⟩ = some (.int .i64 y) ∧ W'.cell? ⟨b, off + k * 3 + 2, none⟩ = some (.int .i64 z)) := fun W' hb =>
        ⟨(hb.cell (p := ⟨b, off + k * 3, none⟩) hbl).trans c0, (hb.cell (p := ⟨b, off + k * 3 + 1, none⟩) hbl).trans c1, (hb.cell (p := ⟨b, off + k * 3 + 2, none⟩) hbl).trans c2⟩
      clear c0 c1 c2
      go_wp2_with fail
      refine wp_region_x [8, 9, 10, 11] (fun W1 => Bx W1 s2 (.slice (some ⟨g1, 0, none⟩) th.length k1) (.slice (some ⟨g2, 0, none⟩) pl.length k2) ∧ Below w.heap.size w W1) hmx ?_
      have HS : Hid (Bx wr.drew s2 (.slice (some ⟨g1, 0, none⟩) th.length k1) (.slice (some ⟨g2, 0, none⟩) pl.length k2) ∧ Below w.heap.size w wr.drew) := ⟨hE.drew, hB.drew⟩
      refine wpX_take2 0 (v := ?v0) rfl (by kernel_rfl) (by kernel_rfl) (by kernel_rfl) (by kernel_rfl) (by kernel_rfl) (fun _ _ _ h => h) HS.out (Or.inl ⟨by rfl, ?h0⟩) ?_
      case h0 =>
        intro W1 hS1
        clear hS1
        go_simp
        with_reducible rfl
      refine wpX_take2 1 (v := ?v1) rfl (by kernel_rfl) (by kernel_rfl) (by kernel_rfl) (by kernel_rfl) (by kernel_rfl) (fun _ _ _ h => h) HS.out (Or.inl ⟨by rfl, ?h1⟩) ?_
      case h1 =>
        intro W1 hS1
        have b0 := hS1.1.c0
        have b1 := hS1.1.c1
        clear hS1
        go_simp
        with_reducible rfl
      refine wpX_take2 2 (v := ?v2) rfl (by kernel_rfl) (by kernel_rfl) (by kernel_rfl) (by kernel_rfl) (by kernel_rfl) (fun _ _ _ h => h) HS.out (Or.inl ⟨by rfl, ?h2⟩) ?_
      case h2 =>
        intro W1 hS1
        clear hS1
        go_simp
        with_reducible rfl
      refine wpX_take2 3 (v := ?v3) rfl (by kernel_rfl) (by kernel_rfl) (by kernel_rfl) (by kernel_rfl) (by kernel_rfl) (fun _ _ _ h => h) HS.out (Or.inl ⟨by rfl, ?h3⟩) ?_
      case h3 =>
        intro W1 hS1
        clear hS1
        go_simp
        with_reducible rfl
      refine wpX_take2 4 (v := ?v4) rfl (by kernel_rfl) (by kernel_rfl) (by kernel_rfl) (by kernel_rfl) (by kernel_rfl) (fun _ _ _ h => h) HS.out (Or.inl ⟨by rfl, ?h4⟩) ?_
      case h4 =>
        intro W1 hS1
        clear hS1
        go_simp
        with_reducible rfl
      refine wpX_take2 5 (v := ?v5) rfl (by kernel_rfl) (by kernel_rfl) (by kernel_rfl) (by kernel_rfl) (by kernel_rfl) (fun _ _ _ h => h) HS.out (Or.inl ⟨by rfl, ?h5⟩) ?_
      case h5 =>
        intro W1 hS1
        obtain ⟨c0, c1, c2⟩ := hC _ hS1.2
        clear hS1
        go_simp
        with_reducible rfl
      refine wpX_one 6 (by kernel_rfl) rfl (fun K hK => ?_)
      go_simp
      have hT : Two wr.drew p tb pb (.agg #[.slice (some ⟨g1, 0, none⟩) th.length k1, .slice (some ⟨g2, 0, none⟩) pl.length k2]) th pl := ⟨hW.drew, g1, k1, g2, k2, rfl, hR1.drew, hR2.drew, n1, n2, n3, n4⟩
      refine (act_any hT x y z e0 e8 em).mono ?_
      rintro e w5 ⟨v', th', pl', rfl, hT5, hN5, hk5⟩
      have HL' : Hid (th'.length = n ∧ pl'.length = m) := ⟨hN5.len.1.trans HL.out.1, hN5.len.2.trans HL.out.2⟩
      have y1 := hW.tc.lt
      have y2 := hW.pc.lt
      have y3 := hB.size
      have hk5' : Kp wr w5 tb pb := ⟨hk5.os, hk5.tape, hk5.output, hk5.size, hk5.block⟩
      have hE5 := hE.keep hk5' (by omega) (by omega)
      have hD5 := hD.keep hk5' (by omega) (by omega)
      have hB5 := hk5'.to_below hB y3 (by omega) (by omega)
      clear hk5 hk5' hN5 HS hT hW hR1 hR2 hE hD hB
      obtain ⟨hW5, a1, j1, a2, j2, rfl, hQ1, hQ2, m1, m2, m3, m4⟩ := hT5
      have HS : Hid (Bx w5 s2 (.slice (some ⟨g1, 0, none⟩) th.length k1) (.slice (some ⟨g2, 0, none⟩) pl.length k2) ∧ Below w.heap.size w w5) := ⟨hE5, hB5⟩
      refine hK _ _ (fun _ => HS.out) ?_
      clear hK K
      refine wpX_one 7 (by kernel_rfl) rfl (fun K hK => ?_)
      go_simp
      refine hK _ _ (fun _ => HS.out) ?_
      clear hK K
      refine wpX_two 8 9 (by kernel_rfl) rfl rfl (fun K hK => ?_) (fun K hK => ?_)
      · go_simp
        refine hK _ _ (fun h => by cases h) ?_
        clear hK K
        refine wpX_two 9 10 (by kernel_rfl) rfl rfl (fun K hK => ?_) (fun K hK => ?_)
        · go_simp
          refine hK _ _ (fun h => by cases h) ?_
          clear hK K
          refine wpX_one 10 (by kernel_rfl) rfl (fun K hK => ?_)
          have b0 := hE5.c0
          have b1 := hE5.c1
          have f0 := hE5.frozen 0
          have f1 := hE5.frozen 1
          go_simp
          refine hK _ _ (fun h => by cases h) ?_
          clear hK K
          refine wpX_one 11 (by kernel_rfl) rfl (fun K hK => ?_)
          go_simp
          refine hK _ _ (fun h => by cases h) ?_
          clear hK K
          refine wpX_done (by kernel_rfl) ?_ _
          (try clear b0 b1 f0 f1)
          have hg := set2_grown w5 s2 (.slice (some ⟨a1, 0, none⟩) th'.length j1) (.slice (some ⟨a2, 0, none⟩) pl'.length j2)
          have hE6 := hE5.set2 (.slice (some ⟨a1, 0, none⟩) th'.length j1) (.slice (some ⟨a2, 0, none⟩) pl'.length j2)
          have hD6 := hD5.kept hg (nesome (by omega))
          have hB6 := hB5.grown hg hB5.size (fun k e => by cases e; omega)
          have hT6 : Two ((w5.setCell ⟨s2, 0, none⟩ (.slice (some ⟨a1, 0, none⟩) th'.length j1)).setCell ⟨s2, 1, none⟩ (.slice (some ⟨a2, 0, none⟩) pl'.length j2)) p tb pb (.agg #[.slice (some ⟨a1, 0, none⟩) th'.length j1, .slice (some ⟨a2, 0, none⟩) pl'.length j2]) th' pl' :=
            ⟨hW5.newSet hg (by omega) (by omega) (by omega), a1, j1, a2, j2, rfl, hQ1.kept hg (nesome (hQ1.ne_bx hE5)), hQ2.kept hg (nesome (hQ2.ne_bx hE5)), m1, m2, m3, m4⟩
          go_wp2
          go_roundw
          case rel => exact ⟨k + 1, by omega, rfl, by go_num, _, _, th', pl', hT6, HL'.out.1, HL'.out.2, hB6, hE6, hD6⟩
          case measure => simp [intOf]; omega
        · have b0 := hE5.c0
          have b1 := hE5.c1
          have f0 := hE5.frozen 0
          have f1 := hE5.frozen 1
          go_simp
          refine hK _ _ (fun h => by cases h) ?_
          clear hK K
          refine wpX_one 9 (by kernel_rfl) rfl (fun K hK => ?_)
          go_simp
          refine hK _ _ (fun h => by cases h) ?_
          clear hK K
          refine wpX_one 11 (by kernel_rfl) rfl (fun K hK => ?_)
          go_simp
          refine hK _ _ (fun h => by cases h) ?_
          clear hK K
          refine wpX_done (by kernel_rfl) ?_ _
          (try clear b0 b1 f0 f1)
          have hg := set2_grown w5 s2 (.slice (some ⟨a1, 0, none⟩) th'.length j1) (.slice (some ⟨a2, 0, none⟩) pl'.length j2)
          have hE6 := hE5.set2 (.slice (some ⟨a1, 0, none⟩) th'.length j1) (.slice (some ⟨a2, 0, none⟩) pl'.length j2)
          have hD6 := hD5.kept hg (nesome (by omega))
          have hB6 := hB5.grown hg hB5.size (fun k e => by cases e; omega)
          have hT6 : Two ((w5.setCell ⟨s2, 0, none⟩ (.slice (some ⟨a1, 0, none⟩) th'.length j1)).setCell ⟨s2, 1, none⟩ (.slice (some ⟨a2, 0, none⟩) pl'.length j2)) p tb pb (.agg #[.slice (some ⟨a1, 0, none⟩) th'.length j1, .slice (some ⟨a2, 0, none⟩) pl'.length j2]) th' pl' :=
            ⟨hW5.newSet hg (by omega) (by omega) (by omega), a1, j1, a2, j2, rfl, hQ1.kept hg (nesome (hQ1.ne_bx hE5)), hQ2.kept hg (nesome (hQ2.ne_bx hE5)), m1, m2, m3, m4⟩
          go_wp2
          go_roundw
          case rel => exact ⟨k + 1, by omega, rfl, by go_num, _, _, th', pl', hT6, HL'.out.1, HL'.out.2, hB6, hE6, hD6⟩
          case measure => simp [intOf]; omega
      · go_simp
        refine hK _ _ (fun h => by cases h) ?_
        clear hK K
        refine wpX_one 8 (by kernel_rfl) rfl (fun K hK => ?_)
        go_simp
        refine hK _ _ (fun h => by cases h) ?_
        clear hK K
        refine wpX_one 10 (by kernel_rfl) rfl (fun K hK => ?_)
        have b0 := hE5.c0
        have b1 := hE5.c1
        have f0 := hE5.frozen 0
        have f1 := hE5.frozen 1
        go_simp
        refine hK _ _ (fun h => by cases h) ?_
        clear hK K
        refine wpX_one 11 (by kernel_rfl) rfl (fun K hK => ?_)
        go_simp
        refine hK _ _ (fun h => by cases h) ?_
        clear hK K
        refine wpX_done (by kernel_rfl) ?_ _
        (try clear b0 b1 f0 f1)
        have hg := set2_grown w5 s2 (.slice (some ⟨a1, 0, none⟩) th'.length j1) (.slice (some ⟨a2, 0, none⟩) pl'.length j2)
        have hE6 := hE5.set2 (.slice (some ⟨a1, 0, none⟩) th'.length j1) (.slice (some ⟨a2, 0, none⟩) pl'.length j2)
        have hD6 := hD5.kept hg (nesome (by omega))
        have hB6 := hB5.grown hg hB5.size (fun k e => by cases e; omega)
        have hT6 : Two ((w5.setCell ⟨s2, 0, none⟩ (.slice (some ⟨a1, 0, none⟩) th'.length j1)).setCell ⟨s2, 1, none⟩ (.slice (some ⟨a2, 0, none⟩) pl'.length j2)) p tb pb (.agg #[.slice (some ⟨a1, 0, none⟩) th'.length j1, .slice (some ⟨a2, 0, none⟩) pl'.length j2]) th' pl' :=
          ⟨hW5.newSet hg (by omega) (by omega) (by omega), a1, j1, a2, j2, rfl, hQ1.kept hg (nesome (hQ1.ne_bx hE5)), hQ2.kept hg (nesome (hQ2.ne_bx hE5)), m1, m2, m3, m4⟩
        go_wp2
        go_roundw
        case rel => exact ⟨k + 1, by omega, rfl, by go_num, _, _, th', pl', hT6, HL'.out.1, HL'.out.2, hB6, hE6, hD6⟩
        case measure => simp [intOf]; omega

    · obtain rfl : k = len := by omega
      go_wp2_with fail
      have q6 := hB.size
      have n5 : s2 ≠ w.heap.size := by omega
      refine wp_region_x [] (fun W1 => Bx W1 s2 (.slice (some ⟨g1, 0, none⟩) th.length k1) (.slice (some ⟨g2, 0, none⟩) pl.length k2)) hmx ?_
      have HS : Hid (Bx wr.drew s2 (.slice (some ⟨g1, 0, none⟩) th.length k1) (.slice (some ⟨g2, 0, none⟩) pl.length k2)) := hE.drew
      refine wpX_take 0 (v := ?u0) rfl (by kernel_rfl) (by kernel_rfl) (by kernel_rfl) (by kernel_rfl) (fun _ _ _ h => h) HS.out (Or.inl ⟨by rfl, ?q0⟩) ?_
      case q0 =>
        intro W1 hS1
        clear hS1
        go_simp
        with_reducible rfl
      refine wpX_take 1 (v := ?u1) rfl (by kernel_rfl) (by kernel_rfl) (by kernel_rfl) (by kernel_rfl) (fun _ _ _ h => h) HS.out (Or.inl ⟨by rfl, ?q1⟩) ?_
      case q1 =>
        intro W1 hS1
        have b0 := hS1.c0
        have b1 := hS1.c1
        clear hS1
        go_simp
        with_reducible rfl
      refine wpX_take 2 (v := ?u2) rfl (by kernel_rfl) (by kernel_rfl) (by kernel_rfl) (by kernel_rfl) (fun _ _ _ h => h) HS.out (Or.inl ⟨by rfl, ?q2⟩) ?_
      case q2 =>
        intro W1 hS1
        clear hS1
        go_simp
        with_reducible rfl
      refine wpX_take 3 (v := ?u3) rfl (by kernel_rfl) (by kernel_rfl) (by kernel_rfl) (by kernel_rfl) (fun _ _ _ h => h) HS.out (Or.inl ⟨by rfl, ?q3⟩) ?_
      case q3 =>
        intro W1 hS1
        clear hS1
        go_simp
        with_reducible rfl
      refine wpX_take 4 (v := ?u4) rfl (by kernel_rfl) (by kernel_rfl) (by kernel_rfl) (by kernel_rfl) (fun _ _ _ h => h) HS.out (Or.inl ⟨by rfl, ?q4⟩) ?_
      case q4 =>
        intro W1 hS1
        clear hS1
        go_simp
        with_reducible rfl
      refine wpX_take 5 (v := ?u5) rfl (by kernel_rfl) (by kernel_rfl) (by kernel_rfl) (by kernel_rfl) (fun _ _ _ h => h) HS.out (Or.inl ⟨by rfl, ?q5⟩) ?_
      case q5 =>
        intro W1 hS1
        have b0 := hS1.c0
        have b1 := hS1.c1
        clear hS1
        go_simp
        with_reducible rfl
      refine wpX_one 6 (by kernel_rfl) rfl (fun K hK => ?_)
      go_simp
      have hT : Two wr.drew p tb pb (.agg #[.slice (some ⟨g1, 0, none⟩) th.length k1, .slice (some ⟨g2, 0, none⟩) pl.length k2]) th pl := ⟨hW.drew, g1, k1, g2, k2, rfl, hR1.drew, hR2.drew, n1, n2, n3, n4⟩
      refine (is_any hT e0 e8 em).mono ?_
      rintro x w5 ⟨rfl, hb5⟩
      have hb5' : Below wr.heap.size wr w5 := (Below.refl wr.heap.size wr).drew.trans hb5
      have hE5 := hE.belowS hb5'
      have hD5 := hD.belowS hb5'
      have hB5 : Below w.heap.size w w5 := hB.trans (hb5'.mono q6)
      have hW5 := hW.below hb5'
      have hQ1 := hR1.belowS hb5'
      have hQ2 := hR2.belowS hb5'
      clear HS
      have HS : Hid (Bx w5 s2 (.slice (some ⟨g1, 0, none⟩) th.length k1) (.slice (some ⟨g2, 0, none⟩) pl.length k2)) := hE5
      refine hK _ _ (fun _ => HS.out) ?_
      clear hK K hb5 hb5' hT hW hR1 hR2 hE hD hB
      refine wpX_take 7 (v := ?u7) rfl (by kernel_rfl) (by kernel_rfl) (by kernel_rfl) (by kernel_rfl) (fun _ _ _ h => h) HS.out (Or.inl ⟨by rfl, ?q7⟩) ?_
      case q7 =>
        intro W1 hS1
        clear hS1
        go_simp
        with_reducible rfl
      refine wpX_one 8 (by kernel_rfl) rfl (fun K hK => ?_)
      go_simp
      refine hK _ _ (fun _ => HS.out) ?_
      clear hK K
      refine wpX_one 9 (by kernel_rfl) rfl (fun K hK => ?_)
      have b0 := hD5.c0
      have b1 := hD5.c1
      have f0 := hD5.frozen 0
      have f1 := hD5.frozen 1
      go_simp
      have hg := set2_grown w5 w.heap.size (.slice (some ⟨g1, 0, none⟩) th.length k1) (.slice (some ⟨g2, 0, none⟩) pl.length k2)
      have HS2 : Hid (Bx ((w5.setCell ⟨w.heap.size, 0, none⟩ (.slice (some ⟨g1, 0, none⟩) th.length k1)).setCell ⟨w.heap.size, 1, none⟩ (.slice (some ⟨g2, 0, none⟩) pl.length k2)) s2 (.slice (some ⟨g1, 0, none⟩) th.length k1) (.slice (some ⟨g2, 0, none⟩) pl.length k2)) := hE5.kept hg (nesome n5)
      refine hK _ _ (fun _ => HS2.out) ?_
      clear hK K b0 b1 f0 f1
      refine wpX_one 10 (by kernel_rfl) rfl (fun K hK => ?_)
      go_simp
      refine hK _ _ (fun _ => HS2.out) ?_
      clear hK K HS HS2
      refine wpX_done (by kernel_rfl) ?_ _
      have hD6 := hD5.set2 (.slice (some ⟨g1, 0, none⟩) th.length k1) (.slice (some ⟨g2, 0, none⟩) pl.length k2)
      have hB6 := hB5.grown hg hB5.size (fun k e => by cases e; exact Nat.le_refl _)
      have hT6 : Two ((w5.setCell ⟨w.heap.size, 0, none⟩ (.slice (some ⟨g1, 0, none⟩) th.length k1)).setCell ⟨w.heap.size, 1, none⟩ (.slice (some ⟨g2, 0, none⟩) pl.length k2)) p tb pb (.agg #[.slice (some ⟨g1, 0, none⟩) th.length k1, .slice (some ⟨g2, 0, none⟩) pl.length k2]) th pl :=
        ⟨hW5.newSet hg (by omega) (by omega) (by omega), g1, k1, g2, k2, rfl, hQ1.kept hg (nesome (hQ1.ne_bx hD5)), hQ2.kept hg (nesome (hQ2.ne_bx hD5)), n1, n2, n3, n4⟩
      go_wp2
      refine end_twt hD6 rfl rfl rfl rfl rfl ?_
      exact ⟨p, tb, pb, _, th, pl, rfl, hT6, HL.out.1, HL.out.2, hB6, by omega, by omega, by omega⟩

end Go.Proofs.YtnalpladieoegaaDoor
