/- The laws' common call: works: true. Asked: the tables of codes and of powers of ten. -/
import Derived.Test.YtjbinejaagpleaaDoorWka
namespace Go.Proofs.YtjbinejaagpleaaDoor
open Go.RowKit

set_option maxRecDepth 100000 in
set_option maxHeartbeats 16000000 in
theorem works_any (w : World) (hT : TabC w) (ht : Tab w) (h1 : 1 < w.heap.size) : Calls Tryd.prog 6 #[] w fun e w' => e = .returned (.bool true) ∧ Below w.heap.size w w' := by
  have hmx : Tryd.prog.follows .mixedOrders = true := by kernel_rfl
  have hfl : ∀ (x0 x1 x2 x3 x4 x5 : Value) (w : World), (Instr.field 27 (.agg #[x0, x1, x2, x3, x4, x5]) 5).run Tryd.prog w = .ok x5 w := fun _ _ _ _ _ _ _ => rfl
  go_enter Tryd.func6, Tryd.ntmps6
  go_wp2_with fail
  refine (some_any w).mono ?_
  rintro e w1 ⟨rfl, hb1, ho1⟩
  have ce : Calls Tryd.prog 7 #[.agg (someM w.heap.size).cells] w1 (EPost w1 (someM w.heap.size)) := encode_any (someM w.heap.size) w1 (hT.below hb1 hT.1) ho1.ok (fun c hc => (ho1.cs c hc).w (Nat.le_refl _))
  go_wp2_with fail
  refine ce.mono ?_
  rintro e w2 ⟨hb2, he⟩
  rw [if_pos (by rw [mMay_p, some_p]; exact someP_may), some_p] at he
  obtain ⟨v, rfl, hv⟩ := he
  obtain ⟨g, cap, rfl, hg, hg2, hcap, hc, cs_, hgb⟩ := own_bytes hv (show 0 < bytesW.length by rw [bytesW_len]; omega) rfl
  change w2.ownsRow w1.heap.size 5 1 (.slice (some ⟨g, 0, none⟩) bytesW.length cap) bytesW.length (u8s bytesW) at hv
  change bytesW.length ≤ cap at hcap
  change ∀ i, i < bytesW.length → w2.cell? ⟨g, 0 + i, none⟩ = some (.int .u8 ((bytesW.getD i 0 : Nat) : Int)) at hc
  rw [show (sealB (modP someP)).length = 36 from bytesW_len]
  rw [bytesW_len] at hcap hv
  have hcc := hc
  rw [bytesW_len] at hc
  have hB2 := hb1.trans (hb2.mono hb1.size)
  have cd : Calls Tryd.prog 10 #[.slice (some ⟨g, 0, none⟩) 36 cap] w2 (DPost w2 bytesW) := dec_long bytesW_len (by omega) hcap (by omega) bytesW_small hc (hT.below hB2 hT.1)
  go_wp2_with fail
  refine cd.mono ?_
  rintro e w3 ⟨hb3, he⟩
  rw [if_pos bytesW_sealed, bytesW_rd] at he
  obtain ⟨⟨va, vcap, vars, aa, acap, arrays, ca, ccap, chans, mu, co, ta, tcap, threads⟩, rfl, hm2, ho3⟩ := he
  have hB3 := hB2.trans (hb3.mono hB2.size)
  have hc3 : ∀ i, i < 36 → w3.cell? ⟨g, 0 + i, none⟩ = some (.int .u8 ((bytesW.getD i 0 : Nat) : Int)) := fun i hi => (hb3.cell (p := ⟨g, 0 + i, none⟩) hg2).trans (hc i hi)
  have hg3 := (hb3.block g hg2).trans hgb
  have hg4 : g < w3.heap.size := Nat.lt_of_lt_of_le hg2 hb3.size
  have hg5 : w.heap.size ≤ g := Nat.le_trans hb1.size hg
  simp only [ModM.cells]
  clear cd ce hc hcc hgb hv ho1 hb1 hb2 hb3 hg hg2
  have hB4 : Below w.heap.size w (w3.alloc (.cells #[.slice va vars.length vcap, .slice aa arrays.length acap, .slice ca chans.length ccap, .int .i64 mu, .int .i64 co, .slice ta threads.length tcap] 27)) := hB3.alloc hB3.size _
  have hA : Below w3.heap.size w3 (w3.alloc (.cells #[.slice va vars.length vcap, .slice aa arrays.length acap, .slice ca chans.length ccap, .int .i64 mu, .int .i64 co, .slice ta threads.length tcap] 27)) := (Below.refl _ w3).alloc (Nat.le_refl _) _
  have hx4 : (w3.alloc (.cells #[.slice va vars.length vcap, .slice aa arrays.length acap, .slice ca chans.length ccap, .int .i64 mu, .int .i64 co, .slice ta threads.length tcap] 27)).heap[w3.heap.size]? = some (.cells #[.slice va vars.length vcap, .slice aa arrays.length acap, .slice ca chans.length ccap, .int .i64 mu, .int .i64 co, .slice ta threads.length tcap] 27 (0, 0)) := World.alloc_heap_new _ _
  have hz4 : (w3.alloc (.cells #[.slice va vars.length vcap, .slice aa arrays.length acap, .slice ca chans.length ccap, .int .i64 mu, .int .i64 co, .slice ta threads.length tcap] 27)).heap.size = w3.heap.size + 1 := by simp
  have ho4 := ho3.below hA
  have hc4 : ∀ i, i < 36 → (w3.alloc (.cells #[.slice va vars.length vcap, .slice aa arrays.length acap, .slice ca chans.length ccap, .int .i64 mu, .int .i64 co, .slice ta threads.length tcap] 27)).cell? ⟨g, 0 + i, none⟩ = some (.int .u8 ((bytesW.getD i 0 : Nat) : Int)) := fun i hi => (hA.cell (p := ⟨g, 0 + i, none⟩) hg4).trans (hc3 i hi)
  have hg6 := (hA.block g hg4).trans hg3
  have HA := Lib.hid (And.intro hB4 (And.intro hx4 (And.intro hz4 (And.intro ho4 (And.intro hc4 hg6)))))
  have H3 := Lib.hid (And.intro hm2 (And.intro hg4 hg5))
  have HC := Lib.hid hcap
  clear hB4 hA hx4 hz4 ho4 hc4 hg6 hB3 hc3 hg3 ho3 hB2 hm2 hg4 hg5 hcap
  go_wp2_with fail
  obtain ⟨W4, hW4⟩ : ∃ W4, w3.alloc (.cells #[.slice va vars.length vcap, .slice aa arrays.length acap, .slice ca chans.length ccap, .int .i64 mu, .int .i64 co, .slice ta threads.length tcap] 27) = W4 := ⟨_, rfl⟩
  rw [hW4] at HA ⊢
  clear hW4
  obtain ⟨s4, hs4⟩ : ∃ s4, W4.heap.size = s4 := ⟨_, rfl⟩
  have cs : Calls Tryd.prog 17 #[] W4 fun e w' => e = .returned (.agg #[.slice (some ⟨s4 + 1, 0, none⟩) 1 1, .slice (some ⟨s4 + 1 + 1, 0, none⟩) 1 1, .slice (some ⟨s4 + 1 + 1 + 1, 0, none⟩) 1 1, .int .i64 1, .int .i64 1, .slice (some ⟨s4 + 1 + 1 + 1 + 1 + 1 + 1, 0, none⟩) 1 1]) ∧ Below W4.heap.size W4 w' ∧ OwnM w' s4 (someM s4) := by
    have := some_any W4
    rw [hs4] at this ⊢
    exact this
  refine cs.mono ?_
  rintro e w5 ⟨rfl, hb5, ho5⟩
  obtain ⟨hB4, hx4, hz4, ho4, hc4, hg4⟩ := HA.out
  have ttv := ho5.tv
  have tii := (ho5.cs (someC s4) (by simp [someM])).ii
  have u0 : w5.cell? ⟨s4 + 1 + 1 + 1 + 1 + 1 + 1, 2, none⟩ = some (.slice (some ⟨s4 + 1 + 1 + 1 + 1, 0, none⟩) 3 3) := by
    have := ttv.cells (g := s4 + 1 + 1 + 1 + 1 + 1 + 1) rfl 2 (.slice (some ⟨s4 + 1 + 1 + 1 + 1, 0, none⟩) 3 3) rfl
    simpa [Addr.add_lit] using this
  have u1 : w5.cell? ⟨s4 + 1 + 1 + 1 + 1, 0, none⟩ = some (.int .i64 26) := by
    have := tii.cells (g := s4 + 1 + 1 + 1 + 1) rfl 0 (.int .i64 26) rfl
    simpa [Addr.add_lit] using this
  have u2 : w5.cell? ⟨s4 + 1 + 1 + 1 + 1, 1, none⟩ = some (.int .i64 200) := by
    have := tii.cells (g := s4 + 1 + 1 + 1 + 1) rfl 1 (.int .i64 200) rfl
    simpa [Addr.add_lit] using this
  have u3 : w5.cell? ⟨s4 + 1 + 1 + 1 + 1, 2, none⟩ = some (.int .i64 0) := by
    have := tii.cells (g := s4 + 1 + 1 + 1 + 1) rfl 2 (.int .i64 0) rfl
    simpa [Addr.add_lit] using this
  have u4 : w5.cell? ⟨s4 + 1 + 1 + 1 + 1, 3, none⟩ = some (.int .i64 0) := by
    have := tii.cells (g := s4 + 1 + 1 + 1 + 1) rfl 3 (.int .i64 0) rfl
    simpa [Addr.add_lit] using this
  have hB5 := hB4.trans (hb5.mono hB4.size)
  have hx5 := (hb5.block w3.heap.size (by omega)).trans hx4
  have ho6 := ho4.below hb5
  have hc5 : ∀ i, i < 36 → w5.cell? ⟨g, 0 + i, none⟩ = some (.int .u8 ((bytesW.getD i 0 : Nat) : Int)) := fun i hi => (hb5.cell (p := ⟨g, 0 + i, none⟩) (by have := H3.out.2.1; show g < _; omega)).trans (hc4 i hi)
  have hg7 := (hb5.block g (by have := H3.out.2.1; omega)).trans hg4
  have hz5 := hb5.size
  have HF : Hid (Below w.heap.size w w5 ∧ w5.heap[w3.heap.size]? = some (.cells #[.slice va vars.length vcap, .slice aa arrays.length acap, .slice ca chans.length ccap, .int .i64 mu, .int .i64 co, .slice ta threads.length tcap] 27 (0, 0)) ∧ w3.heap.size < w5.heap.size ∧ OwnM w5 w2.heap.size ⟨va, vcap, vars, aa, acap, arrays, ca, ccap, chans, mu, co, ta, tcap, threads⟩ ∧ (∀ i, i < 36 → w5.cell? ⟨g, 0 + i, none⟩ = some (.int .u8 ((bytesW.getD i 0 : Nat) : Int))) ∧ w5.heap[g]? = some (.cells cs_ 5 (0, 0))) := Lib.hid ⟨hB5, hx5, by omega, ho6, hc5, hg7⟩
  clear cs hb5 ho5 ttv tii HA hB4 hx4 hz4 ho4 hc4 hg4 hB5 hx5 ho6 hc5 hg7 hz5
  go_wp2_with fail
  refine (text_wait w5 (hT.below HF.out.1 hT.1) (ht.below HF.out.1 h1) (Nat.lt_of_lt_of_le h1 HF.out.1.size)).mono ?_
  rintro e w6 ⟨rfl, hb6⟩
  have hB6 := HF.out.1.trans (hb6.mono HF.out.1.size)
  have hx6 := (hb6.block w3.heap.size HF.out.2.2.1).trans HF.out.2.1
  have HG : Hid (Below w.heap.size w w6 ∧ w6.heap[w3.heap.size]? = some (.cells #[.slice va vars.length vcap, .slice aa arrays.length acap, .slice ca chans.length ccap, .int .i64 mu, .int .i64 co, .slice ta threads.length tcap] 27 (0, 0)) ∧ w3.heap.size < w6.heap.size ∧ OwnM w6 w2.heap.size ⟨va, vcap, vars, aa, acap, arrays, ca, ccap, chans, mu, co, ta, tcap, threads⟩ ∧ (∀ i, i < 36 → w6.cell? ⟨g, 0 + i, none⟩ = some (.int .u8 ((bytesW.getD i 0 : Nat) : Int))) ∧ w6.heap[g]? = some (.cells cs_ 5 (0, 0))) := Lib.hid ⟨hB6, hx6, Nat.lt_of_lt_of_le HF.out.2.2.1 hb6.size, HF.out.2.2.2.1.below hb6, fun i hi => (hb6.cell (p := ⟨g, 0 + i, none⟩) (Nat.lt_trans H3.out.2.1 HF.out.2.2.1)).trans (HF.out.2.2.2.2.1 i hi), (hb6.block g (Nat.lt_trans H3.out.2.1 HF.out.2.2.1)).trans HF.out.2.2.2.2.2⟩
  clear u0 u1 u2 u3 u4 HF hb6 hB6 hx6
  have m0 := cell_blk (k := 0) HG.out.2.1 rfl
  have m1 := cell_blk (k := 1) HG.out.2.1 rfl
  have m2 := cell_blk (k := 2) HG.out.2.1 rfl
  have m3 := cell_blk (k := 3) HG.out.2.1 rfl
  have m4 := cell_blk (k := 4) HG.out.2.1 rfl
  have m5 := cell_blk (k := 5) HG.out.2.1 rfl
  go_wp2_with fail
  refine wp_region_x [] (fun W => W.cell? ⟨w3.heap.size, 0, none⟩ = some (.slice va vars.length vcap) ∧ W.cell? ⟨w3.heap.size, 1, none⟩ = some (.slice aa arrays.length acap) ∧ W.cell? ⟨w3.heap.size, 2, none⟩ = some (.slice ca chans.length ccap) ∧ W.cell? ⟨w3.heap.size, 3, none⟩ = some (.int .i64 mu) ∧ W.cell? ⟨w3.heap.size, 4, none⟩ = some (.int .i64 co) ∧ W.cell? ⟨w3.heap.size, 5, none⟩ = some (.slice ta threads.length tcap)) hmx ?_
  have hS0 : w6.drew.cell? ⟨w3.heap.size, 0, none⟩ = some (.slice va vars.length vcap) ∧ w6.drew.cell? ⟨w3.heap.size, 1, none⟩ = some (.slice aa arrays.length acap) ∧ w6.drew.cell? ⟨w3.heap.size, 2, none⟩ = some (.slice ca chans.length ccap) ∧ w6.drew.cell? ⟨w3.heap.size, 3, none⟩ = some (.int .i64 mu) ∧ w6.drew.cell? ⟨w3.heap.size, 4, none⟩ = some (.int .i64 co) ∧ w6.drew.cell? ⟨w3.heap.size, 5, none⟩ = some (.slice ta threads.length tcap) := ⟨m0, m1, m2, m3, m4, m5⟩
  have HG1 : Hid (Below w.heap.size w w6.drew ∧ w6.drew.heap[w3.heap.size]? = some (.cells #[.slice va vars.length vcap, .slice aa arrays.length acap, .slice ca chans.length ccap, .int .i64 mu, .int .i64 co, .slice ta threads.length tcap] 27 (0, 0)) ∧ w3.heap.size < w6.drew.heap.size ∧ OwnM w6.drew w2.heap.size ⟨va, vcap, vars, aa, acap, arrays, ca, ccap, chans, mu, co, ta, tcap, threads⟩ ∧ (∀ i, i < 36 → w6.drew.cell? ⟨g, 0 + i, none⟩ = some (.int .u8 ((bytesW.getD i 0 : Nat) : Int))) ∧ w6.drew.heap[g]? = some (.cells cs_ 5 (0, 0))) := Lib.hid ⟨HG.out.1.drew, HG.out.2.1, HG.out.2.2.1, HG.out.2.2.2.1.below (Below.refl _ _).drew, HG.out.2.2.2.2⟩
  clear HG m0 m1 m2 m3 m4 m5
  generalize w6.drew = W6 at *
  refine wpX_take 0 (v := ?va0) rfl (by kernel_rfl) (by kernel_rfl) (by kernel_rfl) (by kernel_rfl) (fun _ _ _ h => h) hS0 (Or.inl ⟨by kernel_rfl, ?a0⟩) ?_
  case a0 => (intro W2 hS1; obtain ⟨p0, p1, p2, p3, p4, p5⟩ := hS1; go_simp; with_reducible rfl)
  refine wpX_take 2 (v := ?va2) rfl (by kernel_rfl) (by kernel_rfl) (by kernel_rfl) (by kernel_rfl) (fun _ _ _ h => h) hS0 (Or.inl ⟨by kernel_rfl, ?a2⟩) ?_
  case a2 => (intro W2 hS1; obtain ⟨p0, p1, p2, p3, p4, p5⟩ := hS1; go_simp; with_reducible rfl)
  refine wpX_take 5 (v := ?va5) rfl (by kernel_rfl) (by kernel_rfl) (by kernel_rfl) (by kernel_rfl) (fun _ _ _ h => h) hS0 (Or.inl ⟨by kernel_rfl, ?a5⟩) ?_
  case a5 => (intro W2 hS1; obtain ⟨p0, p1, p2, p3, p4, p5⟩ := hS1; go_simp; with_reducible rfl)
  refine wpX_one 1 (by kernel_rfl) rfl (fun K hK => ?_)
  go_simp
  refine (num_any 0 _).mono ?_
  rintro e w' ⟨rfl, rfl⟩
  refine hK _ _ (fun _ => hS0) ?_
  clear hK K
  refine wpX_one 3 (by kernel_rfl) rfl (fun K hK => ?_)
  go_simp
  refine (num_any 0 _).mono ?_
  rintro e w' ⟨rfl, rfl⟩
  refine hK _ _ (fun _ => hS0) ?_
  clear hK K
  refine wpX_take 4 (v := ?va4) rfl (by kernel_rfl) (by kernel_rfl) (by kernel_rfl) (by kernel_rfl) (fun _ _ _ h => h) hS0 (Or.inl ⟨by kernel_rfl, ?a4⟩) ?_
  case a4 => (intro W2 hS1; obtain ⟨p0, p1, p2, p3, p4, p5⟩ := hS1; go_simp; with_reducible rfl)
  refine wpX_one 6 (by kernel_rfl) rfl (fun K hK => ?_)
  go_simp
  refine (num_any 0 _).mono ?_
  rintro e w' ⟨rfl, rfl⟩
  refine hK _ _ (fun _ => hS0) ?_
  clear hK K
  refine wpX_take 7 (v := ?va7) rfl (by kernel_rfl) (by kernel_rfl) (by kernel_rfl) (by kernel_rfl) (fun _ _ _ h => h) hS0 (Or.inl ⟨by kernel_rfl, ?a7⟩) ?_
  case a7 => (intro W2 hS1; obtain ⟨p0, p1, p2, p3, p4, p5⟩ := hS1; go_simp; with_reducible rfl)
  refine wpX_take 8 (v := ?va8) rfl (by kernel_rfl) (by kernel_rfl) (by kernel_rfl) (by kernel_rfl) (fun _ _ _ h => h) hS0 (Or.inl ⟨by kernel_rfl, ?a8⟩) ?_
  case a8 => (intro W2 hS1; obtain ⟨p0, p1, p2, p3, p4, p5⟩ := hS1; go_simp; with_reducible rfl)
  refine wpX_take 9 (v := ?va9) rfl (by kernel_rfl) (by kernel_rfl) (by kernel_rfl) (by kernel_rfl) (fun _ _ _ h => h) hS0 (Or.inl ⟨by kernel_rfl, ?a9⟩) ?_
  case a9 => (intro W2 hS1; obtain ⟨p0, p1, p2, p3, p4, p5⟩ := hS1; go_simp; with_reducible rfl)
  refine wpX_take 10 (v := ?va10) rfl (by kernel_rfl) (by kernel_rfl) (by kernel_rfl) (by kernel_rfl) (fun _ _ _ h => h) hS0 (Or.inl ⟨by kernel_rfl, ?a10⟩) ?_
  case a10 => (intro W2 hS1; obtain ⟨p0, p1, p2, p3, p4, p5⟩ := hS1; go_simp; with_reducible rfl)
  obtain ⟨s8, hs8⟩ : ∃ s8, W6.heap.size = s8 := ⟨_, rfl⟩
  have cs : Calls Tryd.prog 17 #[] W6 fun e w' => e = .returned (.agg #[.slice (some ⟨s8 + 1, 0, none⟩) 1 1, .slice (some ⟨s8 + 1 + 1, 0, none⟩) 1 1, .slice (some ⟨s8 + 1 + 1 + 1, 0, none⟩) 1 1, .int .i64 1, .int .i64 1, .slice (some ⟨s8 + 1 + 1 + 1 + 1 + 1 + 1, 0, none⟩) 1 1]) ∧ Below W6.heap.size W6 w' ∧ OwnM w' s8 (someM s8) := by
    have := some_any W6
    rw [hs8] at this ⊢
    exact this
  refine wpX_one 11 (by kernel_rfl) rfl (fun K hK => ?_)
  rw [if_pos (by kernel_rfl)]
  go_simp
  refine cs.mono ?_
  rintro e w8 ⟨rfl, hb8, ho8⟩
  clear cs
  have HG8 : Hid (Below w.heap.size w w8 ∧ w8.heap[w3.heap.size]? = some (.cells #[.slice va vars.length vcap, .slice aa arrays.length acap, .slice ca chans.length ccap, .int .i64 mu, .int .i64 co, .slice ta threads.length tcap] 27 (0, 0)) ∧ w3.heap.size < w8.heap.size ∧ OwnM w8 w2.heap.size ⟨va, vcap, vars, aa, acap, arrays, ca, ccap, chans, mu, co, ta, tcap, threads⟩ ∧ (∀ i, i < 36 → w8.cell? ⟨g, 0 + i, none⟩ = some (.int .u8 ((bytesW.getD i 0 : Nat) : Int))) ∧ w8.heap[g]? = some (.cells cs_ 5 (0, 0))) := Lib.hid ⟨HG1.out.1.trans (hb8.mono HG1.out.1.size), (hb8.block w3.heap.size HG1.out.2.2.1).trans HG1.out.2.1, Nat.lt_of_lt_of_le HG1.out.2.2.1 hb8.size, HG1.out.2.2.2.1.below hb8, fun i hi => (hb8.cell (p := ⟨g, 0 + i, none⟩) (Nat.lt_trans H3.out.2.1 HG1.out.2.2.1)).trans (HG1.out.2.2.2.2.1 i hi), (hb8.block g (Nat.lt_trans H3.out.2.1 HG1.out.2.2.1)).trans HG1.out.2.2.2.2.2⟩
  have hS8 : w8.cell? ⟨w3.heap.size, 0, none⟩ = some (.slice va vars.length vcap) ∧ w8.cell? ⟨w3.heap.size, 1, none⟩ = some (.slice aa arrays.length acap) ∧ w8.cell? ⟨w3.heap.size, 2, none⟩ = some (.slice ca chans.length ccap) ∧ w8.cell? ⟨w3.heap.size, 3, none⟩ = some (.int .i64 mu) ∧ w8.cell? ⟨w3.heap.size, 4, none⟩ = some (.int .i64 co) ∧ w8.cell? ⟨w3.heap.size, 5, none⟩ = some (.slice ta threads.length tcap) := ⟨cell_blk HG8.out.2.1 rfl, cell_blk HG8.out.2.1 rfl, cell_blk HG8.out.2.1 rfl, cell_blk HG8.out.2.1 rfl, cell_blk HG8.out.2.1 rfl, cell_blk HG8.out.2.1 rfl⟩
  refine hK _ _ (fun _ => hS8) ?_
  clear hK K
  have csame := rsame_yes (a := ⟨va, vcap, vars, aa, acap, arrays, ca, ccap, chans, mu, co, ta, tcap, threads⟩) (b := someM s8) HG8.out.2.2.2.1.ok ho8.ok (by rw [some_p]; exact H3.out.1)
  have e8 : (someM s8).cells = #[.slice (some ⟨s8 + 1, 0, none⟩) 1 1, .slice (some ⟨s8 + 1 + 1, 0, none⟩) 1 1, .slice (some ⟨s8 + 1 + 1 + 1, 0, none⟩) 1 1, .int .i64 1, .int .i64 1, .slice (some ⟨s8 + 1 + 1 + 1 + 1 + 1 + 1, 0, none⟩) 1 1] := rfl
  have e9 : ModM.cells ⟨va, vcap, vars, aa, acap, arrays, ca, ccap, chans, mu, co, ta, tcap, threads⟩ = #[.slice va vars.length vcap, .slice aa arrays.length acap, .slice ca chans.length ccap, .int .i64 mu, .int .i64 co, .slice ta threads.length tcap] := rfl
  rw [e8, e9] at csame
  clear e8 e9
  clear ho8 hb8 hs8 hS0 HG1
  refine wpX_one 12 (by kernel_rfl) rfl (fun K hK => ?_)
  rw [if_pos (by kernel_rfl)]
  go_simp
  refine csame.mono ?_
  rintro e w9 ⟨rfl, hb9⟩
  clear csame
  have HG9 : Hid (Below w.heap.size w w9 ∧ w9.heap[w3.heap.size]? = some (.cells #[.slice va vars.length vcap, .slice aa arrays.length acap, .slice ca chans.length ccap, .int .i64 mu, .int .i64 co, .slice ta threads.length tcap] 27 (0, 0)) ∧ (∀ i, i < 36 → w9.cell? ⟨g, 0 + i, none⟩ = some (.int .u8 ((bytesW.getD i 0 : Nat) : Int))) ∧ w9.heap[g]? = some (.cells cs_ 5 (0, 0)) ∧ g < w9.heap.size) := Lib.hid ⟨HG8.out.1.trans (hb9.mono HG8.out.1.size), (hb9.block w3.heap.size HG8.out.2.2.1).trans HG8.out.2.1, fun i hi => (hb9.cell (p := ⟨g, 0 + i, none⟩) (Nat.lt_trans H3.out.2.1 HG8.out.2.2.1)).trans (HG8.out.2.2.2.2.1 i hi), (hb9.block g (Nat.lt_trans H3.out.2.1 HG8.out.2.2.1)).trans HG8.out.2.2.2.2.2, Nat.lt_of_lt_of_le (Nat.lt_trans H3.out.2.1 HG8.out.2.2.1) hb9.size⟩
  have hS0 : w9.cell? ⟨w3.heap.size, 0, none⟩ = some (.slice va vars.length vcap) ∧ w9.cell? ⟨w3.heap.size, 1, none⟩ = some (.slice aa arrays.length acap) ∧ w9.cell? ⟨w3.heap.size, 2, none⟩ = some (.slice ca chans.length ccap) ∧ w9.cell? ⟨w3.heap.size, 3, none⟩ = some (.int .i64 mu) ∧ w9.cell? ⟨w3.heap.size, 4, none⟩ = some (.int .i64 co) ∧ w9.cell? ⟨w3.heap.size, 5, none⟩ = some (.slice ta threads.length tcap) := ⟨cell_blk HG9.out.2.1 rfl, cell_blk HG9.out.2.1 rfl, cell_blk HG9.out.2.1 rfl, cell_blk HG9.out.2.1 rfl, cell_blk HG9.out.2.1 rfl, cell_blk HG9.out.2.1 rfl⟩
  refine hK _ _ (fun _ => hS0) ?_
  clear hK K hb9 HG8 hS8
  refine wpX_take 13 (v := ?va13) rfl (by kernel_rfl) (by kernel_rfl) (by kernel_rfl) (by kernel_rfl) (fun _ _ _ h => h) hS0 (Or.inl ⟨by kernel_rfl, ?a13⟩) ?_
  case a13 => (intro W2 hS1; obtain ⟨p0, p1, p2, p3, p4, p5⟩ := hS1; go_simp; with_reducible rfl)
  refine wpX_take 14 (v := ?va14) rfl (by kernel_rfl) (by kernel_rfl) (by kernel_rfl) (by kernel_rfl) (fun _ _ _ h => h) hS0 (Or.inl ⟨by kernel_rfl, ?a14⟩) ?_
  case a14 => (intro W2 hS1; obtain ⟨p0, p1, p2, p3, p4, p5⟩ := hS1; go_simp; with_reducible rfl)
  refine wpX_take 15 (v := ?va15) rfl (by kernel_rfl) (by kernel_rfl) (by kernel_rfl) (by kernel_rfl) (fun _ _ _ h => h) hS0 (Or.inl ⟨by kernel_rfl, ?a15⟩) ?_
  case a15 => (intro W2 hS1; obtain ⟨p0, p1, p2, p3, p4, p5⟩ := hS1; go_simp; with_reducible rfl)
  refine wpX_take 16 (v := ?va16) rfl (by kernel_rfl) (by kernel_rfl) (by kernel_rfl) (by kernel_rfl) (fun _ _ _ h => h) hS0 (Or.inl ⟨by kernel_rfl, ?a16⟩) ?_
  case a16 => (intro W2 hS1; obtain ⟨p0, p1, p2, p3, p4, p5⟩ := hS1; go_simp; with_reducible rfl)
  refine wpX_take 17 (v := ?va17) rfl (by kernel_rfl) (by kernel_rfl) (by kernel_rfl) (by kernel_rfl) (fun _ _ _ h => h) hS0 (Or.inl ⟨by kernel_rfl, ?a17⟩) ?_
  case a17 => (intro W2 hS1; obtain ⟨p0, p1, p2, p3, p4, p5⟩ := hS1; go_simp; with_reducible rfl)
  refine wpX_take 18 (v := ?va18) rfl (by kernel_rfl) (by kernel_rfl) (by kernel_rfl) (by kernel_rfl) (fun _ _ _ h => h) hS0 (Or.inl ⟨by kernel_rfl, ?a18⟩) ?_
  case a18 => (intro W2 hS1; obtain ⟨p0, p1, p2, p3, p4, p5⟩ := hS1; go_simp; with_reducible rfl)
  refine wpX_take 19 (v := ?va19) rfl (by kernel_rfl) (by kernel_rfl) (by kernel_rfl) (by kernel_rfl) (fun _ _ _ h => h) hS0 (Or.inl ⟨by kernel_rfl, ?a19⟩) ?_
  case a19 => (intro W2 hS1; obtain ⟨p0, p1, p2, p3, p4, p5⟩ := hS1; go_simp; with_reducible rfl)
  refine wpX_take 20 (v := ?va20) rfl (by kernel_rfl) (by kernel_rfl) (by kernel_rfl) (by kernel_rfl) (fun _ _ _ h => h) hS0 (Or.inl ⟨by kernel_rfl, ?a20⟩) ?_
  case a20 => (intro W2 hS1; obtain ⟨p0, p1, p2, p3, p4, p5⟩ := hS1; go_simp; with_reducible rfl)
  refine wpX_take 21 (v := ?va21) rfl (by kernel_rfl) (by kernel_rfl) (by kernel_rfl) (by kernel_rfl) (fun _ _ _ h => h) hS0 (Or.inl ⟨by kernel_rfl, ?a21⟩) ?_
  case a21 => (intro W2 hS1; obtain ⟨p0, p1, p2, p3, p4, p5⟩ := hS1; go_simp; with_reducible rfl)
  refine wpX_take 22 (v := ?va22) rfl (by kernel_rfl) (by kernel_rfl) (by kernel_rfl) (by kernel_rfl) (fun _ _ _ h => h) hS0 (Or.inl ⟨by kernel_rfl, ?a22⟩) ?_
  case a22 => (intro W2 hS1; obtain ⟨p0, p1, p2, p3, p4, p5⟩ := hS1; go_simp; with_reducible rfl)
  refine wpX_take 23 (v := ?va23) rfl (by kernel_rfl) (by kernel_rfl) (by kernel_rfl) (by kernel_rfl) (fun _ _ _ h => h) hS0 (Or.inl ⟨by kernel_rfl, ?a23⟩) ?_
  case a23 => (intro W2 hS1; obtain ⟨p0, p1, p2, p3, p4, p5⟩ := hS1; go_simp; with_reducible rfl)
  refine wpX_done (by kernel_rfl) ?_ _
  go_simp
  clear hS0
  have c6 : w9.cell? ⟨g, 6, none⟩ = some (.int .u8 1) := by
    have := HG9.out.2.2.1 6 (by decide)
    rw [bytesW_6] at this
    simpa using this
  have f6 : w9.frozen? ⟨g, 6, none⟩ = false := froz_blk HG9.out.2.2.2.1
  have q0 : (IntKind.i64.wrap (IntKind.i64.wrap 0) != 0) = false := by decide
  have q1 : (!waitT.toList == [119, 97, 105, 116, 32, 50, 48, 48, 32, 48]) = false := by kernel_rfl
  go_wp2_with fail
  · exfalso
    rename_i hh
    rw [q0, q1] at hh
    simp at hh
  clear c6 f6 q0 q1
  have hB10 : Below w.heap.size w (w9.setCell ⟨g, 6, none⟩ (.int .u8 2)) := HG9.out.1.setCell H3.out.2.2 _
  have hc10 : ∀ i, i < 36 → (w9.setCell ⟨g, 6, none⟩ (.int .u8 2)).cell? ⟨g, 0 + i, none⟩ = some (.int .u8 (((bytesW.set 6 2).getD i 0 : Nat) : Int)) := by
    intro i hi
    have h := HG9.out.2.2.1 i hi
    by_cases h6 : i = 6
    · subst h6
      have e := World.cell?_setCell_same (w := w9) (a := ⟨g, 6, none⟩) (v := .int .u8 2) h
      rw [show (bytesW.set 6 2).getD 6 0 = 2 from by kernel_rfl]
      exact e
    · have e : (w9.setCell ⟨g, 6, none⟩ (.int .u8 2)).cell? ⟨g, 0 + i, none⟩ = w9.cell? ⟨g, 0 + i, none⟩ := World.cell?_setCell_other _ _ _ _ (by intro e; have := congrArg Addr.off e; simp at this; omega)
      rw [e, h, List.getD_eq_getElem?_getD, List.getD_eq_getElem?_getD, List.getElem?_set_ne (by omega)]
  have cd : Calls Tryd.prog 10 #[.slice (some ⟨g, 0, none⟩) 36 cap] (w9.setCell ⟨g, 6, none⟩ (.int .u8 2)) (DPost (w9.setCell ⟨g, 6, none⟩ (.int .u8 2)) (bytesW.set 6 2)) := dec_long (by rw [List.length_set]; exact bytesW_len) (by omega) HC.out (by omega) (fun x hx => by
    rcases List.mem_or_eq_of_mem_set hx with h | h
    · exact bytesW_small x h
    · omega) hc10 (hT.below hB10 hT.1)
  clear hc10
  refine cd.mono ?_
  rintro e w11 ⟨hb11, he⟩
  rw [if_neg (by rw [bytesW_set]; decide)] at he
  subst he
  have hB11 := hB10.trans (hb11.mono hB10.size)
  clear cd hB10 hb11
  unfold zeroM
  go_wp2_with fail
  have hB12 := hB11.alloc hB11.size (.cells #[.slice none 0 0, .slice none 0 0, .slice none 0 0, .int .i64 0, .int .i64 0, .slice none 0 0] 27)
  refine (num_any 160 _).mono ?_
  rintro e w' ⟨rfl, rfl⟩
  go_wp2
  go_ret
  exact ⟨rfl, hB12⟩
end Go.Proofs.YtjbinejaagpleaaDoor
