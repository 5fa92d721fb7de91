/- few: some answer. Asked: the module lies. -/
import Derived.Test.YtjbinejaagpleaaDoorWka
namespace Go.Proofs.YtjbinejaagpleaaDoor
open Go.RowKit

set_option maxRecDepth 100000 in
set_option maxHeartbeats 16000000 in
theorem few_core {w : World} {va aa ca ta : Option Addr} {vc ac cc tc nv na nc nt : Nat} {mu co : Int} {T : List CodeM} (hn : T.length = nt) (_b4 : nt ≤ 281474976710656) (hT : Cds w ta T) :
    Calls Tryd.prog 13 #[.agg #[.slice va nv vc, .slice aa na ac, .slice ca nc cc, .int .i64 mu, .int .i64 co, .slice ta nt tc]] w fun e w' => (∃ b, e = .returned (.bool b)) ∧ Below w.heap.size w w' := by
  have hmx : Tryd.prog.follows .mixedOrders = true := by kernel_rfl
  have hB0 : Below w.heap.size w (w.alloc (.cells #[.slice va nv vc, .slice aa na ac, .slice ca nc cc, .int .i64 mu, .int .i64 co, .slice ta nt tc] 27)) := (Below.refl _ w).alloc (Nat.le_refl _) _
  have hx : (w.alloc (.cells #[.slice va nv vc, .slice aa na ac, .slice ca nc cc, .int .i64 mu, .int .i64 co, .slice ta nt tc] 27)).heap[w.heap.size]? = some (.cells #[.slice va nv vc, .slice aa na ac, .slice ca nc cc, .int .i64 mu, .int .i64 co, .slice ta nt tc] 27 (0, 0)) := World.alloc_heap_new w _
  have HF : Hid (Below w.heap.size w (w.alloc (.cells #[.slice va nv vc, .slice aa na ac, .slice ca nc cc, .int .i64 mu, .int .i64 co, .slice ta nt tc] 27)) ∧ (w.alloc (.cells #[.slice va nv vc, .slice aa na ac, .slice ca nc cc, .int .i64 mu, .int .i64 co, .slice ta nt tc] 27)).heap[w.heap.size]? = some (.cells #[.slice va nv vc, .slice aa na ac, .slice ca nc cc, .int .i64 mu, .int .i64 co, .slice ta nt tc] 27 (0, 0))) := Lib.hid ⟨hB0, hx⟩
  have HT := Lib.hid (And.intro hT hn)
  have x0 := cell_blk (k := 0) hx rfl
  have x1 := cell_blk (k := 1) hx rfl
  have x2 := cell_blk (k := 2) hx rfl
  clear hB0 hx hT hn
  go_enter Tryd.func13, Tryd.ntmps13
  go_wp2_with fail
  clear x0 x1 x2
  go_loopw [3, 4] (fun s x wr => ∃ (k : Nat) (n : Int), k ≤ nt ∧ x = .int .i64 k ∧ s = .int .i64 n ∧ Hid (Below w.heap.size w wr ∧ wr.heap[w.heap.size]? = some (.cells #[.slice va nv vc, .slice aa na ac, .slice ca nc cc, .int .i64 mu, .int .i64 co, .slice ta nt tc] 27 (0, 0)))) (fun _ x _ => nt - (intOf x).toNat)
  case atStart => exact ⟨0, _, Nat.zero_le _, rfl, rfl, HF⟩
  case round =>
    clear HF
    obtain ⟨k, n, hk, rfl, rfl, HF⟩ := hrel
    have r0 := cell_blk (k := 5) HF.out.2 rfl
    by_cases hkn : k < nt
    · have hki : (k : Int) < (nt : Int) := by omega
      by_cases hn3 : n ≤ 3000
      · obtain ⟨p1, o1, rfl, y0, y1, y2, y3, _⟩ := (HT.out.1.below HF.out.1 (Nat.le_refl _)) k (by rw [HT.out.2]; exact hkn)
        obtain ⟨c, hc⟩ : ∃ c, T.getD k default = c := ⟨_, rfl⟩
        rw [hc] at y0 y1 y2 y3
        clear hc y1
        obtain ⟨cn, cl, cia, cic, ci, cla, clc, cls⟩ := c
        dsimp only at y0 y2 y3
        obtain ⟨ni, hni⟩ : ∃ ni, ci.length = ni := ⟨_, rfl⟩
        obtain ⟨nl, hnl⟩ : ∃ nl, cls.length = nl := ⟨_, rfl⟩
        rw [hni] at y2
        rw [hnl] at y3
        clear hni hnl
        go_wp2_with fail
        refine wp_region_x [] (fun W => W.cell? ⟨w.heap.size, 5, none⟩ = some (.slice (some ⟨p1, o1, none⟩) nt tc) ∧ W.cell? ⟨p1, o1 + k * 4, none⟩ = some (.string cn) ∧ W.cell? ⟨p1, o1 + k * 4 + 2, none⟩ = some (.slice cia ni cic) ∧ W.cell? ⟨p1, o1 + k * 4 + 3, none⟩ = some (.slice cla nl clc)) hmx ?_
        have hS0 : wr.drew.cell? ⟨w.heap.size, 5, none⟩ = some (.slice (some ⟨p1, o1, none⟩) nt tc) ∧ wr.drew.cell? ⟨p1, o1 + k * 4, none⟩ = some (.string cn) ∧ wr.drew.cell? ⟨p1, o1 + k * 4 + 2, none⟩ = some (.slice cia ni cic) ∧ wr.drew.cell? ⟨p1, o1 + k * 4 + 3, none⟩ = some (.slice cla nl clc) := ⟨r0, y0, y2, y3⟩
        refine wpX_take 0 (v := ?va0) rfl (by kernel_rfl) (by kernel_rfl) (by kernel_rfl) (by kernel_rfl) (fun _ _ _ h => h) hS0 (Or.inl ⟨by kernel_rfl, ?a0⟩) ?_
        case a0 => (intro W2 hS1; obtain ⟨s0, s1, s2, s3⟩ := hS1; go_simp; with_reducible rfl)
        refine wpX_take 1 (v := ?va1) rfl (by kernel_rfl) (by kernel_rfl) (by kernel_rfl) (by kernel_rfl) (fun _ _ _ h => h) hS0 (Or.inl ⟨by kernel_rfl, ?a1⟩) ?_
        case a1 => (intro W2 hS1; obtain ⟨s0, s1, s2, s3⟩ := hS1; go_simp; with_reducible rfl)
        refine wpX_take 2 (v := ?va2) rfl (by kernel_rfl) (by kernel_rfl) (by kernel_rfl) (by kernel_rfl) (fun _ _ _ h => h) hS0 (Or.inl ⟨by kernel_rfl, ?a2⟩) ?_
        case a2 => (intro W2 hS1; obtain ⟨s0, s1, s2, s3⟩ := hS1; go_simp; with_reducible rfl)
        refine wpX_take 3 (v := ?va3) rfl (by kernel_rfl) (by kernel_rfl) (by kernel_rfl) (by kernel_rfl) (fun _ _ _ h => h) hS0 (Or.inl ⟨by kernel_rfl, ?a3⟩) ?_
        case a3 => (intro W2 hS1; obtain ⟨s0, s1, s2, s3⟩ := hS1; go_simp; with_reducible rfl)
        refine wpX_take 4 (v := ?va4) rfl (by kernel_rfl) (by kernel_rfl) (by kernel_rfl) (by kernel_rfl) (fun _ _ _ h => h) hS0 (Or.inl ⟨by kernel_rfl, ?a4⟩) ?_
        case a4 => (intro W2 hS1; obtain ⟨s0, s1, s2, s3⟩ := hS1; go_simp; with_reducible rfl)
        refine wpX_take 5 (v := ?va5) rfl (by kernel_rfl) (by kernel_rfl) (by kernel_rfl) (by kernel_rfl) (fun _ _ _ h => h) hS0 (Or.inl ⟨by kernel_rfl, ?a5⟩) ?_
        case a5 => (intro W2 hS1; obtain ⟨s0, s1, s2, s3⟩ := hS1; go_simp; with_reducible rfl)
        refine wpX_take 6 (v := ?va6) rfl (by kernel_rfl) (by kernel_rfl) (by kernel_rfl) (by kernel_rfl) (fun _ _ _ h => h) hS0 (Or.inl ⟨by kernel_rfl, ?a6⟩) ?_
        case a6 => (intro W2 hS1; obtain ⟨s0, s1, s2, s3⟩ := hS1; go_simp; with_reducible rfl)
        refine wpX_take 7 (v := ?va7) rfl (by kernel_rfl) (by kernel_rfl) (by kernel_rfl) (by kernel_rfl) (fun _ _ _ h => h) hS0 (Or.inl ⟨by kernel_rfl, ?a7⟩) ?_
        case a7 => (intro W2 hS1; obtain ⟨s0, s1, s2, s3⟩ := hS1; go_simp; with_reducible rfl)
        refine wpX_take 8 (v := ?va8) rfl (by kernel_rfl) (by kernel_rfl) (by kernel_rfl) (by kernel_rfl) (fun _ _ _ h => h) hS0 (Or.inl ⟨by kernel_rfl, ?a8⟩) ?_
        case a8 => (intro W2 hS1; obtain ⟨s0, s1, s2, s3⟩ := hS1; go_simp; with_reducible rfl)
        refine wpX_take 9 (v := ?va9) rfl (by kernel_rfl) (by kernel_rfl) (by kernel_rfl) (by kernel_rfl) (fun _ _ _ h => h) hS0 (Or.inl ⟨by kernel_rfl, ?a9⟩) ?_
        case a9 => (intro W2 hS1; obtain ⟨s0, s1, s2, s3⟩ := hS1; go_simp; with_reducible rfl)
        refine wpX_take 10 (v := ?va10) rfl (by kernel_rfl) (by kernel_rfl) (by kernel_rfl) (by kernel_rfl) (fun _ _ _ h => h) hS0 (Or.inl ⟨by kernel_rfl, ?a10⟩) ?_
        case a10 => (intro W2 hS1; obtain ⟨s0, s1, s2, s3⟩ := hS1; go_simp; with_reducible rfl)
        refine wpX_take 11 (v := ?va11) rfl (by kernel_rfl) (by kernel_rfl) (by kernel_rfl) (by kernel_rfl) (fun _ _ _ h => h) hS0 (Or.inl ⟨by kernel_rfl, ?a11⟩) ?_
        case a11 => (intro W2 hS1; obtain ⟨s0, s1, s2, s3⟩ := hS1; go_simp; with_reducible rfl)
        refine wpX_take 12 (v := ?va12) rfl (by kernel_rfl) (by kernel_rfl) (by kernel_rfl) (by kernel_rfl) (fun _ _ _ h => h) hS0 (Or.inl ⟨by kernel_rfl, ?a12⟩) ?_
        case a12 => (intro W2 hS1; obtain ⟨s0, s1, s2, s3⟩ := hS1; go_simp; with_reducible rfl)
        refine wpX_take 13 (v := ?va13) rfl (by kernel_rfl) (by kernel_rfl) (by kernel_rfl) (by kernel_rfl) (fun _ _ _ h => h) hS0 (Or.inl ⟨by kernel_rfl, ?a13⟩) ?_
        case a13 => (intro W2 hS1; obtain ⟨s0, s1, s2, s3⟩ := hS1; go_simp; with_reducible rfl)
        refine wpX_take 14 (v := ?va14) rfl (by kernel_rfl) (by kernel_rfl) (by kernel_rfl) (by kernel_rfl) (fun _ _ _ h => h) hS0 (Or.inl ⟨by kernel_rfl, ?a14⟩) ?_
        case a14 => (intro W2 hS1; obtain ⟨s0, s1, s2, s3⟩ := hS1; go_simp; with_reducible rfl)
        refine wpX_take 15 (v := ?va15) rfl (by kernel_rfl) (by kernel_rfl) (by kernel_rfl) (by kernel_rfl) (fun _ _ _ h => h) hS0 (Or.inl ⟨by kernel_rfl, ?a15⟩) ?_
        case a15 => (intro W2 hS1; obtain ⟨s0, s1, s2, s3⟩ := hS1; go_simp; with_reducible rfl)
        refine wpX_take 16 (v := ?va16) rfl (by kernel_rfl) (by kernel_rfl) (by kernel_rfl) (by kernel_rfl) (fun _ _ _ h => h) hS0 (Or.inl ⟨by kernel_rfl, ?a16⟩) ?_
        case a16 => (intro W2 hS1; obtain ⟨s0, s1, s2, s3⟩ := hS1; go_simp; with_reducible rfl)
        refine wpX_take 17 (v := ?va17) rfl (by kernel_rfl) (by kernel_rfl) (by kernel_rfl) (by kernel_rfl) (fun _ _ _ h => h) hS0 (Or.inl ⟨by kernel_rfl, ?a17⟩) ?_
        case a17 => (intro W2 hS1; obtain ⟨s0, s1, s2, s3⟩ := hS1; go_simp; with_reducible rfl)
        refine wpX_take 18 (v := ?va18) rfl (by kernel_rfl) (by kernel_rfl) (by kernel_rfl) (by kernel_rfl) (fun _ _ _ h => h) hS0 (Or.inl ⟨by kernel_rfl, ?a18⟩) ?_
        case a18 => (intro W2 hS1; obtain ⟨s0, s1, s2, s3⟩ := hS1; go_simp; with_reducible rfl)
        refine wpX_take 19 (v := ?va19) rfl (by kernel_rfl) (by kernel_rfl) (by kernel_rfl) (by kernel_rfl) (fun _ _ _ h => h) hS0 (Or.inl ⟨by kernel_rfl, ?a19⟩) ?_
        case a19 => (intro W2 hS1; obtain ⟨s0, s1, s2, s3⟩ := hS1; go_simp; with_reducible rfl)
        refine wpX_take 20 (v := ?va20) rfl (by kernel_rfl) (by kernel_rfl) (by kernel_rfl) (by kernel_rfl) (fun _ _ _ h => h) hS0 (Or.inl ⟨by kernel_rfl, ?a20⟩) ?_
        case a20 => (intro W2 hS1; obtain ⟨s0, s1, s2, s3⟩ := hS1; go_simp; with_reducible rfl)
        refine wpX_take 21 (v := ?va21) rfl (by kernel_rfl) (by kernel_rfl) (by kernel_rfl) (by kernel_rfl) (fun _ _ _ h => h) hS0 (Or.inl ⟨by kernel_rfl, ?a21⟩) ?_
        case a21 => (intro W2 hS1; obtain ⟨s0, s1, s2, s3⟩ := hS1; go_simp; with_reducible rfl)
        refine wpX_take 22 (v := ?va22) rfl (by kernel_rfl) (by kernel_rfl) (by kernel_rfl) (by kernel_rfl) (fun _ _ _ h => h) hS0 (Or.inl ⟨by kernel_rfl, ?a22⟩) ?_
        case a22 => (intro W2 hS1; obtain ⟨s0, s1, s2, s3⟩ := hS1; go_simp; with_reducible rfl)
        refine wpX_take 23 (v := ?va23) rfl (by kernel_rfl) (by kernel_rfl) (by kernel_rfl) (by kernel_rfl) (fun _ _ _ h => h) hS0 (Or.inl ⟨by kernel_rfl, ?a23⟩) ?_
        case a23 => (intro W2 hS1; obtain ⟨s0, s1, s2, s3⟩ := hS1; go_simp; with_reducible rfl)
        refine wpX_take 24 (v := ?va24) rfl (by kernel_rfl) (by kernel_rfl) (by kernel_rfl) (by kernel_rfl) (fun _ _ _ h => h) hS0 (Or.inl ⟨by kernel_rfl, ?a24⟩) ?_
        case a24 => (intro W2 hS1; obtain ⟨s0, s1, s2, s3⟩ := hS1; go_simp; with_reducible rfl)
        refine wpX_take 25 (v := ?va25) rfl (by kernel_rfl) (by kernel_rfl) (by kernel_rfl) (by kernel_rfl) (fun _ _ _ h => h) hS0 (Or.inl ⟨by kernel_rfl, ?a25⟩) ?_
        case a25 => (intro W2 hS1; obtain ⟨s0, s1, s2, s3⟩ := hS1; go_simp; with_reducible rfl)
        refine wpX_take 26 (v := ?va26) rfl (by kernel_rfl) (by kernel_rfl) (by kernel_rfl) (by kernel_rfl) (fun _ _ _ h => h) hS0 (Or.inl ⟨by kernel_rfl, ?a26⟩) ?_
        case a26 => (intro W2 hS1; obtain ⟨s0, s1, s2, s3⟩ := hS1; go_simp; with_reducible rfl)
        refine wpX_take 27 (v := ?va27) rfl (by kernel_rfl) (by kernel_rfl) (by kernel_rfl) (by kernel_rfl) (fun _ _ _ h => h) hS0 (Or.inl ⟨by kernel_rfl, ?a27⟩) ?_
        case a27 => (intro W2 hS1; obtain ⟨s0, s1, s2, s3⟩ := hS1; go_simp; with_reducible rfl)
        refine wpX_take 28 (v := ?va28) rfl (by kernel_rfl) (by kernel_rfl) (by kernel_rfl) (by kernel_rfl) (fun _ _ _ h => h) hS0 (Or.inl ⟨by kernel_rfl, ?a28⟩) ?_
        case a28 => (intro W2 hS1; obtain ⟨s0, s1, s2, s3⟩ := hS1; go_simp; with_reducible rfl)
        refine wpX_take 29 (v := ?va29) rfl (by kernel_rfl) (by kernel_rfl) (by kernel_rfl) (by kernel_rfl) (fun _ _ _ h => h) hS0 (Or.inl ⟨by kernel_rfl, ?a29⟩) ?_
        case a29 => (intro W2 hS1; obtain ⟨s0, s1, s2, s3⟩ := hS1; go_simp; with_reducible rfl)
        refine wpX_done (by kernel_rfl) ?_ _
        go_simp
        have HF2 : Hid (Below w.heap.size w wr.drew ∧ wr.drew.heap[w.heap.size]? = _) := Lib.hid ⟨HF.out.1.drew, HF.out.2⟩
        clear hS0 y0 y2 y3 r0 HF
        go_wp2
        case roundEnd => exact ⟨⟨k + 1, _, by omega, by go_num, rfl, HF2⟩, by simp [intOf]; omega⟩
      · go_wp2
        go_ret
        first | exact ⟨⟨_, rfl⟩, HF.out.1⟩ | exact ⟨Or.inl rfl, HF.out.1⟩ | exact ⟨Or.inr rfl, HF.out.1⟩
    · obtain rfl : nt = k := by omega
      go_wp2
      go_ret
      first | exact ⟨⟨_, rfl⟩, HF.out.1⟩ | exact ⟨Or.inl rfl, HF.out.1⟩ | exact ⟨Or.inr rfl, HF.out.1⟩
theorem few_any {w : World} {m : ModM} (h : ModOk w m) : Calls Tryd.prog 13 #[.agg m.cells] w fun e w' => (∃ b, e = .returned (.bool b)) ∧ Below w.heap.size w w' := few_core rfl h.tb h.tv
end Go.Proofs.YtjbinejaagpleaaDoor
