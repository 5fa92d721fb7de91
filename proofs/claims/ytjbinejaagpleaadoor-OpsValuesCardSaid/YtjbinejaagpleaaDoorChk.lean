/- The program's Check: may a module be. Asked: the module lies; the table of codes. -/
import Derived.Test.YtjbinejaagpleaaDoorMayC
namespace Go.Proofs.YtjbinejaagpleaaDoor
open Go.RowKit

/-- A module: its lists, and where they lie. -/
structure ModM where
  va : Option Addr
  vcap : Nat
  vars : List Int
  aa : Option Addr
  acap : Nat
  arrays : List Int
  ca : Option Addr
  ccap : Nat
  chans : List Int
  mu : Int
  co : Int
  ta : Option Addr
  tcap : Nat
  threads : List CodeM
def ModM.cells (m : ModM) : Array Value := #[.slice m.va m.vars.length m.vcap, .slice m.aa m.arrays.length m.acap, .slice m.ca m.chans.length m.ccap, .int .i64 m.mu, .int .i64 m.co, .slice m.ta m.threads.length m.tcap]
structure ModOk (w : World) (m : ModM) : Prop where
  vv : Ints w m.va m.vars
  av : Ints w m.aa m.arrays
  cv : Ints w m.ca m.chans
  tv : Cds w m.ta m.threads
  vb : m.vars.length ≤ 281474976710656
  ab : m.arrays.length ≤ 281474976710656
  cb : m.chans.length ≤ 281474976710656
  tb : m.threads.length ≤ 281474976710656
theorem ModOk.below {w w' : World} {m : ModM} {B : Nat} (h : ModOk w m) (hb : Below B w w') (hB : w.heap.size ≤ B) : ModOk w' m := ⟨h.vv.below hb hB, h.av.below hb hB, h.cv.below hb hB, h.tv.below hb hB, h.vb, h.ab, h.cb, h.tb⟩
def vOk (m : ModM) : Bool := decide (m.vars.length ≤ 64) && m.vars.all vMay
def aOk (m : ModM) : Bool := decide (m.arrays.length ≤ 64) && m.arrays.all (bMay 0 256)
def cOk (m : ModM) : Bool := decide (m.chans.length ≤ 64) && m.chans.all (bMay 1 16)
def tOk (m : ModM) : Bool := decide (m.threads.length ≤ 64) && m.threads.all tMay
def mMay (m : ModM) : Bool := bMay 0 64 m.mu && (bMay 0 64 m.co && (vOk m && (aOk m && (cOk m && tOk m))))

set_option maxRecDepth 100000 in
set_option maxHeartbeats 40000000 in
theorem chk_1 {va aa ca ta : Option Addr} {vcap acap ccap tcap nv na nc nt : Nat} {vars arrays chans : List Int} {mu co : Int} {threads : List CodeM} {w : World} (hT : TabC w)
    (hv : Ints w va vars) (ha : Ints w aa arrays) (hc : Ints w ca chans) (ht : Cds w ta threads) (_hnv : vars.length = nv) (_hna : arrays.length = na) (_hnc : chans.length = nc) (_hnt : threads.length = nt)
    (_bv : nv ≤ 281474976710656) (_ba : na ≤ 281474976710656) (_bc : nc ≤ 281474976710656) (_bt : nt ≤ 281474976710656) (h1 : bMay 0 64 mu = false) :
    Calls Tryd.prog 15 #[.agg #[.slice va nv vcap, .slice aa na acap, .slice ca nc ccap, .int .i64 mu, .int .i64 co, .slice ta nt tcap]] w fun e w' => e = .returned (.int .i64 2) ∧ Below w.heap.size w w' := by
  have hB1 : Below w.heap.size w (w.alloc (.cells #[.slice va nv vcap, .slice aa na acap, .slice ca nc ccap, .int .i64 mu, .int .i64 co, .slice ta nt tcap] 27)) := (Below.refl _ w).alloc (Nat.le_refl _) _
  have hX1 : (w.alloc (.cells #[.slice va nv vcap, .slice aa na acap, .slice ca nc ccap, .int .i64 mu, .int .i64 co, .slice ta nt tcap] 27)).heap[w.heap.size]? = some (.cells #[.slice va nv vcap, .slice aa na acap, .slice ca nc ccap, .int .i64 mu, .int .i64 co, .slice ta nt tcap] 27 (0, 0)) := World.alloc_heap_new _ _
  have hs1 : (w.alloc (.cells #[.slice va nv vcap, .slice aa na acap, .slice ca nc ccap, .int .i64 mu, .int .i64 co, .slice ta nt tcap] 27)).heap.size = w.heap.size + 1 := by simp
  have e64 : ((64 : Nat) : Int) = 64 := rfl
  have k1 := fun w p q hp hq => wit_any 0 64 mu w p q hp hq
  rw [h1] at k1
  go_enter Tryd.func15, Tryd.ntmps15
  go_wp2_with fail
  have hT1 := hT.below hB1 hT.1
  have hv1 := hv.below hB1 (Nat.le_refl _)
  have ha1 := ha.below hB1 (Nat.le_refl _)
  have hc1 := hc.below hB1 (Nat.le_refl _)
  have ht1 := ht.below hB1 (Nat.le_refl _)
  clear hT hv ha hc ht
  generalize w.alloc (.cells #[.slice va nv vcap, .slice aa na acap, .slice ca nc ccap, .int .i64 mu, .int .i64 co, .slice ta nt tcap] 27) = V at *
  refine (within_any 0 64 V).mono ?_
  rintro e w' ⟨rfl, rfl⟩
  have hBW : Below V.heap.size V ((V.alloc (.cells #[.int .i64 0] 3)).alloc (.cells #[.int .i64 64] 3)) := ((Below.refl _ V).alloc (Nat.le_refl _) _).alloc (by simp) _
  have hP : (V.alloc (.cells #[.int .i64 0] 3)).heap[V.heap.size]? = some (.cells #[.int .i64 0] 3 (0, 0)) := World.alloc_heap_new _ _
  have hP2 := (Below.heap_alloc _ (.cells #[.int .i64 64] 3) _ (by simp)).trans hP
  have hQ : ((V.alloc (.cells #[.int .i64 0] 3)).alloc (.cells #[.int .i64 64] 3)).heap[V.heap.size + 1]? = some (.cells #[.int .i64 64] 3 (0, 0)) := by
    have h := World.alloc_heap_new (V.alloc (.cells #[.int .i64 0] 3)) (.cells #[.int .i64 64] 3)
    rwa [World.size_alloc] at h
  have hX := (hBW.block _ (by omega)).trans hX1
  have hT2 := hT1.below hBW hT1.1
  have hv2 := hv1.below hBW (Nat.le_refl _)
  have ha2 := ha1.below hBW (Nat.le_refl _)
  have hc2 := hc1.below hBW (Nat.le_refl _)
  have ht2 := ht1.below hBW (Nat.le_refl _)
  have hB := hB1.trans (hBW.mono hB1.size)
  clear hT1 hv1 ha1 hc1 ht1 hB1 hP hX1 hBW
  rw [hs1] at hP2 hQ ⊢
  generalize (V.alloc (.cells #[.int .i64 0] 3)).alloc (.cells #[.int .i64 64] 3) = W0 at *
  clear hs1
  go_wp2_with fail
  have c0 : W0.cell? ⟨w.heap.size, 0, none⟩ = some (.slice va nv vcap) := cell_blk hX rfl
  have c1 : W0.cell? ⟨w.heap.size, 1, none⟩ = some (.slice aa na acap) := cell_blk hX rfl
  have c2 : W0.cell? ⟨w.heap.size, 2, none⟩ = some (.slice ca nc ccap) := cell_blk hX rfl
  have c3 : W0.cell? ⟨w.heap.size, 3, none⟩ = some (.int .i64 mu) := cell_blk hX rfl
  have c4 : W0.cell? ⟨w.heap.size, 4, none⟩ = some (.int .i64 co) := cell_blk hX rfl
  have c5 : W0.cell? ⟨w.heap.size, 5, none⟩ = some (.slice ta nt tcap) := cell_blk hX rfl
  have c6 : W0.cell? ⟨w.heap.size + 1, 0, none⟩ = some (.int .i64 0) := cell_blk hP2 rfl
  have c7 : W0.cell? ⟨w.heap.size + 1 + 1, 0, none⟩ = some (.int .i64 64) := cell_blk hQ rfl
  have keep : ∀ W, SB W0 W → SB W0 W ∧ W.cell? ⟨w.heap.size, 0, none⟩ = some (.slice va nv vcap) ∧ W.cell? ⟨w.heap.size, 1, none⟩ = some (.slice aa na acap) ∧ W.cell? ⟨w.heap.size, 2, none⟩ = some (.slice ca nc ccap) ∧ W.cell? ⟨w.heap.size, 3, none⟩ = some (.int .i64 mu) ∧ W.cell? ⟨w.heap.size, 4, none⟩ = some (.int .i64 co) ∧ W.cell? ⟨w.heap.size, 5, none⟩ = some (.slice ta nt tcap) ∧ W.cell? ⟨w.heap.size + 1, 0, none⟩ = some (.int .i64 0) ∧ W.cell? ⟨w.heap.size + 1 + 1, 0, none⟩ = some (.int .i64 64) := fun W h => ⟨h, h.cell c0, h.cell c1, h.cell c2, h.cell c3, h.cell c4, h.cell c5, h.cell c6, h.cell c7⟩
  have HK := Lib.hid keep
  have HB := Lib.hid hB
  have hS0 := HK.out _ (SB.drew (Below.refl W0.heap.size W0 : SB W0 W0))
  clear keep e64 h1 _hnv _hna _hnc _hnt _bv _ba _bc _bt hT2 hv2 ha2 hc2 ht2 hB hX hP2 hQ c0 c1 c2 c3 c4 c5 c6 c7
  refine wp_region_x [] (fun W => SB W0 W ∧ W.cell? ⟨w.heap.size, 0, none⟩ = some (.slice va nv vcap) ∧ W.cell? ⟨w.heap.size, 1, none⟩ = some (.slice aa na acap) ∧ W.cell? ⟨w.heap.size, 2, none⟩ = some (.slice ca nc ccap) ∧ W.cell? ⟨w.heap.size, 3, none⟩ = some (.int .i64 mu) ∧ W.cell? ⟨w.heap.size, 4, none⟩ = some (.int .i64 co) ∧ W.cell? ⟨w.heap.size, 5, none⟩ = some (.slice ta nt tcap) ∧ W.cell? ⟨w.heap.size + 1, 0, none⟩ = some (.int .i64 0) ∧ W.cell? ⟨w.heap.size + 1 + 1, 0, none⟩ = some (.int .i64 64)) (by kernel_rfl) ?_
  refine wpX_take 0 (v := ?v1) rfl (by kernel_rfl) (by kernel_rfl) (by kernel_rfl) (by kernel_rfl) (fun _ _ _ h => h) hS0 (Or.inl ⟨by kernel_rfl, ?h1⟩) ?_
  case h1 => (intro W1 hS1; obtain ⟨hs, s0, s1, s2, s3, s4, s5, s6, s7⟩ := hS1; go_simp; with_reducible rfl)
  refine wpX_take 1 (v := ?v2) rfl (by kernel_rfl) (by kernel_rfl) (by kernel_rfl) (by kernel_rfl) (fun _ _ _ h => h) hS0 (Or.inl ⟨by kernel_rfl, ?h2⟩) ?_
  case h2 => (intro W1 hS1; obtain ⟨hs, s0, s1, s2, s3, s4, s5, s6, s7⟩ := hS1; go_simp; with_reducible rfl)
  refine wpX_take 2 (v := ?v3) rfl (by kernel_rfl) (by kernel_rfl) (by kernel_rfl) (by kernel_rfl) (fun _ _ _ h => h) hS0 (Or.inl ⟨by kernel_rfl, ?h3⟩) ?_
  case h3 => (intro W1 hS1; obtain ⟨hs, s0, s1, s2, s3, s4, s5, s6, s7⟩ := hS1; go_simp; with_reducible rfl)
  refine wpX_one 3 (by kernel_rfl) rfl (fun K hK => ?_)
  go_simp
  refine (k1 _ _ _ hS0.2.2.2.2.2.2.2.1 hS0.2.2.2.2.2.2.2.2).mono ?_
  rintro e w' ⟨rfl, rfl⟩
  refine hK _ _ (fun _ => hS0) ?_
  clear hK K
  refine wpX_take 4 (v := ?v4) rfl (by kernel_rfl) (by kernel_rfl) (by kernel_rfl) (by kernel_rfl) (fun _ _ _ h => h) hS0 (Or.inl ⟨by kernel_rfl, ?h4⟩) ?_
  case h4 => (intro W1 hS1; obtain ⟨hs, s0, s1, s2, s3, s4, s5, s6, s7⟩ := hS1; go_simp; with_reducible rfl)
  refine wpX_take 5 (v := ?v5) rfl (by kernel_rfl) (by kernel_rfl) (by kernel_rfl) (by kernel_rfl) (fun _ _ _ h => h) hS0 (Or.inl ⟨by kernel_rfl, ?h5⟩) ?_
  case h5 => (intro W1 hS1; obtain ⟨hs, s0, s1, s2, s3, s4, s5, s6, s7⟩ := hS1; go_simp; with_reducible rfl)
  refine wpX_take 6 (v := undef) rfl (by kernel_rfl) (by kernel_rfl) (by kernel_rfl) (by kernel_rfl) (fun _ _ _ h => h) hS0 (Or.inr ⟨by kernel_rfl, rfl⟩) ?_
  refine wpX_take 7 (v := undef) rfl (by kernel_rfl) (by kernel_rfl) (by kernel_rfl) (by kernel_rfl) (fun _ _ _ h => h) hS0 (Or.inr ⟨by kernel_rfl, rfl⟩) ?_
  refine wpX_take 8 (v := undef) rfl (by kernel_rfl) (by kernel_rfl) (by kernel_rfl) (by kernel_rfl) (fun _ _ _ h => h) hS0 (Or.inr ⟨by kernel_rfl, rfl⟩) ?_
  refine wpX_take 9 (v := undef) rfl (by kernel_rfl) (by kernel_rfl) (by kernel_rfl) (by kernel_rfl) (fun _ _ _ h => h) hS0 (Or.inr ⟨by kernel_rfl, rfl⟩) ?_
  refine wpX_take 10 (v := undef) rfl (by kernel_rfl) (by kernel_rfl) (by kernel_rfl) (by kernel_rfl) (fun _ _ _ h => h) hS0 (Or.inr ⟨by kernel_rfl, rfl⟩) ?_
  refine wpX_take 11 (v := ?v11) rfl (by kernel_rfl) (by kernel_rfl) (by kernel_rfl) (by kernel_rfl) (fun _ _ _ h => h) hS0 (Or.inl ⟨by kernel_rfl, ?h11⟩) ?_
  case h11 => (intro W1 hS1; obtain ⟨hs, s0, s1, s2, s3, s4, s5, s6, s7⟩ := hS1; go_simp; with_reducible rfl)
  refine wpX_take 12 (v := ?v12) rfl (by kernel_rfl) (by kernel_rfl) (by kernel_rfl) (by kernel_rfl) (fun _ _ _ h => h) hS0 (Or.inl ⟨by kernel_rfl, ?h12⟩) ?_
  case h12 => (intro W1 hS1; obtain ⟨hs, s0, s1, s2, s3, s4, s5, s6, s7⟩ := hS1; go_simp; with_reducible rfl)
  refine wpX_take 13 (v := undef) rfl (by kernel_rfl) (by kernel_rfl) (by kernel_rfl) (by kernel_rfl) (fun _ _ _ h => h) hS0 (Or.inr ⟨by kernel_rfl, rfl⟩) ?_
  refine wpX_take 14 (v := undef) rfl (by kernel_rfl) (by kernel_rfl) (by kernel_rfl) (by kernel_rfl) (fun _ _ _ h => h) hS0 (Or.inr ⟨by kernel_rfl, rfl⟩) ?_
  refine wpX_take 15 (v := undef) rfl (by kernel_rfl) (by kernel_rfl) (by kernel_rfl) (by kernel_rfl) (fun _ _ _ h => h) hS0 (Or.inr ⟨by kernel_rfl, rfl⟩) ?_
  refine wpX_take 16 (v := undef) rfl (by kernel_rfl) (by kernel_rfl) (by kernel_rfl) (by kernel_rfl) (fun _ _ _ h => h) hS0 (Or.inr ⟨by kernel_rfl, rfl⟩) ?_
  refine wpX_take 17 (v := ?v17) rfl (by kernel_rfl) (by kernel_rfl) (by kernel_rfl) (by kernel_rfl) (fun _ _ _ h => h) hS0 (Or.inl ⟨by kernel_rfl, ?h17⟩) ?_
  case h17 => (intro W1 hS1; obtain ⟨hs, s0, s1, s2, s3, s4, s5, s6, s7⟩ := hS1; go_simp; with_reducible rfl)
  refine wpX_take 18 (v := ?v18) rfl (by kernel_rfl) (by kernel_rfl) (by kernel_rfl) (by kernel_rfl) (fun _ _ _ h => h) hS0 (Or.inl ⟨by kernel_rfl, ?h18⟩) ?_
  case h18 => (intro W1 hS1; obtain ⟨hs, s0, s1, s2, s3, s4, s5, s6, s7⟩ := hS1; go_simp; with_reducible rfl)
  refine wpX_take 19 (v := undef) rfl (by kernel_rfl) (by kernel_rfl) (by kernel_rfl) (by kernel_rfl) (fun _ _ _ h => h) hS0 (Or.inr ⟨by kernel_rfl, rfl⟩) ?_
  refine wpX_take 20 (v := undef) rfl (by kernel_rfl) (by kernel_rfl) (by kernel_rfl) (by kernel_rfl) (fun _ _ _ h => h) hS0 (Or.inr ⟨by kernel_rfl, rfl⟩) ?_
  refine wpX_take 21 (v := undef) rfl (by kernel_rfl) (by kernel_rfl) (by kernel_rfl) (by kernel_rfl) (fun _ _ _ h => h) hS0 (Or.inr ⟨by kernel_rfl, rfl⟩) ?_
  refine wpX_take 22 (v := undef) rfl (by kernel_rfl) (by kernel_rfl) (by kernel_rfl) (by kernel_rfl) (fun _ _ _ h => h) hS0 (Or.inr ⟨by kernel_rfl, rfl⟩) ?_
  refine wpX_take 23 (v := undef) rfl (by kernel_rfl) (by kernel_rfl) (by kernel_rfl) (by kernel_rfl) (fun _ _ _ h => h) hS0 (Or.inr ⟨by kernel_rfl, rfl⟩) ?_
  refine wpX_take 24 (v := ?v24) rfl (by kernel_rfl) (by kernel_rfl) (by kernel_rfl) (by kernel_rfl) (fun _ _ _ h => h) hS0 (Or.inl ⟨by kernel_rfl, ?h24⟩) ?_
  case h24 => (intro W1 hS1; obtain ⟨hs, s0, s1, s2, s3, s4, s5, s6, s7⟩ := hS1; go_simp; with_reducible rfl)
  refine wpX_take 25 (v := ?v25) rfl (by kernel_rfl) (by kernel_rfl) (by kernel_rfl) (by kernel_rfl) (fun _ _ _ h => h) hS0 (Or.inl ⟨by kernel_rfl, ?h25⟩) ?_
  case h25 => (intro W1 hS1; obtain ⟨hs, s0, s1, s2, s3, s4, s5, s6, s7⟩ := hS1; go_simp; with_reducible rfl)
  refine wpX_take 26 (v := undef) rfl (by kernel_rfl) (by kernel_rfl) (by kernel_rfl) (by kernel_rfl) (fun _ _ _ h => h) hS0 (Or.inr ⟨by kernel_rfl, rfl⟩) ?_
  refine wpX_take 27 (v := undef) rfl (by kernel_rfl) (by kernel_rfl) (by kernel_rfl) (by kernel_rfl) (fun _ _ _ h => h) hS0 (Or.inr ⟨by kernel_rfl, rfl⟩) ?_
  refine wpX_take 28 (v := undef) rfl (by kernel_rfl) (by kernel_rfl) (by kernel_rfl) (by kernel_rfl) (fun _ _ _ h => h) hS0 (Or.inr ⟨by kernel_rfl, rfl⟩) ?_
  refine wpX_take 29 (v := undef) rfl (by kernel_rfl) (by kernel_rfl) (by kernel_rfl) (by kernel_rfl) (fun _ _ _ h => h) hS0 (Or.inr ⟨by kernel_rfl, rfl⟩) ?_
  refine wpX_take 30 (v := undef) rfl (by kernel_rfl) (by kernel_rfl) (by kernel_rfl) (by kernel_rfl) (fun _ _ _ h => h) hS0 (Or.inr ⟨by kernel_rfl, rfl⟩) ?_
  refine wpX_take 31 (v := ?v31) rfl (by kernel_rfl) (by kernel_rfl) (by kernel_rfl) (by kernel_rfl) (fun _ _ _ h => h) hS0 (Or.inl ⟨by kernel_rfl, ?h31⟩) ?_
  case h31 => (intro W1 hS1; obtain ⟨hs, s0, s1, s2, s3, s4, s5, s6, s7⟩ := hS1; go_simp; with_reducible rfl)
  refine wpX_take 32 (v := ?v32) rfl (by kernel_rfl) (by kernel_rfl) (by kernel_rfl) (by kernel_rfl) (fun _ _ _ h => h) hS0 (Or.inl ⟨by kernel_rfl, ?h32⟩) ?_
  case h32 => (intro W1 hS1; obtain ⟨hs, s0, s1, s2, s3, s4, s5, s6, s7⟩ := hS1; go_simp; with_reducible rfl)
  refine wpX_take 33 (v := undef) rfl (by kernel_rfl) (by kernel_rfl) (by kernel_rfl) (by kernel_rfl) (fun _ _ _ h => h) hS0 (Or.inr ⟨by kernel_rfl, rfl⟩) ?_
  refine wpX_take 34 (v := undef) rfl (by kernel_rfl) (by kernel_rfl) (by kernel_rfl) (by kernel_rfl) (fun _ _ _ h => h) hS0 (Or.inr ⟨by kernel_rfl, rfl⟩) ?_
  refine wpX_take 35 (v := undef) rfl (by kernel_rfl) (by kernel_rfl) (by kernel_rfl) (by kernel_rfl) (fun _ _ _ h => h) hS0 (Or.inr ⟨by kernel_rfl, rfl⟩) ?_
  refine wpX_take 36 (v := undef) rfl (by kernel_rfl) (by kernel_rfl) (by kernel_rfl) (by kernel_rfl) (fun _ _ _ h => h) hS0 (Or.inr ⟨by kernel_rfl, rfl⟩) ?_
  refine wpX_take 37 (v := ?v37) rfl (by kernel_rfl) (by kernel_rfl) (by kernel_rfl) (by kernel_rfl) (fun _ _ _ h => h) hS0 (Or.inl ⟨by kernel_rfl, ?h37⟩) ?_
  case h37 => (intro W1 hS1; obtain ⟨hs, s0, s1, s2, s3, s4, s5, s6, s7⟩ := hS1; go_simp; with_reducible rfl)
  refine wpX_done (by kernel_rfl) ?_ _
  go_simp
  have hBf := HB.out
  go_wp2
  go_ret
  exact ⟨rfl, hBf.trans (Below.mono hS0.1 hBf.size)⟩

set_option maxRecDepth 100000 in
set_option maxHeartbeats 40000000 in
theorem chk_2 {va aa ca ta : Option Addr} {vcap acap ccap tcap nv na nc nt : Nat} {vars arrays chans : List Int} {mu co : Int} {threads : List CodeM} {w : World} (hT : TabC w)
    (hv : Ints w va vars) (ha : Ints w aa arrays) (hc : Ints w ca chans) (ht : Cds w ta threads) (_hnv : vars.length = nv) (_hna : arrays.length = na) (_hnc : chans.length = nc) (_hnt : threads.length = nt)
    (_bv : nv ≤ 281474976710656) (_ba : na ≤ 281474976710656) (_bc : nc ≤ 281474976710656) (_bt : nt ≤ 281474976710656) (h1 : bMay 0 64 mu = true) (h2 : bMay 0 64 co = false) :
    Calls Tryd.prog 15 #[.agg #[.slice va nv vcap, .slice aa na acap, .slice ca nc ccap, .int .i64 mu, .int .i64 co, .slice ta nt tcap]] w fun e w' => e = .returned (.int .i64 2) ∧ Below w.heap.size w w' := by
  have hB1 : Below w.heap.size w (w.alloc (.cells #[.slice va nv vcap, .slice aa na acap, .slice ca nc ccap, .int .i64 mu, .int .i64 co, .slice ta nt tcap] 27)) := (Below.refl _ w).alloc (Nat.le_refl _) _
  have hX1 : (w.alloc (.cells #[.slice va nv vcap, .slice aa na acap, .slice ca nc ccap, .int .i64 mu, .int .i64 co, .slice ta nt tcap] 27)).heap[w.heap.size]? = some (.cells #[.slice va nv vcap, .slice aa na acap, .slice ca nc ccap, .int .i64 mu, .int .i64 co, .slice ta nt tcap] 27 (0, 0)) := World.alloc_heap_new _ _
  have hs1 : (w.alloc (.cells #[.slice va nv vcap, .slice aa na acap, .slice ca nc ccap, .int .i64 mu, .int .i64 co, .slice ta nt tcap] 27)).heap.size = w.heap.size + 1 := by simp
  have e64 : ((64 : Nat) : Int) = 64 := rfl
  have k1 := fun w p q hp hq => wit_any 0 64 mu w p q hp hq
  rw [h1] at k1
  have k2 := fun w p q hp hq => wit_any 0 64 co w p q hp hq
  rw [h2] at k2
  go_enter Tryd.func15, Tryd.ntmps15
  go_wp2_with fail
  have hT1 := hT.below hB1 hT.1
  have hv1 := hv.below hB1 (Nat.le_refl _)
  have ha1 := ha.below hB1 (Nat.le_refl _)
  have hc1 := hc.below hB1 (Nat.le_refl _)
  have ht1 := ht.below hB1 (Nat.le_refl _)
  clear hT hv ha hc ht
  generalize w.alloc (.cells #[.slice va nv vcap, .slice aa na acap, .slice ca nc ccap, .int .i64 mu, .int .i64 co, .slice ta nt tcap] 27) = V at *
  refine (within_any 0 64 V).mono ?_
  rintro e w' ⟨rfl, rfl⟩
  have hBW : Below V.heap.size V ((V.alloc (.cells #[.int .i64 0] 3)).alloc (.cells #[.int .i64 64] 3)) := ((Below.refl _ V).alloc (Nat.le_refl _) _).alloc (by simp) _
  have hP : (V.alloc (.cells #[.int .i64 0] 3)).heap[V.heap.size]? = some (.cells #[.int .i64 0] 3 (0, 0)) := World.alloc_heap_new _ _
  have hP2 := (Below.heap_alloc _ (.cells #[.int .i64 64] 3) _ (by simp)).trans hP
  have hQ : ((V.alloc (.cells #[.int .i64 0] 3)).alloc (.cells #[.int .i64 64] 3)).heap[V.heap.size + 1]? = some (.cells #[.int .i64 64] 3 (0, 0)) := by
    have h := World.alloc_heap_new (V.alloc (.cells #[.int .i64 0] 3)) (.cells #[.int .i64 64] 3)
    rwa [World.size_alloc] at h
  have hX := (hBW.block _ (by omega)).trans hX1
  have hT2 := hT1.below hBW hT1.1
  have hv2 := hv1.below hBW (Nat.le_refl _)
  have ha2 := ha1.below hBW (Nat.le_refl _)
  have hc2 := hc1.below hBW (Nat.le_refl _)
  have ht2 := ht1.below hBW (Nat.le_refl _)
  have hB := hB1.trans (hBW.mono hB1.size)
  clear hT1 hv1 ha1 hc1 ht1 hB1 hP hX1 hBW
  rw [hs1] at hP2 hQ ⊢
  generalize (V.alloc (.cells #[.int .i64 0] 3)).alloc (.cells #[.int .i64 64] 3) = W0 at *
  clear hs1
  go_wp2_with fail
  have c0 : W0.cell? ⟨w.heap.size, 0, none⟩ = some (.slice va nv vcap) := cell_blk hX rfl
  have c1 : W0.cell? ⟨w.heap.size, 1, none⟩ = some (.slice aa na acap) := cell_blk hX rfl
  have c2 : W0.cell? ⟨w.heap.size, 2, none⟩ = some (.slice ca nc ccap) := cell_blk hX rfl
  have c3 : W0.cell? ⟨w.heap.size, 3, none⟩ = some (.int .i64 mu) := cell_blk hX rfl
  have c4 : W0.cell? ⟨w.heap.size, 4, none⟩ = some (.int .i64 co) := cell_blk hX rfl
  have c5 : W0.cell? ⟨w.heap.size, 5, none⟩ = some (.slice ta nt tcap) := cell_blk hX rfl
  have c6 : W0.cell? ⟨w.heap.size + 1, 0, none⟩ = some (.int .i64 0) := cell_blk hP2 rfl
  have c7 : W0.cell? ⟨w.heap.size + 1 + 1, 0, none⟩ = some (.int .i64 64) := cell_blk hQ rfl
  have keep : ∀ W, SB W0 W → SB W0 W ∧ W.cell? ⟨w.heap.size, 0, none⟩ = some (.slice va nv vcap) ∧ W.cell? ⟨w.heap.size, 1, none⟩ = some (.slice aa na acap) ∧ W.cell? ⟨w.heap.size, 2, none⟩ = some (.slice ca nc ccap) ∧ W.cell? ⟨w.heap.size, 3, none⟩ = some (.int .i64 mu) ∧ W.cell? ⟨w.heap.size, 4, none⟩ = some (.int .i64 co) ∧ W.cell? ⟨w.heap.size, 5, none⟩ = some (.slice ta nt tcap) ∧ W.cell? ⟨w.heap.size + 1, 0, none⟩ = some (.int .i64 0) ∧ W.cell? ⟨w.heap.size + 1 + 1, 0, none⟩ = some (.int .i64 64) := fun W h => ⟨h, h.cell c0, h.cell c1, h.cell c2, h.cell c3, h.cell c4, h.cell c5, h.cell c6, h.cell c7⟩
  have HK := Lib.hid keep
  have HB := Lib.hid hB
  have hS0 := HK.out _ (SB.drew (Below.refl W0.heap.size W0 : SB W0 W0))
  clear keep e64 h1 h2 _hnv _hna _hnc _hnt _bv _ba _bc _bt hT2 hv2 ha2 hc2 ht2 hB hX hP2 hQ c0 c1 c2 c3 c4 c5 c6 c7
  refine wp_region_x [] (fun W => SB W0 W ∧ W.cell? ⟨w.heap.size, 0, none⟩ = some (.slice va nv vcap) ∧ W.cell? ⟨w.heap.size, 1, none⟩ = some (.slice aa na acap) ∧ W.cell? ⟨w.heap.size, 2, none⟩ = some (.slice ca nc ccap) ∧ W.cell? ⟨w.heap.size, 3, none⟩ = some (.int .i64 mu) ∧ W.cell? ⟨w.heap.size, 4, none⟩ = some (.int .i64 co) ∧ W.cell? ⟨w.heap.size, 5, none⟩ = some (.slice ta nt tcap) ∧ W.cell? ⟨w.heap.size + 1, 0, none⟩ = some (.int .i64 0) ∧ W.cell? ⟨w.heap.size + 1 + 1, 0, none⟩ = some (.int .i64 64)) (by kernel_rfl) ?_
  refine wpX_take 0 (v := ?v1) rfl (by kernel_rfl) (by kernel_rfl) (by kernel_rfl) (by kernel_rfl) (fun _ _ _ h => h) hS0 (Or.inl ⟨by kernel_rfl, ?h1⟩) ?_
  case h1 => (intro W1 hS1; obtain ⟨hs, s0, s1, s2, s3, s4, s5, s6, s7⟩ := hS1; go_simp; with_reducible rfl)
  refine wpX_take 1 (v := ?v2) rfl (by kernel_rfl) (by kernel_rfl) (by kernel_rfl) (by kernel_rfl) (fun _ _ _ h => h) hS0 (Or.inl ⟨by kernel_rfl, ?h2⟩) ?_
  case h2 => (intro W1 hS1; obtain ⟨hs, s0, s1, s2, s3, s4, s5, s6, s7⟩ := hS1; go_simp; with_reducible rfl)
  refine wpX_take 2 (v := ?v3) rfl (by kernel_rfl) (by kernel_rfl) (by kernel_rfl) (by kernel_rfl) (fun _ _ _ h => h) hS0 (Or.inl ⟨by kernel_rfl, ?h3⟩) ?_
  case h3 => (intro W1 hS1; obtain ⟨hs, s0, s1, s2, s3, s4, s5, s6, s7⟩ := hS1; go_simp; with_reducible rfl)
  refine wpX_one 3 (by kernel_rfl) rfl (fun K hK => ?_)
  go_simp
  refine (k1 _ _ _ hS0.2.2.2.2.2.2.2.1 hS0.2.2.2.2.2.2.2.2).mono ?_
  rintro e w' ⟨rfl, rfl⟩
  refine hK _ _ (fun _ => hS0) ?_
  clear hK K
  refine wpX_take 4 (v := ?v4) rfl (by kernel_rfl) (by kernel_rfl) (by kernel_rfl) (by kernel_rfl) (fun _ _ _ h => h) hS0 (Or.inl ⟨by kernel_rfl, ?h4⟩) ?_
  case h4 => (intro W1 hS1; obtain ⟨hs, s0, s1, s2, s3, s4, s5, s6, s7⟩ := hS1; go_simp; with_reducible rfl)
  refine wpX_take 5 (v := ?v5) rfl (by kernel_rfl) (by kernel_rfl) (by kernel_rfl) (by kernel_rfl) (fun _ _ _ h => h) hS0 (Or.inl ⟨by kernel_rfl, ?h5⟩) ?_
  case h5 => (intro W1 hS1; obtain ⟨hs, s0, s1, s2, s3, s4, s5, s6, s7⟩ := hS1; go_simp; with_reducible rfl)
  refine wpX_take 6 (v := ?v6) rfl (by kernel_rfl) (by kernel_rfl) (by kernel_rfl) (by kernel_rfl) (fun _ _ _ h => h) hS0 (Or.inl ⟨by kernel_rfl, ?h6⟩) ?_
  case h6 => (intro W1 hS1; obtain ⟨hs, s0, s1, s2, s3, s4, s5, s6, s7⟩ := hS1; go_simp; with_reducible rfl)
  refine wpX_take 7 (v := ?v7) rfl (by kernel_rfl) (by kernel_rfl) (by kernel_rfl) (by kernel_rfl) (fun _ _ _ h => h) hS0 (Or.inl ⟨by kernel_rfl, ?h7⟩) ?_
  case h7 => (intro W1 hS1; obtain ⟨hs, s0, s1, s2, s3, s4, s5, s6, s7⟩ := hS1; go_simp; with_reducible rfl)
  refine wpX_take 8 (v := ?v8) rfl (by kernel_rfl) (by kernel_rfl) (by kernel_rfl) (by kernel_rfl) (fun _ _ _ h => h) hS0 (Or.inl ⟨by kernel_rfl, ?h8⟩) ?_
  case h8 => (intro W1 hS1; obtain ⟨hs, s0, s1, s2, s3, s4, s5, s6, s7⟩ := hS1; go_simp; with_reducible rfl)
  refine wpX_one 9 (by kernel_rfl) rfl (fun K hK => ?_)
  go_simp
  refine (k2 _ _ _ hS0.2.2.2.2.2.2.2.1 hS0.2.2.2.2.2.2.2.2).mono ?_
  rintro e w' ⟨rfl, rfl⟩
  refine hK _ _ (fun _ => hS0) ?_
  clear hK K
  refine wpX_take 10 (v := ?v9) rfl (by kernel_rfl) (by kernel_rfl) (by kernel_rfl) (by kernel_rfl) (fun _ _ _ h => h) hS0 (Or.inl ⟨by kernel_rfl, ?h9⟩) ?_
  case h9 => (intro W1 hS1; obtain ⟨hs, s0, s1, s2, s3, s4, s5, s6, s7⟩ := hS1; go_simp; with_reducible rfl)
  refine wpX_take 11 (v := ?v10) rfl (by kernel_rfl) (by kernel_rfl) (by kernel_rfl) (by kernel_rfl) (fun _ _ _ h => h) hS0 (Or.inl ⟨by kernel_rfl, ?h10⟩) ?_
  case h10 => (intro W1 hS1; obtain ⟨hs, s0, s1, s2, s3, s4, s5, s6, s7⟩ := hS1; go_simp; with_reducible rfl)
  refine wpX_take 12 (v := ?v11) rfl (by kernel_rfl) (by kernel_rfl) (by kernel_rfl) (by kernel_rfl) (fun _ _ _ h => h) hS0 (Or.inl ⟨by kernel_rfl, ?h11⟩) ?_
  case h11 => (intro W1 hS1; obtain ⟨hs, s0, s1, s2, s3, s4, s5, s6, s7⟩ := hS1; go_simp; with_reducible rfl)
  refine wpX_take 13 (v := undef) rfl (by kernel_rfl) (by kernel_rfl) (by kernel_rfl) (by kernel_rfl) (fun _ _ _ h => h) hS0 (Or.inr ⟨by kernel_rfl, rfl⟩) ?_
  refine wpX_take 14 (v := undef) rfl (by kernel_rfl) (by kernel_rfl) (by kernel_rfl) (by kernel_rfl) (fun _ _ _ h => h) hS0 (Or.inr ⟨by kernel_rfl, rfl⟩) ?_
  refine wpX_take 15 (v := undef) rfl (by kernel_rfl) (by kernel_rfl) (by kernel_rfl) (by kernel_rfl) (fun _ _ _ h => h) hS0 (Or.inr ⟨by kernel_rfl, rfl⟩) ?_
  refine wpX_take 16 (v := undef) rfl (by kernel_rfl) (by kernel_rfl) (by kernel_rfl) (by kernel_rfl) (fun _ _ _ h => h) hS0 (Or.inr ⟨by kernel_rfl, rfl⟩) ?_
  refine wpX_take 17 (v := ?v16) rfl (by kernel_rfl) (by kernel_rfl) (by kernel_rfl) (by kernel_rfl) (fun _ _ _ h => h) hS0 (Or.inl ⟨by kernel_rfl, ?h16⟩) ?_
  case h16 => (intro W1 hS1; obtain ⟨hs, s0, s1, s2, s3, s4, s5, s6, s7⟩ := hS1; go_simp; with_reducible rfl)
  refine wpX_take 18 (v := ?v17) rfl (by kernel_rfl) (by kernel_rfl) (by kernel_rfl) (by kernel_rfl) (fun _ _ _ h => h) hS0 (Or.inl ⟨by kernel_rfl, ?h17⟩) ?_
  case h17 => (intro W1 hS1; obtain ⟨hs, s0, s1, s2, s3, s4, s5, s6, s7⟩ := hS1; go_simp; with_reducible rfl)
  refine wpX_take 19 (v := undef) rfl (by kernel_rfl) (by kernel_rfl) (by kernel_rfl) (by kernel_rfl) (fun _ _ _ h => h) hS0 (Or.inr ⟨by kernel_rfl, rfl⟩) ?_
  refine wpX_take 20 (v := undef) rfl (by kernel_rfl) (by kernel_rfl) (by kernel_rfl) (by kernel_rfl) (fun _ _ _ h => h) hS0 (Or.inr ⟨by kernel_rfl, rfl⟩) ?_
  refine wpX_take 21 (v := undef) rfl (by kernel_rfl) (by kernel_rfl) (by kernel_rfl) (by kernel_rfl) (fun _ _ _ h => h) hS0 (Or.inr ⟨by kernel_rfl, rfl⟩) ?_
  refine wpX_take 22 (v := undef) rfl (by kernel_rfl) (by kernel_rfl) (by kernel_rfl) (by kernel_rfl) (fun _ _ _ h => h) hS0 (Or.inr ⟨by kernel_rfl, rfl⟩) ?_
  refine wpX_take 23 (v := undef) rfl (by kernel_rfl) (by kernel_rfl) (by kernel_rfl) (by kernel_rfl) (fun _ _ _ h => h) hS0 (Or.inr ⟨by kernel_rfl, rfl⟩) ?_
  refine wpX_take 24 (v := ?v23) rfl (by kernel_rfl) (by kernel_rfl) (by kernel_rfl) (by kernel_rfl) (fun _ _ _ h => h) hS0 (Or.inl ⟨by kernel_rfl, ?h23⟩) ?_
  case h23 => (intro W1 hS1; obtain ⟨hs, s0, s1, s2, s3, s4, s5, s6, s7⟩ := hS1; go_simp; with_reducible rfl)
  refine wpX_take 25 (v := ?v24) rfl (by kernel_rfl) (by kernel_rfl) (by kernel_rfl) (by kernel_rfl) (fun _ _ _ h => h) hS0 (Or.inl ⟨by kernel_rfl, ?h24⟩) ?_
  case h24 => (intro W1 hS1; obtain ⟨hs, s0, s1, s2, s3, s4, s5, s6, s7⟩ := hS1; go_simp; with_reducible rfl)
  refine wpX_take 26 (v := undef) rfl (by kernel_rfl) (by kernel_rfl) (by kernel_rfl) (by kernel_rfl) (fun _ _ _ h => h) hS0 (Or.inr ⟨by kernel_rfl, rfl⟩) ?_
  refine wpX_take 27 (v := undef) rfl (by kernel_rfl) (by kernel_rfl) (by kernel_rfl) (by kernel_rfl) (fun _ _ _ h => h) hS0 (Or.inr ⟨by kernel_rfl, rfl⟩) ?_
  refine wpX_take 28 (v := undef) rfl (by kernel_rfl) (by kernel_rfl) (by kernel_rfl) (by kernel_rfl) (fun _ _ _ h => h) hS0 (Or.inr ⟨by kernel_rfl, rfl⟩) ?_
  refine wpX_take 29 (v := undef) rfl (by kernel_rfl) (by kernel_rfl) (by kernel_rfl) (by kernel_rfl) (fun _ _ _ h => h) hS0 (Or.inr ⟨by kernel_rfl, rfl⟩) ?_
  refine wpX_take 30 (v := undef) rfl (by kernel_rfl) (by kernel_rfl) (by kernel_rfl) (by kernel_rfl) (fun _ _ _ h => h) hS0 (Or.inr ⟨by kernel_rfl, rfl⟩) ?_
  refine wpX_take 31 (v := ?v30) rfl (by kernel_rfl) (by kernel_rfl) (by kernel_rfl) (by kernel_rfl) (fun _ _ _ h => h) hS0 (Or.inl ⟨by kernel_rfl, ?h30⟩) ?_
  case h30 => (intro W1 hS1; obtain ⟨hs, s0, s1, s2, s3, s4, s5, s6, s7⟩ := hS1; go_simp; with_reducible rfl)
  refine wpX_take 32 (v := ?v31) rfl (by kernel_rfl) (by kernel_rfl) (by kernel_rfl) (by kernel_rfl) (fun _ _ _ h => h) hS0 (Or.inl ⟨by kernel_rfl, ?h31⟩) ?_
  case h31 => (intro W1 hS1; obtain ⟨hs, s0, s1, s2, s3, s4, s5, s6, s7⟩ := hS1; go_simp; with_reducible rfl)
  refine wpX_take 33 (v := undef) rfl (by kernel_rfl) (by kernel_rfl) (by kernel_rfl) (by kernel_rfl) (fun _ _ _ h => h) hS0 (Or.inr ⟨by kernel_rfl, rfl⟩) ?_
  refine wpX_take 34 (v := undef) rfl (by kernel_rfl) (by kernel_rfl) (by kernel_rfl) (by kernel_rfl) (fun _ _ _ h => h) hS0 (Or.inr ⟨by kernel_rfl, rfl⟩) ?_
  refine wpX_take 35 (v := undef) rfl (by kernel_rfl) (by kernel_rfl) (by kernel_rfl) (by kernel_rfl) (fun _ _ _ h => h) hS0 (Or.inr ⟨by kernel_rfl, rfl⟩) ?_
  refine wpX_take 36 (v := undef) rfl (by kernel_rfl) (by kernel_rfl) (by kernel_rfl) (by kernel_rfl) (fun _ _ _ h => h) hS0 (Or.inr ⟨by kernel_rfl, rfl⟩) ?_
  refine wpX_take 37 (v := ?v36) rfl (by kernel_rfl) (by kernel_rfl) (by kernel_rfl) (by kernel_rfl) (fun _ _ _ h => h) hS0 (Or.inl ⟨by kernel_rfl, ?h36⟩) ?_
  case h36 => (intro W1 hS1; obtain ⟨hs, s0, s1, s2, s3, s4, s5, s6, s7⟩ := hS1; go_simp; with_reducible rfl)
  refine wpX_done (by kernel_rfl) ?_ _
  go_simp
  have hBf := HB.out
  go_wp2
  go_ret
  exact ⟨rfl, hBf.trans (Below.mono hS0.1 hBf.size)⟩

set_option maxRecDepth 100000 in
set_option maxHeartbeats 40000000 in
theorem chk_3 {va aa ca ta : Option Addr} {vcap acap ccap tcap nv na nc nt : Nat} {vars arrays chans : List Int} {mu co : Int} {threads : List CodeM} {w : World} (hT : TabC w)
    (hv : Ints w va vars) (ha : Ints w aa arrays) (hc : Ints w ca chans) (ht : Cds w ta threads) (hnv : vars.length = nv) (_hna : arrays.length = na) (_hnc : chans.length = nc) (_hnt : threads.length = nt)
    (bv : nv ≤ 281474976710656) (_ba : na ≤ 281474976710656) (_bc : nc ≤ 281474976710656) (_bt : nt ≤ 281474976710656) (h1 : bMay 0 64 mu = true) (h2 : bMay 0 64 co = true) (h3 : (decide (nv ≤ 64) && vars.all vMay) = false) :
    Calls Tryd.prog 15 #[.agg #[.slice va nv vcap, .slice aa na acap, .slice ca nc ccap, .int .i64 mu, .int .i64 co, .slice ta nt tcap]] w fun e w' => e = .returned (.int .i64 2) ∧ Below w.heap.size w w' := by
  have hB1 : Below w.heap.size w (w.alloc (.cells #[.slice va nv vcap, .slice aa na acap, .slice ca nc ccap, .int .i64 mu, .int .i64 co, .slice ta nt tcap] 27)) := (Below.refl _ w).alloc (Nat.le_refl _) _
  have hX1 : (w.alloc (.cells #[.slice va nv vcap, .slice aa na acap, .slice ca nc ccap, .int .i64 mu, .int .i64 co, .slice ta nt tcap] 27)).heap[w.heap.size]? = some (.cells #[.slice va nv vcap, .slice aa na acap, .slice ca nc ccap, .int .i64 mu, .int .i64 co, .slice ta nt tcap] 27 (0, 0)) := World.alloc_heap_new _ _
  have hs1 : (w.alloc (.cells #[.slice va nv vcap, .slice aa na acap, .slice ca nc ccap, .int .i64 mu, .int .i64 co, .slice ta nt tcap] 27)).heap.size = w.heap.size + 1 := by simp
  have e64 : ((64 : Nat) : Int) = 64 := rfl
  have k1 := fun w p q hp hq => wit_any 0 64 mu w p q hp hq
  rw [h1] at k1
  have k2 := fun w p q hp hq => wit_any 0 64 co w p q hp hq
  rw [h2] at k2
  have m3 := fun w hI => may_v (w := w) (a := va) (l := vars) (n := nv) (cap := vcap) (m := 64) hnv bv hI
  rw [h3] at m3
  go_enter Tryd.func15, Tryd.ntmps15
  go_wp2_with fail
  have hT1 := hT.below hB1 hT.1
  have hv1 := hv.below hB1 (Nat.le_refl _)
  have ha1 := ha.below hB1 (Nat.le_refl _)
  have hc1 := hc.below hB1 (Nat.le_refl _)
  have ht1 := ht.below hB1 (Nat.le_refl _)
  clear hT hv ha hc ht
  generalize w.alloc (.cells #[.slice va nv vcap, .slice aa na acap, .slice ca nc ccap, .int .i64 mu, .int .i64 co, .slice ta nt tcap] 27) = V at *
  refine (within_any 0 64 V).mono ?_
  rintro e w' ⟨rfl, rfl⟩
  have hBW : Below V.heap.size V ((V.alloc (.cells #[.int .i64 0] 3)).alloc (.cells #[.int .i64 64] 3)) := ((Below.refl _ V).alloc (Nat.le_refl _) _).alloc (by simp) _
  have hP : (V.alloc (.cells #[.int .i64 0] 3)).heap[V.heap.size]? = some (.cells #[.int .i64 0] 3 (0, 0)) := World.alloc_heap_new _ _
  have hP2 := (Below.heap_alloc _ (.cells #[.int .i64 64] 3) _ (by simp)).trans hP
  have hQ : ((V.alloc (.cells #[.int .i64 0] 3)).alloc (.cells #[.int .i64 64] 3)).heap[V.heap.size + 1]? = some (.cells #[.int .i64 64] 3 (0, 0)) := by
    have h := World.alloc_heap_new (V.alloc (.cells #[.int .i64 0] 3)) (.cells #[.int .i64 64] 3)
    rwa [World.size_alloc] at h
  have hX := (hBW.block _ (by omega)).trans hX1
  have hT2 := hT1.below hBW hT1.1
  have hv2 := hv1.below hBW (Nat.le_refl _)
  have ha2 := ha1.below hBW (Nat.le_refl _)
  have hc2 := hc1.below hBW (Nat.le_refl _)
  have ht2 := ht1.below hBW (Nat.le_refl _)
  have hB := hB1.trans (hBW.mono hB1.size)
  clear hT1 hv1 ha1 hc1 ht1 hB1 hP hX1 hBW
  rw [hs1] at hP2 hQ ⊢
  generalize (V.alloc (.cells #[.int .i64 0] 3)).alloc (.cells #[.int .i64 64] 3) = W0 at *
  clear hs1
  go_wp2_with fail
  have c0 : W0.cell? ⟨w.heap.size, 0, none⟩ = some (.slice va nv vcap) := cell_blk hX rfl
  have c1 : W0.cell? ⟨w.heap.size, 1, none⟩ = some (.slice aa na acap) := cell_blk hX rfl
  have c2 : W0.cell? ⟨w.heap.size, 2, none⟩ = some (.slice ca nc ccap) := cell_blk hX rfl
  have c3 : W0.cell? ⟨w.heap.size, 3, none⟩ = some (.int .i64 mu) := cell_blk hX rfl
  have c4 : W0.cell? ⟨w.heap.size, 4, none⟩ = some (.int .i64 co) := cell_blk hX rfl
  have c5 : W0.cell? ⟨w.heap.size, 5, none⟩ = some (.slice ta nt tcap) := cell_blk hX rfl
  have c6 : W0.cell? ⟨w.heap.size + 1, 0, none⟩ = some (.int .i64 0) := cell_blk hP2 rfl
  have c7 : W0.cell? ⟨w.heap.size + 1 + 1, 0, none⟩ = some (.int .i64 64) := cell_blk hQ rfl
  have keep : ∀ W, SB W0 W → SB W0 W ∧ W.cell? ⟨w.heap.size, 0, none⟩ = some (.slice va nv vcap) ∧ W.cell? ⟨w.heap.size, 1, none⟩ = some (.slice aa na acap) ∧ W.cell? ⟨w.heap.size, 2, none⟩ = some (.slice ca nc ccap) ∧ W.cell? ⟨w.heap.size, 3, none⟩ = some (.int .i64 mu) ∧ W.cell? ⟨w.heap.size, 4, none⟩ = some (.int .i64 co) ∧ W.cell? ⟨w.heap.size, 5, none⟩ = some (.slice ta nt tcap) ∧ W.cell? ⟨w.heap.size + 1, 0, none⟩ = some (.int .i64 0) ∧ W.cell? ⟨w.heap.size + 1 + 1, 0, none⟩ = some (.int .i64 64) := fun W h => ⟨h, h.cell c0, h.cell c1, h.cell c2, h.cell c3, h.cell c4, h.cell c5, h.cell c6, h.cell c7⟩
  have HK := Lib.hid keep
  have m3' := fun W (h : SB W0 W) => m3 W (hv2.below h (Nat.le_refl _))
  simp only [e64] at m3'
  clear m3
  have HB := Lib.hid hB
  have hS0 := HK.out _ (SB.drew (Below.refl W0.heap.size W0 : SB W0 W0))
  clear keep e64 h1 h2 h3 hnv _hna _hnc _hnt bv _ba _bc _bt hT2 hv2 ha2 hc2 ht2 hB hX hP2 hQ c0 c1 c2 c3 c4 c5 c6 c7
  refine wp_region_x [] (fun W => SB W0 W ∧ W.cell? ⟨w.heap.size, 0, none⟩ = some (.slice va nv vcap) ∧ W.cell? ⟨w.heap.size, 1, none⟩ = some (.slice aa na acap) ∧ W.cell? ⟨w.heap.size, 2, none⟩ = some (.slice ca nc ccap) ∧ W.cell? ⟨w.heap.size, 3, none⟩ = some (.int .i64 mu) ∧ W.cell? ⟨w.heap.size, 4, none⟩ = some (.int .i64 co) ∧ W.cell? ⟨w.heap.size, 5, none⟩ = some (.slice ta nt tcap) ∧ W.cell? ⟨w.heap.size + 1, 0, none⟩ = some (.int .i64 0) ∧ W.cell? ⟨w.heap.size + 1 + 1, 0, none⟩ = some (.int .i64 64)) (by kernel_rfl) ?_
  refine wpX_take 0 (v := ?v1) rfl (by kernel_rfl) (by kernel_rfl) (by kernel_rfl) (by kernel_rfl) (fun _ _ _ h => h) hS0 (Or.inl ⟨by kernel_rfl, ?h1⟩) ?_
  case h1 => (intro W1 hS1; obtain ⟨hs, s0, s1, s2, s3, s4, s5, s6, s7⟩ := hS1; go_simp; with_reducible rfl)
  refine wpX_take 1 (v := ?v2) rfl (by kernel_rfl) (by kernel_rfl) (by kernel_rfl) (by kernel_rfl) (fun _ _ _ h => h) hS0 (Or.inl ⟨by kernel_rfl, ?h2⟩) ?_
  case h2 => (intro W1 hS1; obtain ⟨hs, s0, s1, s2, s3, s4, s5, s6, s7⟩ := hS1; go_simp; with_reducible rfl)
  refine wpX_take 2 (v := ?v3) rfl (by kernel_rfl) (by kernel_rfl) (by kernel_rfl) (by kernel_rfl) (fun _ _ _ h => h) hS0 (Or.inl ⟨by kernel_rfl, ?h3⟩) ?_
  case h3 => (intro W1 hS1; obtain ⟨hs, s0, s1, s2, s3, s4, s5, s6, s7⟩ := hS1; go_simp; with_reducible rfl)
  refine wpX_one 3 (by kernel_rfl) rfl (fun K hK => ?_)
  go_simp
  refine (k1 _ _ _ hS0.2.2.2.2.2.2.2.1 hS0.2.2.2.2.2.2.2.2).mono ?_
  rintro e w' ⟨rfl, rfl⟩
  refine hK _ _ (fun _ => hS0) ?_
  clear hK K
  refine wpX_take 4 (v := ?v4) rfl (by kernel_rfl) (by kernel_rfl) (by kernel_rfl) (by kernel_rfl) (fun _ _ _ h => h) hS0 (Or.inl ⟨by kernel_rfl, ?h4⟩) ?_
  case h4 => (intro W1 hS1; obtain ⟨hs, s0, s1, s2, s3, s4, s5, s6, s7⟩ := hS1; go_simp; with_reducible rfl)
  refine wpX_take 5 (v := ?v5) rfl (by kernel_rfl) (by kernel_rfl) (by kernel_rfl) (by kernel_rfl) (fun _ _ _ h => h) hS0 (Or.inl ⟨by kernel_rfl, ?h5⟩) ?_
  case h5 => (intro W1 hS1; obtain ⟨hs, s0, s1, s2, s3, s4, s5, s6, s7⟩ := hS1; go_simp; with_reducible rfl)
  refine wpX_take 6 (v := ?v6) rfl (by kernel_rfl) (by kernel_rfl) (by kernel_rfl) (by kernel_rfl) (fun _ _ _ h => h) hS0 (Or.inl ⟨by kernel_rfl, ?h6⟩) ?_
  case h6 => (intro W1 hS1; obtain ⟨hs, s0, s1, s2, s3, s4, s5, s6, s7⟩ := hS1; go_simp; with_reducible rfl)
  refine wpX_take 7 (v := ?v7) rfl (by kernel_rfl) (by kernel_rfl) (by kernel_rfl) (by kernel_rfl) (fun _ _ _ h => h) hS0 (Or.inl ⟨by kernel_rfl, ?h7⟩) ?_
  case h7 => (intro W1 hS1; obtain ⟨hs, s0, s1, s2, s3, s4, s5, s6, s7⟩ := hS1; go_simp; with_reducible rfl)
  refine wpX_take 8 (v := ?v8) rfl (by kernel_rfl) (by kernel_rfl) (by kernel_rfl) (by kernel_rfl) (fun _ _ _ h => h) hS0 (Or.inl ⟨by kernel_rfl, ?h8⟩) ?_
  case h8 => (intro W1 hS1; obtain ⟨hs, s0, s1, s2, s3, s4, s5, s6, s7⟩ := hS1; go_simp; with_reducible rfl)
  refine wpX_one 9 (by kernel_rfl) rfl (fun K hK => ?_)
  go_simp
  refine (k2 _ _ _ hS0.2.2.2.2.2.2.2.1 hS0.2.2.2.2.2.2.2.2).mono ?_
  rintro e w' ⟨rfl, rfl⟩
  refine hK _ _ (fun _ => hS0) ?_
  clear hK K
  refine wpX_take 10 (v := ?v9) rfl (by kernel_rfl) (by kernel_rfl) (by kernel_rfl) (by kernel_rfl) (fun _ _ _ h => h) hS0 (Or.inl ⟨by kernel_rfl, ?h9⟩) ?_
  case h9 => (intro W1 hS1; obtain ⟨hs, s0, s1, s2, s3, s4, s5, s6, s7⟩ := hS1; go_simp; with_reducible rfl)
  refine wpX_take 11 (v := ?v10) rfl (by kernel_rfl) (by kernel_rfl) (by kernel_rfl) (by kernel_rfl) (fun _ _ _ h => h) hS0 (Or.inl ⟨by kernel_rfl, ?h10⟩) ?_
  case h10 => (intro W1 hS1; obtain ⟨hs, s0, s1, s2, s3, s4, s5, s6, s7⟩ := hS1; go_simp; with_reducible rfl)
  refine wpX_take 12 (v := ?v11) rfl (by kernel_rfl) (by kernel_rfl) (by kernel_rfl) (by kernel_rfl) (fun _ _ _ h => h) hS0 (Or.inl ⟨by kernel_rfl, ?h11⟩) ?_
  case h11 => (intro W1 hS1; obtain ⟨hs, s0, s1, s2, s3, s4, s5, s6, s7⟩ := hS1; go_simp; with_reducible rfl)
  refine wpX_take 13 (v := ?v12) rfl (by kernel_rfl) (by kernel_rfl) (by kernel_rfl) (by kernel_rfl) (fun _ _ _ h => h) hS0 (Or.inl ⟨by kernel_rfl, ?h12⟩) ?_
  case h12 => (intro W1 hS1; obtain ⟨hs, s0, s1, s2, s3, s4, s5, s6, s7⟩ := hS1; go_simp; with_reducible rfl)
  refine wpX_take 14 (v := ?v13) rfl (by kernel_rfl) (by kernel_rfl) (by kernel_rfl) (by kernel_rfl) (fun _ _ _ h => h) hS0 (Or.inl ⟨by kernel_rfl, ?h13⟩) ?_
  case h13 => (intro W1 hS1; obtain ⟨hs, s0, s1, s2, s3, s4, s5, s6, s7⟩ := hS1; go_simp; with_reducible rfl)
  refine wpX_one 15 (by kernel_rfl) rfl (fun K hK => ?_)
  go_simp
  refine (m3' _ hS0.1).mono ?_
  rintro e w' ⟨rfl, hb⟩
  have hS1 := HK.out _ (SB.trans hS0.1 hb)
  clear hb
  refine hK _ _ (fun _ => hS1) ?_
  clear hK K hS0
  have hS0 := hS1
  clear hS1
  refine wpX_take 16 (v := ?v14) rfl (by kernel_rfl) (by kernel_rfl) (by kernel_rfl) (by kernel_rfl) (fun _ _ _ h => h) hS0 (Or.inl ⟨by kernel_rfl, ?h14⟩) ?_
  case h14 => (intro W1 hS1; obtain ⟨hs, s0, s1, s2, s3, s4, s5, s6, s7⟩ := hS1; go_simp; with_reducible rfl)
  refine wpX_take 17 (v := ?v15) rfl (by kernel_rfl) (by kernel_rfl) (by kernel_rfl) (by kernel_rfl) (fun _ _ _ h => h) hS0 (Or.inl ⟨by kernel_rfl, ?h15⟩) ?_
  case h15 => (intro W1 hS1; obtain ⟨hs, s0, s1, s2, s3, s4, s5, s6, s7⟩ := hS1; go_simp; with_reducible rfl)
  refine wpX_take 18 (v := ?v16) rfl (by kernel_rfl) (by kernel_rfl) (by kernel_rfl) (by kernel_rfl) (fun _ _ _ h => h) hS0 (Or.inl ⟨by kernel_rfl, ?h16⟩) ?_
  case h16 => (intro W1 hS1; obtain ⟨hs, s0, s1, s2, s3, s4, s5, s6, s7⟩ := hS1; go_simp; with_reducible rfl)
  refine wpX_take 19 (v := undef) rfl (by kernel_rfl) (by kernel_rfl) (by kernel_rfl) (by kernel_rfl) (fun _ _ _ h => h) hS0 (Or.inr ⟨by kernel_rfl, rfl⟩) ?_
  refine wpX_take 20 (v := undef) rfl (by kernel_rfl) (by kernel_rfl) (by kernel_rfl) (by kernel_rfl) (fun _ _ _ h => h) hS0 (Or.inr ⟨by kernel_rfl, rfl⟩) ?_
  refine wpX_take 21 (v := undef) rfl (by kernel_rfl) (by kernel_rfl) (by kernel_rfl) (by kernel_rfl) (fun _ _ _ h => h) hS0 (Or.inr ⟨by kernel_rfl, rfl⟩) ?_
  refine wpX_take 22 (v := undef) rfl (by kernel_rfl) (by kernel_rfl) (by kernel_rfl) (by kernel_rfl) (fun _ _ _ h => h) hS0 (Or.inr ⟨by kernel_rfl, rfl⟩) ?_
  refine wpX_take 23 (v := undef) rfl (by kernel_rfl) (by kernel_rfl) (by kernel_rfl) (by kernel_rfl) (fun _ _ _ h => h) hS0 (Or.inr ⟨by kernel_rfl, rfl⟩) ?_
  refine wpX_take 24 (v := ?v22) rfl (by kernel_rfl) (by kernel_rfl) (by kernel_rfl) (by kernel_rfl) (fun _ _ _ h => h) hS0 (Or.inl ⟨by kernel_rfl, ?h22⟩) ?_
  case h22 => (intro W1 hS1; obtain ⟨hs, s0, s1, s2, s3, s4, s5, s6, s7⟩ := hS1; go_simp; with_reducible rfl)
  refine wpX_take 25 (v := ?v23) rfl (by kernel_rfl) (by kernel_rfl) (by kernel_rfl) (by kernel_rfl) (fun _ _ _ h => h) hS0 (Or.inl ⟨by kernel_rfl, ?h23⟩) ?_
  case h23 => (intro W1 hS1; obtain ⟨hs, s0, s1, s2, s3, s4, s5, s6, s7⟩ := hS1; go_simp; with_reducible rfl)
  refine wpX_take 26 (v := undef) rfl (by kernel_rfl) (by kernel_rfl) (by kernel_rfl) (by kernel_rfl) (fun _ _ _ h => h) hS0 (Or.inr ⟨by kernel_rfl, rfl⟩) ?_
  refine wpX_take 27 (v := undef) rfl (by kernel_rfl) (by kernel_rfl) (by kernel_rfl) (by kernel_rfl) (fun _ _ _ h => h) hS0 (Or.inr ⟨by kernel_rfl, rfl⟩) ?_
  refine wpX_take 28 (v := undef) rfl (by kernel_rfl) (by kernel_rfl) (by kernel_rfl) (by kernel_rfl) (fun _ _ _ h => h) hS0 (Or.inr ⟨by kernel_rfl, rfl⟩) ?_
  refine wpX_take 29 (v := undef) rfl (by kernel_rfl) (by kernel_rfl) (by kernel_rfl) (by kernel_rfl) (fun _ _ _ h => h) hS0 (Or.inr ⟨by kernel_rfl, rfl⟩) ?_
  refine wpX_take 30 (v := undef) rfl (by kernel_rfl) (by kernel_rfl) (by kernel_rfl) (by kernel_rfl) (fun _ _ _ h => h) hS0 (Or.inr ⟨by kernel_rfl, rfl⟩) ?_
  refine wpX_take 31 (v := ?v29) rfl (by kernel_rfl) (by kernel_rfl) (by kernel_rfl) (by kernel_rfl) (fun _ _ _ h => h) hS0 (Or.inl ⟨by kernel_rfl, ?h29⟩) ?_
  case h29 => (intro W1 hS1; obtain ⟨hs, s0, s1, s2, s3, s4, s5, s6, s7⟩ := hS1; go_simp; with_reducible rfl)
  refine wpX_take 32 (v := ?v30) rfl (by kernel_rfl) (by kernel_rfl) (by kernel_rfl) (by kernel_rfl) (fun _ _ _ h => h) hS0 (Or.inl ⟨by kernel_rfl, ?h30⟩) ?_
  case h30 => (intro W1 hS1; obtain ⟨hs, s0, s1, s2, s3, s4, s5, s6, s7⟩ := hS1; go_simp; with_reducible rfl)
  refine wpX_take 33 (v := undef) rfl (by kernel_rfl) (by kernel_rfl) (by kernel_rfl) (by kernel_rfl) (fun _ _ _ h => h) hS0 (Or.inr ⟨by kernel_rfl, rfl⟩) ?_
  refine wpX_take 34 (v := undef) rfl (by kernel_rfl) (by kernel_rfl) (by kernel_rfl) (by kernel_rfl) (fun _ _ _ h => h) hS0 (Or.inr ⟨by kernel_rfl, rfl⟩) ?_
  refine wpX_take 35 (v := undef) rfl (by kernel_rfl) (by kernel_rfl) (by kernel_rfl) (by kernel_rfl) (fun _ _ _ h => h) hS0 (Or.inr ⟨by kernel_rfl, rfl⟩) ?_
  refine wpX_take 36 (v := undef) rfl (by kernel_rfl) (by kernel_rfl) (by kernel_rfl) (by kernel_rfl) (fun _ _ _ h => h) hS0 (Or.inr ⟨by kernel_rfl, rfl⟩) ?_
  refine wpX_take 37 (v := ?v35) rfl (by kernel_rfl) (by kernel_rfl) (by kernel_rfl) (by kernel_rfl) (fun _ _ _ h => h) hS0 (Or.inl ⟨by kernel_rfl, ?h35⟩) ?_
  case h35 => (intro W1 hS1; obtain ⟨hs, s0, s1, s2, s3, s4, s5, s6, s7⟩ := hS1; go_simp; with_reducible rfl)
  refine wpX_done (by kernel_rfl) ?_ _
  go_simp
  have hBf := HB.out
  go_wp2
  go_ret
  exact ⟨rfl, hBf.trans (Below.mono hS0.1 hBf.size)⟩

set_option maxRecDepth 100000 in
set_option maxHeartbeats 40000000 in
theorem chk_4 {va aa ca ta : Option Addr} {vcap acap ccap tcap nv na nc nt : Nat} {vars arrays chans : List Int} {mu co : Int} {threads : List CodeM} {w : World} (hT : TabC w)
    (hv : Ints w va vars) (ha : Ints w aa arrays) (hc : Ints w ca chans) (ht : Cds w ta threads) (hnv : vars.length = nv) (hna : arrays.length = na) (_hnc : chans.length = nc) (_hnt : threads.length = nt)
    (bv : nv ≤ 281474976710656) (ba : na ≤ 281474976710656) (_bc : nc ≤ 281474976710656) (_bt : nt ≤ 281474976710656) (h1 : bMay 0 64 mu = true) (h2 : bMay 0 64 co = true) (h3 : (decide (nv ≤ 64) && vars.all vMay) = true) (h4 : (decide (na ≤ 64) && arrays.all (bMay 0 256)) = false) :
    Calls Tryd.prog 15 #[.agg #[.slice va nv vcap, .slice aa na acap, .slice ca nc ccap, .int .i64 mu, .int .i64 co, .slice ta nt tcap]] w fun e w' => e = .returned (.int .i64 2) ∧ Below w.heap.size w w' := by
  have hB1 : Below w.heap.size w (w.alloc (.cells #[.slice va nv vcap, .slice aa na acap, .slice ca nc ccap, .int .i64 mu, .int .i64 co, .slice ta nt tcap] 27)) := (Below.refl _ w).alloc (Nat.le_refl _) _
  have hX1 : (w.alloc (.cells #[.slice va nv vcap, .slice aa na acap, .slice ca nc ccap, .int .i64 mu, .int .i64 co, .slice ta nt tcap] 27)).heap[w.heap.size]? = some (.cells #[.slice va nv vcap, .slice aa na acap, .slice ca nc ccap, .int .i64 mu, .int .i64 co, .slice ta nt tcap] 27 (0, 0)) := World.alloc_heap_new _ _
  have hs1 : (w.alloc (.cells #[.slice va nv vcap, .slice aa na acap, .slice ca nc ccap, .int .i64 mu, .int .i64 co, .slice ta nt tcap] 27)).heap.size = w.heap.size + 1 := by simp
  have e64 : ((64 : Nat) : Int) = 64 := rfl
  have k1 := fun w p q hp hq => wit_any 0 64 mu w p q hp hq
  rw [h1] at k1
  have k2 := fun w p q hp hq => wit_any 0 64 co w p q hp hq
  rw [h2] at k2
  have m3 := fun w hI => may_v (w := w) (a := va) (l := vars) (n := nv) (cap := vcap) (m := 64) hnv bv hI
  rw [h3] at m3
  have m4 := fun w p q hI hp hq => may_b (w := w) (a := aa) (l := arrays) (n := na) (cap := acap) (m := 64) hna ba hI (lo := 0) (up := 256) (p := ⟨p, 0, none⟩) (q := ⟨q, 0, none⟩) hp hq
  rw [h4] at m4
  go_enter Tryd.func15, Tryd.ntmps15
  go_wp2_with fail
  have hT1 := hT.below hB1 hT.1
  have hv1 := hv.below hB1 (Nat.le_refl _)
  have ha1 := ha.below hB1 (Nat.le_refl _)
  have hc1 := hc.below hB1 (Nat.le_refl _)
  have ht1 := ht.below hB1 (Nat.le_refl _)
  clear hT hv ha hc ht
  generalize w.alloc (.cells #[.slice va nv vcap, .slice aa na acap, .slice ca nc ccap, .int .i64 mu, .int .i64 co, .slice ta nt tcap] 27) = V at *
  refine (within_any 0 64 V).mono ?_
  rintro e w' ⟨rfl, rfl⟩
  have hBW : Below V.heap.size V ((V.alloc (.cells #[.int .i64 0] 3)).alloc (.cells #[.int .i64 64] 3)) := ((Below.refl _ V).alloc (Nat.le_refl _) _).alloc (by simp) _
  have hP : (V.alloc (.cells #[.int .i64 0] 3)).heap[V.heap.size]? = some (.cells #[.int .i64 0] 3 (0, 0)) := World.alloc_heap_new _ _
  have hP2 := (Below.heap_alloc _ (.cells #[.int .i64 64] 3) _ (by simp)).trans hP
  have hQ : ((V.alloc (.cells #[.int .i64 0] 3)).alloc (.cells #[.int .i64 64] 3)).heap[V.heap.size + 1]? = some (.cells #[.int .i64 64] 3 (0, 0)) := by
    have h := World.alloc_heap_new (V.alloc (.cells #[.int .i64 0] 3)) (.cells #[.int .i64 64] 3)
    rwa [World.size_alloc] at h
  have hX := (hBW.block _ (by omega)).trans hX1
  have hT2 := hT1.below hBW hT1.1
  have hv2 := hv1.below hBW (Nat.le_refl _)
  have ha2 := ha1.below hBW (Nat.le_refl _)
  have hc2 := hc1.below hBW (Nat.le_refl _)
  have ht2 := ht1.below hBW (Nat.le_refl _)
  have hB := hB1.trans (hBW.mono hB1.size)
  clear hT1 hv1 ha1 hc1 ht1 hB1 hP hX1 hBW
  rw [hs1] at hP2 hQ ⊢
  generalize (V.alloc (.cells #[.int .i64 0] 3)).alloc (.cells #[.int .i64 64] 3) = W0 at *
  clear hs1
  go_wp2_with fail
  have c0 : W0.cell? ⟨w.heap.size, 0, none⟩ = some (.slice va nv vcap) := cell_blk hX rfl
  have c1 : W0.cell? ⟨w.heap.size, 1, none⟩ = some (.slice aa na acap) := cell_blk hX rfl
  have c2 : W0.cell? ⟨w.heap.size, 2, none⟩ = some (.slice ca nc ccap) := cell_blk hX rfl
  have c3 : W0.cell? ⟨w.heap.size, 3, none⟩ = some (.int .i64 mu) := cell_blk hX rfl
  have c4 : W0.cell? ⟨w.heap.size, 4, none⟩ = some (.int .i64 co) := cell_blk hX rfl
  have c5 : W0.cell? ⟨w.heap.size, 5, none⟩ = some (.slice ta nt tcap) := cell_blk hX rfl
  have c6 : W0.cell? ⟨w.heap.size + 1, 0, none⟩ = some (.int .i64 0) := cell_blk hP2 rfl
  have c7 : W0.cell? ⟨w.heap.size + 1 + 1, 0, none⟩ = some (.int .i64 64) := cell_blk hQ rfl
  have keep : ∀ W, SB W0 W → SB W0 W ∧ W.cell? ⟨w.heap.size, 0, none⟩ = some (.slice va nv vcap) ∧ W.cell? ⟨w.heap.size, 1, none⟩ = some (.slice aa na acap) ∧ W.cell? ⟨w.heap.size, 2, none⟩ = some (.slice ca nc ccap) ∧ W.cell? ⟨w.heap.size, 3, none⟩ = some (.int .i64 mu) ∧ W.cell? ⟨w.heap.size, 4, none⟩ = some (.int .i64 co) ∧ W.cell? ⟨w.heap.size, 5, none⟩ = some (.slice ta nt tcap) ∧ W.cell? ⟨w.heap.size + 1, 0, none⟩ = some (.int .i64 0) ∧ W.cell? ⟨w.heap.size + 1 + 1, 0, none⟩ = some (.int .i64 64) := fun W h => ⟨h, h.cell c0, h.cell c1, h.cell c2, h.cell c3, h.cell c4, h.cell c5, h.cell c6, h.cell c7⟩
  have HK := Lib.hid keep
  have m3' := fun W (h : SB W0 W) => m3 W (hv2.below h (Nat.le_refl _))
  simp only [e64] at m3'
  clear m3
  have m4' := fun W (h : SB W0 W) p q hp hq => m4 W p q (ha2.below h (Nat.le_refl _)) hp hq
  simp only [e64] at m4'
  clear m4
  have HB := Lib.hid hB
  have hS0 := HK.out _ (SB.drew (Below.refl W0.heap.size W0 : SB W0 W0))
  clear keep e64 h1 h2 h3 h4 hnv hna _hnc _hnt bv ba _bc _bt hT2 hv2 ha2 hc2 ht2 hB hX hP2 hQ c0 c1 c2 c3 c4 c5 c6 c7
  refine wp_region_x [] (fun W => SB W0 W ∧ W.cell? ⟨w.heap.size, 0, none⟩ = some (.slice va nv vcap) ∧ W.cell? ⟨w.heap.size, 1, none⟩ = some (.slice aa na acap) ∧ W.cell? ⟨w.heap.size, 2, none⟩ = some (.slice ca nc ccap) ∧ W.cell? ⟨w.heap.size, 3, none⟩ = some (.int .i64 mu) ∧ W.cell? ⟨w.heap.size, 4, none⟩ = some (.int .i64 co) ∧ W.cell? ⟨w.heap.size, 5, none⟩ = some (.slice ta nt tcap) ∧ W.cell? ⟨w.heap.size + 1, 0, none⟩ = some (.int .i64 0) ∧ W.cell? ⟨w.heap.size + 1 + 1, 0, none⟩ = some (.int .i64 64)) (by kernel_rfl) ?_
  refine wpX_take 0 (v := ?v1) rfl (by kernel_rfl) (by kernel_rfl) (by kernel_rfl) (by kernel_rfl) (fun _ _ _ h => h) hS0 (Or.inl ⟨by kernel_rfl, ?h1⟩) ?_
  case h1 => (intro W1 hS1; obtain ⟨hs, s0, s1, s2, s3, s4, s5, s6, s7⟩ := hS1; go_simp; with_reducible rfl)
  refine wpX_take 1 (v := ?v2) rfl (by kernel_rfl) (by kernel_rfl) (by kernel_rfl) (by kernel_rfl) (fun _ _ _ h => h) hS0 (Or.inl ⟨by kernel_rfl, ?h2⟩) ?_
  case h2 => (intro W1 hS1; obtain ⟨hs, s0, s1, s2, s3, s4, s5, s6, s7⟩ := hS1; go_simp; with_reducible rfl)
  refine wpX_take 2 (v := ?v3) rfl (by kernel_rfl) (by kernel_rfl) (by kernel_rfl) (by kernel_rfl) (fun _ _ _ h => h) hS0 (Or.inl ⟨by kernel_rfl, ?h3⟩) ?_
  case h3 => (intro W1 hS1; obtain ⟨hs, s0, s1, s2, s3, s4, s5, s6, s7⟩ := hS1; go_simp; with_reducible rfl)
  refine wpX_one 3 (by kernel_rfl) rfl (fun K hK => ?_)
  go_simp
  refine (k1 _ _ _ hS0.2.2.2.2.2.2.2.1 hS0.2.2.2.2.2.2.2.2).mono ?_
  rintro e w' ⟨rfl, rfl⟩
  refine hK _ _ (fun _ => hS0) ?_
  clear hK K
  refine wpX_take 4 (v := ?v4) rfl (by kernel_rfl) (by kernel_rfl) (by kernel_rfl) (by kernel_rfl) (fun _ _ _ h => h) hS0 (Or.inl ⟨by kernel_rfl, ?h4⟩) ?_
  case h4 => (intro W1 hS1; obtain ⟨hs, s0, s1, s2, s3, s4, s5, s6, s7⟩ := hS1; go_simp; with_reducible rfl)
  refine wpX_take 5 (v := ?v5) rfl (by kernel_rfl) (by kernel_rfl) (by kernel_rfl) (by kernel_rfl) (fun _ _ _ h => h) hS0 (Or.inl ⟨by kernel_rfl, ?h5⟩) ?_
  case h5 => (intro W1 hS1; obtain ⟨hs, s0, s1, s2, s3, s4, s5, s6, s7⟩ := hS1; go_simp; with_reducible rfl)
  refine wpX_take 6 (v := ?v6) rfl (by kernel_rfl) (by kernel_rfl) (by kernel_rfl) (by kernel_rfl) (fun _ _ _ h => h) hS0 (Or.inl ⟨by kernel_rfl, ?h6⟩) ?_
  case h6 => (intro W1 hS1; obtain ⟨hs, s0, s1, s2, s3, s4, s5, s6, s7⟩ := hS1; go_simp; with_reducible rfl)
  refine wpX_take 7 (v := ?v7) rfl (by kernel_rfl) (by kernel_rfl) (by kernel_rfl) (by kernel_rfl) (fun _ _ _ h => h) hS0 (Or.inl ⟨by kernel_rfl, ?h7⟩) ?_
  case h7 => (intro W1 hS1; obtain ⟨hs, s0, s1, s2, s3, s4, s5, s6, s7⟩ := hS1; go_simp; with_reducible rfl)
  refine wpX_take 8 (v := ?v8) rfl (by kernel_rfl) (by kernel_rfl) (by kernel_rfl) (by kernel_rfl) (fun _ _ _ h => h) hS0 (Or.inl ⟨by kernel_rfl, ?h8⟩) ?_
  case h8 => (intro W1 hS1; obtain ⟨hs, s0, s1, s2, s3, s4, s5, s6, s7⟩ := hS1; go_simp; with_reducible rfl)
  refine wpX_one 9 (by kernel_rfl) rfl (fun K hK => ?_)
  go_simp
  refine (k2 _ _ _ hS0.2.2.2.2.2.2.2.1 hS0.2.2.2.2.2.2.2.2).mono ?_
  rintro e w' ⟨rfl, rfl⟩
  refine hK _ _ (fun _ => hS0) ?_
  clear hK K
  refine wpX_take 10 (v := ?v9) rfl (by kernel_rfl) (by kernel_rfl) (by kernel_rfl) (by kernel_rfl) (fun _ _ _ h => h) hS0 (Or.inl ⟨by kernel_rfl, ?h9⟩) ?_
  case h9 => (intro W1 hS1; obtain ⟨hs, s0, s1, s2, s3, s4, s5, s6, s7⟩ := hS1; go_simp; with_reducible rfl)
  refine wpX_take 11 (v := ?v10) rfl (by kernel_rfl) (by kernel_rfl) (by kernel_rfl) (by kernel_rfl) (fun _ _ _ h => h) hS0 (Or.inl ⟨by kernel_rfl, ?h10⟩) ?_
  case h10 => (intro W1 hS1; obtain ⟨hs, s0, s1, s2, s3, s4, s5, s6, s7⟩ := hS1; go_simp; with_reducible rfl)
  refine wpX_take 12 (v := ?v11) rfl (by kernel_rfl) (by kernel_rfl) (by kernel_rfl) (by kernel_rfl) (fun _ _ _ h => h) hS0 (Or.inl ⟨by kernel_rfl, ?h11⟩) ?_
  case h11 => (intro W1 hS1; obtain ⟨hs, s0, s1, s2, s3, s4, s5, s6, s7⟩ := hS1; go_simp; with_reducible rfl)
  refine wpX_take 13 (v := ?v12) rfl (by kernel_rfl) (by kernel_rfl) (by kernel_rfl) (by kernel_rfl) (fun _ _ _ h => h) hS0 (Or.inl ⟨by kernel_rfl, ?h12⟩) ?_
  case h12 => (intro W1 hS1; obtain ⟨hs, s0, s1, s2, s3, s4, s5, s6, s7⟩ := hS1; go_simp; with_reducible rfl)
  refine wpX_take 14 (v := ?v13) rfl (by kernel_rfl) (by kernel_rfl) (by kernel_rfl) (by kernel_rfl) (fun _ _ _ h => h) hS0 (Or.inl ⟨by kernel_rfl, ?h13⟩) ?_
  case h13 => (intro W1 hS1; obtain ⟨hs, s0, s1, s2, s3, s4, s5, s6, s7⟩ := hS1; go_simp; with_reducible rfl)
  refine wpX_one 15 (by kernel_rfl) rfl (fun K hK => ?_)
  go_simp
  refine (m3' _ hS0.1).mono ?_
  rintro e w' ⟨rfl, hb⟩
  have hS1 := HK.out _ (SB.trans hS0.1 hb)
  clear hb
  refine hK _ _ (fun _ => hS1) ?_
  clear hK K hS0
  have hS0 := hS1
  clear hS1
  refine wpX_take 16 (v := ?v14) rfl (by kernel_rfl) (by kernel_rfl) (by kernel_rfl) (by kernel_rfl) (fun _ _ _ h => h) hS0 (Or.inl ⟨by kernel_rfl, ?h14⟩) ?_
  case h14 => (intro W1 hS1; obtain ⟨hs, s0, s1, s2, s3, s4, s5, s6, s7⟩ := hS1; go_simp; with_reducible rfl)
  refine wpX_take 17 (v := ?v15) rfl (by kernel_rfl) (by kernel_rfl) (by kernel_rfl) (by kernel_rfl) (fun _ _ _ h => h) hS0 (Or.inl ⟨by kernel_rfl, ?h15⟩) ?_
  case h15 => (intro W1 hS1; obtain ⟨hs, s0, s1, s2, s3, s4, s5, s6, s7⟩ := hS1; go_simp; with_reducible rfl)
  refine wpX_take 18 (v := ?v16) rfl (by kernel_rfl) (by kernel_rfl) (by kernel_rfl) (by kernel_rfl) (fun _ _ _ h => h) hS0 (Or.inl ⟨by kernel_rfl, ?h16⟩) ?_
  case h16 => (intro W1 hS1; obtain ⟨hs, s0, s1, s2, s3, s4, s5, s6, s7⟩ := hS1; go_simp; with_reducible rfl)
  refine wpX_take 19 (v := ?v17) rfl (by kernel_rfl) (by kernel_rfl) (by kernel_rfl) (by kernel_rfl) (fun _ _ _ h => h) hS0 (Or.inl ⟨by kernel_rfl, ?h17⟩) ?_
  case h17 => (intro W1 hS1; obtain ⟨hs, s0, s1, s2, s3, s4, s5, s6, s7⟩ := hS1; go_simp; with_reducible rfl)
  refine wpX_take 20 (v := ?v18) rfl (by kernel_rfl) (by kernel_rfl) (by kernel_rfl) (by kernel_rfl) (fun _ _ _ h => h) hS0 (Or.inl ⟨by kernel_rfl, ?h18⟩) ?_
  case h18 => (intro W1 hS1; obtain ⟨hs, s0, s1, s2, s3, s4, s5, s6, s7⟩ := hS1; go_simp; with_reducible rfl)
  refine wpX_one 21 (by kernel_rfl) rfl (fun K hK => ?_)
  go_simp
  refine (within_any _ _ _).mono ?_
  rintro e w' ⟨rfl, rfl⟩
  have hS1 := HK.out _ (SB.alloc (SB.alloc hS0.1 (.cells #[.int .i64 0] 3)) (.cells #[.int .i64 256] 3))
  refine hK _ _ (fun _ => hS1) ?_
  clear hK K hS0
  have hS0 := hS1
  clear hS1
  refine wpX_one 22 (by kernel_rfl) rfl (fun K hK => ?_)
  go_simp
  refine (m4' _ hS0.1 _ _ (by go_simp) (by go_simp)).mono ?_
  rintro e w' ⟨rfl, hb⟩
  have hS1 := HK.out _ (SB.trans hS0.1 hb)
  clear hb
  refine hK _ _ (fun _ => hS1) ?_
  clear hK K hS0
  have hS0 := hS1
  clear hS1
  refine wpX_take 23 (v := ?v19) rfl (by kernel_rfl) (by kernel_rfl) (by kernel_rfl) (by kernel_rfl) (fun _ _ _ h => h) hS0 (Or.inl ⟨by kernel_rfl, ?h19⟩) ?_
  case h19 => (intro W1 hS1; obtain ⟨hs, s0, s1, s2, s3, s4, s5, s6, s7⟩ := hS1; go_simp; with_reducible rfl)
  refine wpX_take 24 (v := ?v20) rfl (by kernel_rfl) (by kernel_rfl) (by kernel_rfl) (by kernel_rfl) (fun _ _ _ h => h) hS0 (Or.inl ⟨by kernel_rfl, ?h20⟩) ?_
  case h20 => (intro W1 hS1; obtain ⟨hs, s0, s1, s2, s3, s4, s5, s6, s7⟩ := hS1; go_simp; with_reducible rfl)
  refine wpX_take 25 (v := ?v21) rfl (by kernel_rfl) (by kernel_rfl) (by kernel_rfl) (by kernel_rfl) (fun _ _ _ h => h) hS0 (Or.inl ⟨by kernel_rfl, ?h21⟩) ?_
  case h21 => (intro W1 hS1; obtain ⟨hs, s0, s1, s2, s3, s4, s5, s6, s7⟩ := hS1; go_simp; with_reducible rfl)
  refine wpX_take 26 (v := undef) rfl (by kernel_rfl) (by kernel_rfl) (by kernel_rfl) (by kernel_rfl) (fun _ _ _ h => h) hS0 (Or.inr ⟨by kernel_rfl, rfl⟩) ?_
  refine wpX_take 27 (v := undef) rfl (by kernel_rfl) (by kernel_rfl) (by kernel_rfl) (by kernel_rfl) (fun _ _ _ h => h) hS0 (Or.inr ⟨by kernel_rfl, rfl⟩) ?_
  refine wpX_take 28 (v := undef) rfl (by kernel_rfl) (by kernel_rfl) (by kernel_rfl) (by kernel_rfl) (fun _ _ _ h => h) hS0 (Or.inr ⟨by kernel_rfl, rfl⟩) ?_
  refine wpX_take 29 (v := undef) rfl (by kernel_rfl) (by kernel_rfl) (by kernel_rfl) (by kernel_rfl) (fun _ _ _ h => h) hS0 (Or.inr ⟨by kernel_rfl, rfl⟩) ?_
  refine wpX_take 30 (v := undef) rfl (by kernel_rfl) (by kernel_rfl) (by kernel_rfl) (by kernel_rfl) (fun _ _ _ h => h) hS0 (Or.inr ⟨by kernel_rfl, rfl⟩) ?_
  refine wpX_take 31 (v := ?v27) rfl (by kernel_rfl) (by kernel_rfl) (by kernel_rfl) (by kernel_rfl) (fun _ _ _ h => h) hS0 (Or.inl ⟨by kernel_rfl, ?h27⟩) ?_
  case h27 => (intro W1 hS1; obtain ⟨hs, s0, s1, s2, s3, s4, s5, s6, s7⟩ := hS1; go_simp; with_reducible rfl)
  refine wpX_take 32 (v := ?v28) rfl (by kernel_rfl) (by kernel_rfl) (by kernel_rfl) (by kernel_rfl) (fun _ _ _ h => h) hS0 (Or.inl ⟨by kernel_rfl, ?h28⟩) ?_
  case h28 => (intro W1 hS1; obtain ⟨hs, s0, s1, s2, s3, s4, s5, s6, s7⟩ := hS1; go_simp; with_reducible rfl)
  refine wpX_take 33 (v := undef) rfl (by kernel_rfl) (by kernel_rfl) (by kernel_rfl) (by kernel_rfl) (fun _ _ _ h => h) hS0 (Or.inr ⟨by kernel_rfl, rfl⟩) ?_
  refine wpX_take 34 (v := undef) rfl (by kernel_rfl) (by kernel_rfl) (by kernel_rfl) (by kernel_rfl) (fun _ _ _ h => h) hS0 (Or.inr ⟨by kernel_rfl, rfl⟩) ?_
  refine wpX_take 35 (v := undef) rfl (by kernel_rfl) (by kernel_rfl) (by kernel_rfl) (by kernel_rfl) (fun _ _ _ h => h) hS0 (Or.inr ⟨by kernel_rfl, rfl⟩) ?_
  refine wpX_take 36 (v := undef) rfl (by kernel_rfl) (by kernel_rfl) (by kernel_rfl) (by kernel_rfl) (fun _ _ _ h => h) hS0 (Or.inr ⟨by kernel_rfl, rfl⟩) ?_
  refine wpX_take 37 (v := ?v33) rfl (by kernel_rfl) (by kernel_rfl) (by kernel_rfl) (by kernel_rfl) (fun _ _ _ h => h) hS0 (Or.inl ⟨by kernel_rfl, ?h33⟩) ?_
  case h33 => (intro W1 hS1; obtain ⟨hs, s0, s1, s2, s3, s4, s5, s6, s7⟩ := hS1; go_simp; with_reducible rfl)
  refine wpX_done (by kernel_rfl) ?_ _
  go_simp
  have hBf := HB.out
  go_wp2
  go_ret
  exact ⟨rfl, hBf.trans (Below.mono hS0.1 hBf.size)⟩

set_option maxRecDepth 100000 in
set_option maxHeartbeats 40000000 in
theorem chk_5 {va aa ca ta : Option Addr} {vcap acap ccap tcap nv na nc nt : Nat} {vars arrays chans : List Int} {mu co : Int} {threads : List CodeM} {w : World} (hT : TabC w)
    (hv : Ints w va vars) (ha : Ints w aa arrays) (hc : Ints w ca chans) (ht : Cds w ta threads) (hnv : vars.length = nv) (hna : arrays.length = na) (hnc : chans.length = nc) (_hnt : threads.length = nt)
    (bv : nv ≤ 281474976710656) (ba : na ≤ 281474976710656) (bc : nc ≤ 281474976710656) (_bt : nt ≤ 281474976710656) (h1 : bMay 0 64 mu = true) (h2 : bMay 0 64 co = true) (h3 : (decide (nv ≤ 64) && vars.all vMay) = true) (h4 : (decide (na ≤ 64) && arrays.all (bMay 0 256)) = true) (h5 : (decide (nc ≤ 64) && chans.all (bMay 1 16)) = false) :
    Calls Tryd.prog 15 #[.agg #[.slice va nv vcap, .slice aa na acap, .slice ca nc ccap, .int .i64 mu, .int .i64 co, .slice ta nt tcap]] w fun e w' => e = .returned (.int .i64 2) ∧ Below w.heap.size w w' := by
  have hB1 : Below w.heap.size w (w.alloc (.cells #[.slice va nv vcap, .slice aa na acap, .slice ca nc ccap, .int .i64 mu, .int .i64 co, .slice ta nt tcap] 27)) := (Below.refl _ w).alloc (Nat.le_refl _) _
  have hX1 : (w.alloc (.cells #[.slice va nv vcap, .slice aa na acap, .slice ca nc ccap, .int .i64 mu, .int .i64 co, .slice ta nt tcap] 27)).heap[w.heap.size]? = some (.cells #[.slice va nv vcap, .slice aa na acap, .slice ca nc ccap, .int .i64 mu, .int .i64 co, .slice ta nt tcap] 27 (0, 0)) := World.alloc_heap_new _ _
  have hs1 : (w.alloc (.cells #[.slice va nv vcap, .slice aa na acap, .slice ca nc ccap, .int .i64 mu, .int .i64 co, .slice ta nt tcap] 27)).heap.size = w.heap.size + 1 := by simp
  have e64 : ((64 : Nat) : Int) = 64 := rfl
  have k1 := fun w p q hp hq => wit_any 0 64 mu w p q hp hq
  rw [h1] at k1
  have k2 := fun w p q hp hq => wit_any 0 64 co w p q hp hq
  rw [h2] at k2
  have m3 := fun w hI => may_v (w := w) (a := va) (l := vars) (n := nv) (cap := vcap) (m := 64) hnv bv hI
  rw [h3] at m3
  have m4 := fun w p q hI hp hq => may_b (w := w) (a := aa) (l := arrays) (n := na) (cap := acap) (m := 64) hna ba hI (lo := 0) (up := 256) (p := ⟨p, 0, none⟩) (q := ⟨q, 0, none⟩) hp hq
  rw [h4] at m4
  have m5 := fun w p q hI hp hq => may_b (w := w) (a := ca) (l := chans) (n := nc) (cap := ccap) (m := 64) hnc bc hI (lo := 1) (up := 16) (p := ⟨p, 0, none⟩) (q := ⟨q, 0, none⟩) hp hq
  rw [h5] at m5
  go_enter Tryd.func15, Tryd.ntmps15
  go_wp2_with fail
  have hT1 := hT.below hB1 hT.1
  have hv1 := hv.below hB1 (Nat.le_refl _)
  have ha1 := ha.below hB1 (Nat.le_refl _)
  have hc1 := hc.below hB1 (Nat.le_refl _)
  have ht1 := ht.below hB1 (Nat.le_refl _)
  clear hT hv ha hc ht
  generalize w.alloc (.cells #[.slice va nv vcap, .slice aa na acap, .slice ca nc ccap, .int .i64 mu, .int .i64 co, .slice ta nt tcap] 27) = V at *
  refine (within_any 0 64 V).mono ?_
  rintro e w' ⟨rfl, rfl⟩
  have hBW : Below V.heap.size V ((V.alloc (.cells #[.int .i64 0] 3)).alloc (.cells #[.int .i64 64] 3)) := ((Below.refl _ V).alloc (Nat.le_refl _) _).alloc (by simp) _
  have hP : (V.alloc (.cells #[.int .i64 0] 3)).heap[V.heap.size]? = some (.cells #[.int .i64 0] 3 (0, 0)) := World.alloc_heap_new _ _
  have hP2 := (Below.heap_alloc _ (.cells #[.int .i64 64] 3) _ (by simp)).trans hP
  have hQ : ((V.alloc (.cells #[.int .i64 0] 3)).alloc (.cells #[.int .i64 64] 3)).heap[V.heap.size + 1]? = some (.cells #[.int .i64 64] 3 (0, 0)) := by
    have h := World.alloc_heap_new (V.alloc (.cells #[.int .i64 0] 3)) (.cells #[.int .i64 64] 3)
    rwa [World.size_alloc] at h
  have hX := (hBW.block _ (by omega)).trans hX1
  have hT2 := hT1.below hBW hT1.1
  have hv2 := hv1.below hBW (Nat.le_refl _)
  have ha2 := ha1.below hBW (Nat.le_refl _)
  have hc2 := hc1.below hBW (Nat.le_refl _)
  have ht2 := ht1.below hBW (Nat.le_refl _)
  have hB := hB1.trans (hBW.mono hB1.size)
  clear hT1 hv1 ha1 hc1 ht1 hB1 hP hX1 hBW
  rw [hs1] at hP2 hQ ⊢
  generalize (V.alloc (.cells #[.int .i64 0] 3)).alloc (.cells #[.int .i64 64] 3) = W0 at *
  clear hs1
  go_wp2_with fail
  have c0 : W0.cell? ⟨w.heap.size, 0, none⟩ = some (.slice va nv vcap) := cell_blk hX rfl
  have c1 : W0.cell? ⟨w.heap.size, 1, none⟩ = some (.slice aa na acap) := cell_blk hX rfl
  have c2 : W0.cell? ⟨w.heap.size, 2, none⟩ = some (.slice ca nc ccap) := cell_blk hX rfl
  have c3 : W0.cell? ⟨w.heap.size, 3, none⟩ = some (.int .i64 mu) := cell_blk hX rfl
  have c4 : W0.cell? ⟨w.heap.size, 4, none⟩ = some (.int .i64 co) := cell_blk hX rfl
  have c5 : W0.cell? ⟨w.heap.size, 5, none⟩ = some (.slice ta nt tcap) := cell_blk hX rfl
  have c6 : W0.cell? ⟨w.heap.size + 1, 0, none⟩ = some (.int .i64 0) := cell_blk hP2 rfl
  have c7 : W0.cell? ⟨w.heap.size + 1 + 1, 0, none⟩ = some (.int .i64 64) := cell_blk hQ rfl
  have keep : ∀ W, SB W0 W → SB W0 W ∧ W.cell? ⟨w.heap.size, 0, none⟩ = some (.slice va nv vcap) ∧ W.cell? ⟨w.heap.size, 1, none⟩ = some (.slice aa na acap) ∧ W.cell? ⟨w.heap.size, 2, none⟩ = some (.slice ca nc ccap) ∧ W.cell? ⟨w.heap.size, 3, none⟩ = some (.int .i64 mu) ∧ W.cell? ⟨w.heap.size, 4, none⟩ = some (.int .i64 co) ∧ W.cell? ⟨w.heap.size, 5, none⟩ = some (.slice ta nt tcap) ∧ W.cell? ⟨w.heap.size + 1, 0, none⟩ = some (.int .i64 0) ∧ W.cell? ⟨w.heap.size + 1 + 1, 0, none⟩ = some (.int .i64 64) := fun W h => ⟨h, h.cell c0, h.cell c1, h.cell c2, h.cell c3, h.cell c4, h.cell c5, h.cell c6, h.cell c7⟩
  have HK := Lib.hid keep
  have m3' := fun W (h : SB W0 W) => m3 W (hv2.below h (Nat.le_refl _))
  simp only [e64] at m3'
  clear m3
  have m4' := fun W (h : SB W0 W) p q hp hq => m4 W p q (ha2.below h (Nat.le_refl _)) hp hq
  simp only [e64] at m4'
  clear m4
  have m5' := fun W (h : SB W0 W) p q hp hq => m5 W p q (hc2.below h (Nat.le_refl _)) hp hq
  simp only [e64] at m5'
  clear m5
  have HB := Lib.hid hB
  have hS0 := HK.out _ (SB.drew (Below.refl W0.heap.size W0 : SB W0 W0))
  clear keep e64 h1 h2 h3 h4 h5 hnv hna hnc _hnt bv ba bc _bt hT2 hv2 ha2 hc2 ht2 hB hX hP2 hQ c0 c1 c2 c3 c4 c5 c6 c7
  refine wp_region_x [] (fun W => SB W0 W ∧ W.cell? ⟨w.heap.size, 0, none⟩ = some (.slice va nv vcap) ∧ W.cell? ⟨w.heap.size, 1, none⟩ = some (.slice aa na acap) ∧ W.cell? ⟨w.heap.size, 2, none⟩ = some (.slice ca nc ccap) ∧ W.cell? ⟨w.heap.size, 3, none⟩ = some (.int .i64 mu) ∧ W.cell? ⟨w.heap.size, 4, none⟩ = some (.int .i64 co) ∧ W.cell? ⟨w.heap.size, 5, none⟩ = some (.slice ta nt tcap) ∧ W.cell? ⟨w.heap.size + 1, 0, none⟩ = some (.int .i64 0) ∧ W.cell? ⟨w.heap.size + 1 + 1, 0, none⟩ = some (.int .i64 64)) (by kernel_rfl) ?_
  refine wpX_take 0 (v := ?v1) rfl (by kernel_rfl) (by kernel_rfl) (by kernel_rfl) (by kernel_rfl) (fun _ _ _ h => h) hS0 (Or.inl ⟨by kernel_rfl, ?h1⟩) ?_
  case h1 => (intro W1 hS1; obtain ⟨hs, s0, s1, s2, s3, s4, s5, s6, s7⟩ := hS1; go_simp; with_reducible rfl)
  refine wpX_take 1 (v := ?v2) rfl (by kernel_rfl) (by kernel_rfl) (by kernel_rfl) (by kernel_rfl) (fun _ _ _ h => h) hS0 (Or.inl ⟨by kernel_rfl, ?h2⟩) ?_
  case h2 => (intro W1 hS1; obtain ⟨hs, s0, s1, s2, s3, s4, s5, s6, s7⟩ := hS1; go_simp; with_reducible rfl)
  refine wpX_take 2 (v := ?v3) rfl (by kernel_rfl) (by kernel_rfl) (by kernel_rfl) (by kernel_rfl) (fun _ _ _ h => h) hS0 (Or.inl ⟨by kernel_rfl, ?h3⟩) ?_
  case h3 => (intro W1 hS1; obtain ⟨hs, s0, s1, s2, s3, s4, s5, s6, s7⟩ := hS1; go_simp; with_reducible rfl)
  refine wpX_one 3 (by kernel_rfl) rfl (fun K hK => ?_)
  go_simp
  refine (k1 _ _ _ hS0.2.2.2.2.2.2.2.1 hS0.2.2.2.2.2.2.2.2).mono ?_
  rintro e w' ⟨rfl, rfl⟩
  refine hK _ _ (fun _ => hS0) ?_
  clear hK K
  refine wpX_take 4 (v := ?v4) rfl (by kernel_rfl) (by kernel_rfl) (by kernel_rfl) (by kernel_rfl) (fun _ _ _ h => h) hS0 (Or.inl ⟨by kernel_rfl, ?h4⟩) ?_
  case h4 => (intro W1 hS1; obtain ⟨hs, s0, s1, s2, s3, s4, s5, s6, s7⟩ := hS1; go_simp; with_reducible rfl)
  refine wpX_take 5 (v := ?v5) rfl (by kernel_rfl) (by kernel_rfl) (by kernel_rfl) (by kernel_rfl) (fun _ _ _ h => h) hS0 (Or.inl ⟨by kernel_rfl, ?h5⟩) ?_
  case h5 => (intro W1 hS1; obtain ⟨hs, s0, s1, s2, s3, s4, s5, s6, s7⟩ := hS1; go_simp; with_reducible rfl)
  refine wpX_take 6 (v := ?v6) rfl (by kernel_rfl) (by kernel_rfl) (by kernel_rfl) (by kernel_rfl) (fun _ _ _ h => h) hS0 (Or.inl ⟨by kernel_rfl, ?h6⟩) ?_
  case h6 => (intro W1 hS1; obtain ⟨hs, s0, s1, s2, s3, s4, s5, s6, s7⟩ := hS1; go_simp; with_reducible rfl)
  refine wpX_take 7 (v := ?v7) rfl (by kernel_rfl) (by kernel_rfl) (by kernel_rfl) (by kernel_rfl) (fun _ _ _ h => h) hS0 (Or.inl ⟨by kernel_rfl, ?h7⟩) ?_
  case h7 => (intro W1 hS1; obtain ⟨hs, s0, s1, s2, s3, s4, s5, s6, s7⟩ := hS1; go_simp; with_reducible rfl)
  refine wpX_take 8 (v := ?v8) rfl (by kernel_rfl) (by kernel_rfl) (by kernel_rfl) (by kernel_rfl) (fun _ _ _ h => h) hS0 (Or.inl ⟨by kernel_rfl, ?h8⟩) ?_
  case h8 => (intro W1 hS1; obtain ⟨hs, s0, s1, s2, s3, s4, s5, s6, s7⟩ := hS1; go_simp; with_reducible rfl)
  refine wpX_one 9 (by kernel_rfl) rfl (fun K hK => ?_)
  go_simp
  refine (k2 _ _ _ hS0.2.2.2.2.2.2.2.1 hS0.2.2.2.2.2.2.2.2).mono ?_
  rintro e w' ⟨rfl, rfl⟩
  refine hK _ _ (fun _ => hS0) ?_
  clear hK K
  refine wpX_take 10 (v := ?v9) rfl (by kernel_rfl) (by kernel_rfl) (by kernel_rfl) (by kernel_rfl) (fun _ _ _ h => h) hS0 (Or.inl ⟨by kernel_rfl, ?h9⟩) ?_
  case h9 => (intro W1 hS1; obtain ⟨hs, s0, s1, s2, s3, s4, s5, s6, s7⟩ := hS1; go_simp; with_reducible rfl)
  refine wpX_take 11 (v := ?v10) rfl (by kernel_rfl) (by kernel_rfl) (by kernel_rfl) (by kernel_rfl) (fun _ _ _ h => h) hS0 (Or.inl ⟨by kernel_rfl, ?h10⟩) ?_
  case h10 => (intro W1 hS1; obtain ⟨hs, s0, s1, s2, s3, s4, s5, s6, s7⟩ := hS1; go_simp; with_reducible rfl)
  refine wpX_take 12 (v := ?v11) rfl (by kernel_rfl) (by kernel_rfl) (by kernel_rfl) (by kernel_rfl) (fun _ _ _ h => h) hS0 (Or.inl ⟨by kernel_rfl, ?h11⟩) ?_
  case h11 => (intro W1 hS1; obtain ⟨hs, s0, s1, s2, s3, s4, s5, s6, s7⟩ := hS1; go_simp; with_reducible rfl)
  refine wpX_take 13 (v := ?v12) rfl (by kernel_rfl) (by kernel_rfl) (by kernel_rfl) (by kernel_rfl) (fun _ _ _ h => h) hS0 (Or.inl ⟨by kernel_rfl, ?h12⟩) ?_
  case h12 => (intro W1 hS1; obtain ⟨hs, s0, s1, s2, s3, s4, s5, s6, s7⟩ := hS1; go_simp; with_reducible rfl)
  refine wpX_take 14 (v := ?v13) rfl (by kernel_rfl) (by kernel_rfl) (by kernel_rfl) (by kernel_rfl) (fun _ _ _ h => h) hS0 (Or.inl ⟨by kernel_rfl, ?h13⟩) ?_
  case h13 => (intro W1 hS1; obtain ⟨hs, s0, s1, s2, s3, s4, s5, s6, s7⟩ := hS1; go_simp; with_reducible rfl)
  refine wpX_one 15 (by kernel_rfl) rfl (fun K hK => ?_)
  go_simp
  refine (m3' _ hS0.1).mono ?_
  rintro e w' ⟨rfl, hb⟩
  have hS1 := HK.out _ (SB.trans hS0.1 hb)
  clear hb
  refine hK _ _ (fun _ => hS1) ?_
  clear hK K hS0
  have hS0 := hS1
  clear hS1
  refine wpX_take 16 (v := ?v14) rfl (by kernel_rfl) (by kernel_rfl) (by kernel_rfl) (by kernel_rfl) (fun _ _ _ h => h) hS0 (Or.inl ⟨by kernel_rfl, ?h14⟩) ?_
  case h14 => (intro W1 hS1; obtain ⟨hs, s0, s1, s2, s3, s4, s5, s6, s7⟩ := hS1; go_simp; with_reducible rfl)
  refine wpX_take 17 (v := ?v15) rfl (by kernel_rfl) (by kernel_rfl) (by kernel_rfl) (by kernel_rfl) (fun _ _ _ h => h) hS0 (Or.inl ⟨by kernel_rfl, ?h15⟩) ?_
  case h15 => (intro W1 hS1; obtain ⟨hs, s0, s1, s2, s3, s4, s5, s6, s7⟩ := hS1; go_simp; with_reducible rfl)
  refine wpX_take 18 (v := ?v16) rfl (by kernel_rfl) (by kernel_rfl) (by kernel_rfl) (by kernel_rfl) (fun _ _ _ h => h) hS0 (Or.inl ⟨by kernel_rfl, ?h16⟩) ?_
  case h16 => (intro W1 hS1; obtain ⟨hs, s0, s1, s2, s3, s4, s5, s6, s7⟩ := hS1; go_simp; with_reducible rfl)
  refine wpX_take 19 (v := ?v17) rfl (by kernel_rfl) (by kernel_rfl) (by kernel_rfl) (by kernel_rfl) (fun _ _ _ h => h) hS0 (Or.inl ⟨by kernel_rfl, ?h17⟩) ?_
  case h17 => (intro W1 hS1; obtain ⟨hs, s0, s1, s2, s3, s4, s5, s6, s7⟩ := hS1; go_simp; with_reducible rfl)
  refine wpX_take 20 (v := ?v18) rfl (by kernel_rfl) (by kernel_rfl) (by kernel_rfl) (by kernel_rfl) (fun _ _ _ h => h) hS0 (Or.inl ⟨by kernel_rfl, ?h18⟩) ?_
  case h18 => (intro W1 hS1; obtain ⟨hs, s0, s1, s2, s3, s4, s5, s6, s7⟩ := hS1; go_simp; with_reducible rfl)
  refine wpX_one 21 (by kernel_rfl) rfl (fun K hK => ?_)
  go_simp
  refine (within_any _ _ _).mono ?_
  rintro e w' ⟨rfl, rfl⟩
  have hS1 := HK.out _ (SB.alloc (SB.alloc hS0.1 (.cells #[.int .i64 0] 3)) (.cells #[.int .i64 256] 3))
  refine hK _ _ (fun _ => hS1) ?_
  clear hK K hS0
  have hS0 := hS1
  clear hS1
  refine wpX_one 22 (by kernel_rfl) rfl (fun K hK => ?_)
  go_simp
  refine (m4' _ hS0.1 _ _ (by go_simp) (by go_simp)).mono ?_
  rintro e w' ⟨rfl, hb⟩
  have hS1 := HK.out _ (SB.trans hS0.1 hb)
  clear hb
  refine hK _ _ (fun _ => hS1) ?_
  clear hK K hS0
  have hS0 := hS1
  clear hS1
  refine wpX_take 23 (v := ?v19) rfl (by kernel_rfl) (by kernel_rfl) (by kernel_rfl) (by kernel_rfl) (fun _ _ _ h => h) hS0 (Or.inl ⟨by kernel_rfl, ?h19⟩) ?_
  case h19 => (intro W1 hS1; obtain ⟨hs, s0, s1, s2, s3, s4, s5, s6, s7⟩ := hS1; go_simp; with_reducible rfl)
  refine wpX_take 24 (v := ?v20) rfl (by kernel_rfl) (by kernel_rfl) (by kernel_rfl) (by kernel_rfl) (fun _ _ _ h => h) hS0 (Or.inl ⟨by kernel_rfl, ?h20⟩) ?_
  case h20 => (intro W1 hS1; obtain ⟨hs, s0, s1, s2, s3, s4, s5, s6, s7⟩ := hS1; go_simp; with_reducible rfl)
  refine wpX_take 25 (v := ?v21) rfl (by kernel_rfl) (by kernel_rfl) (by kernel_rfl) (by kernel_rfl) (fun _ _ _ h => h) hS0 (Or.inl ⟨by kernel_rfl, ?h21⟩) ?_
  case h21 => (intro W1 hS1; obtain ⟨hs, s0, s1, s2, s3, s4, s5, s6, s7⟩ := hS1; go_simp; with_reducible rfl)
  refine wpX_take 26 (v := ?v22) rfl (by kernel_rfl) (by kernel_rfl) (by kernel_rfl) (by kernel_rfl) (fun _ _ _ h => h) hS0 (Or.inl ⟨by kernel_rfl, ?h22⟩) ?_
  case h22 => (intro W1 hS1; obtain ⟨hs, s0, s1, s2, s3, s4, s5, s6, s7⟩ := hS1; go_simp; with_reducible rfl)
  refine wpX_take 27 (v := ?v23) rfl (by kernel_rfl) (by kernel_rfl) (by kernel_rfl) (by kernel_rfl) (fun _ _ _ h => h) hS0 (Or.inl ⟨by kernel_rfl, ?h23⟩) ?_
  case h23 => (intro W1 hS1; obtain ⟨hs, s0, s1, s2, s3, s4, s5, s6, s7⟩ := hS1; go_simp; with_reducible rfl)
  refine wpX_one 28 (by kernel_rfl) rfl (fun K hK => ?_)
  go_simp
  refine (within_any _ _ _).mono ?_
  rintro e w' ⟨rfl, rfl⟩
  have hS1 := HK.out _ (SB.alloc (SB.alloc hS0.1 (.cells #[.int .i64 1] 3)) (.cells #[.int .i64 16] 3))
  refine hK _ _ (fun _ => hS1) ?_
  clear hK K hS0
  have hS0 := hS1
  clear hS1
  refine wpX_one 29 (by kernel_rfl) rfl (fun K hK => ?_)
  go_simp
  refine (m5' _ hS0.1 _ _ (by go_simp) (by go_simp)).mono ?_
  rintro e w' ⟨rfl, hb⟩
  have hS1 := HK.out _ (SB.trans hS0.1 hb)
  clear hb
  refine hK _ _ (fun _ => hS1) ?_
  clear hK K hS0
  have hS0 := hS1
  clear hS1
  refine wpX_take 30 (v := ?v24) rfl (by kernel_rfl) (by kernel_rfl) (by kernel_rfl) (by kernel_rfl) (fun _ _ _ h => h) hS0 (Or.inl ⟨by kernel_rfl, ?h24⟩) ?_
  case h24 => (intro W1 hS1; obtain ⟨hs, s0, s1, s2, s3, s4, s5, s6, s7⟩ := hS1; go_simp; with_reducible rfl)
  refine wpX_take 31 (v := ?v25) rfl (by kernel_rfl) (by kernel_rfl) (by kernel_rfl) (by kernel_rfl) (fun _ _ _ h => h) hS0 (Or.inl ⟨by kernel_rfl, ?h25⟩) ?_
  case h25 => (intro W1 hS1; obtain ⟨hs, s0, s1, s2, s3, s4, s5, s6, s7⟩ := hS1; go_simp; with_reducible rfl)
  refine wpX_take 32 (v := ?v26) rfl (by kernel_rfl) (by kernel_rfl) (by kernel_rfl) (by kernel_rfl) (fun _ _ _ h => h) hS0 (Or.inl ⟨by kernel_rfl, ?h26⟩) ?_
  case h26 => (intro W1 hS1; obtain ⟨hs, s0, s1, s2, s3, s4, s5, s6, s7⟩ := hS1; go_simp; with_reducible rfl)
  refine wpX_take 33 (v := undef) rfl (by kernel_rfl) (by kernel_rfl) (by kernel_rfl) (by kernel_rfl) (fun _ _ _ h => h) hS0 (Or.inr ⟨by kernel_rfl, rfl⟩) ?_
  refine wpX_take 34 (v := undef) rfl (by kernel_rfl) (by kernel_rfl) (by kernel_rfl) (by kernel_rfl) (fun _ _ _ h => h) hS0 (Or.inr ⟨by kernel_rfl, rfl⟩) ?_
  refine wpX_take 35 (v := undef) rfl (by kernel_rfl) (by kernel_rfl) (by kernel_rfl) (by kernel_rfl) (fun _ _ _ h => h) hS0 (Or.inr ⟨by kernel_rfl, rfl⟩) ?_
  refine wpX_take 36 (v := undef) rfl (by kernel_rfl) (by kernel_rfl) (by kernel_rfl) (by kernel_rfl) (fun _ _ _ h => h) hS0 (Or.inr ⟨by kernel_rfl, rfl⟩) ?_
  refine wpX_take 37 (v := ?v31) rfl (by kernel_rfl) (by kernel_rfl) (by kernel_rfl) (by kernel_rfl) (fun _ _ _ h => h) hS0 (Or.inl ⟨by kernel_rfl, ?h31⟩) ?_
  case h31 => (intro W1 hS1; obtain ⟨hs, s0, s1, s2, s3, s4, s5, s6, s7⟩ := hS1; go_simp; with_reducible rfl)
  refine wpX_done (by kernel_rfl) ?_ _
  go_simp
  have hBf := HB.out
  go_wp2
  go_ret
  exact ⟨rfl, hBf.trans (Below.mono hS0.1 hBf.size)⟩

set_option maxRecDepth 100000 in
set_option maxHeartbeats 40000000 in
theorem chk_6 {va aa ca ta : Option Addr} {vcap acap ccap tcap nv na nc nt : Nat} {vars arrays chans : List Int} {mu co : Int} {threads : List CodeM} {w : World} (hT : TabC w)
    (hv : Ints w va vars) (ha : Ints w aa arrays) (hc : Ints w ca chans) (ht : Cds w ta threads) (hnv : vars.length = nv) (hna : arrays.length = na) (hnc : chans.length = nc) (hnt : threads.length = nt)
    (bv : nv ≤ 281474976710656) (ba : na ≤ 281474976710656) (bc : nc ≤ 281474976710656) (bt : nt ≤ 281474976710656) (h1 : bMay 0 64 mu = true) (h2 : bMay 0 64 co = true) (h3 : (decide (nv ≤ 64) && vars.all vMay) = true) (h4 : (decide (na ≤ 64) && arrays.all (bMay 0 256)) = true) (h5 : (decide (nc ≤ 64) && chans.all (bMay 1 16)) = true) (h6 : (decide (nt ≤ 64) && threads.all tMay) = false) :
    Calls Tryd.prog 15 #[.agg #[.slice va nv vcap, .slice aa na acap, .slice ca nc ccap, .int .i64 mu, .int .i64 co, .slice ta nt tcap]] w fun e w' => e = .returned (.int .i64 2) ∧ Below w.heap.size w w' := by
  have hB1 : Below w.heap.size w (w.alloc (.cells #[.slice va nv vcap, .slice aa na acap, .slice ca nc ccap, .int .i64 mu, .int .i64 co, .slice ta nt tcap] 27)) := (Below.refl _ w).alloc (Nat.le_refl _) _
  have hX1 : (w.alloc (.cells #[.slice va nv vcap, .slice aa na acap, .slice ca nc ccap, .int .i64 mu, .int .i64 co, .slice ta nt tcap] 27)).heap[w.heap.size]? = some (.cells #[.slice va nv vcap, .slice aa na acap, .slice ca nc ccap, .int .i64 mu, .int .i64 co, .slice ta nt tcap] 27 (0, 0)) := World.alloc_heap_new _ _
  have hs1 : (w.alloc (.cells #[.slice va nv vcap, .slice aa na acap, .slice ca nc ccap, .int .i64 mu, .int .i64 co, .slice ta nt tcap] 27)).heap.size = w.heap.size + 1 := by simp
  have e64 : ((64 : Nat) : Int) = 64 := rfl
  have k1 := fun w p q hp hq => wit_any 0 64 mu w p q hp hq
  rw [h1] at k1
  have k2 := fun w p q hp hq => wit_any 0 64 co w p q hp hq
  rw [h2] at k2
  have m3 := fun w hI => may_v (w := w) (a := va) (l := vars) (n := nv) (cap := vcap) (m := 64) hnv bv hI
  rw [h3] at m3
  have m4 := fun w p q hI hp hq => may_b (w := w) (a := aa) (l := arrays) (n := na) (cap := acap) (m := 64) hna ba hI (lo := 0) (up := 256) (p := ⟨p, 0, none⟩) (q := ⟨q, 0, none⟩) hp hq
  rw [h4] at m4
  have m5 := fun w p q hI hp hq => may_b (w := w) (a := ca) (l := chans) (n := nc) (cap := ccap) (m := 64) hnc bc hI (lo := 1) (up := 16) (p := ⟨p, 0, none⟩) (q := ⟨q, 0, none⟩) hp hq
  rw [h5] at m5
  have m6 := fun w hI hT => may_c (w := w) (a := ta) (l := threads) (n := nt) (cap := tcap) (m := 64) hnt bt hI hT
  rw [h6] at m6
  go_enter Tryd.func15, Tryd.ntmps15
  go_wp2_with fail
  have hT1 := hT.below hB1 hT.1
  have hv1 := hv.below hB1 (Nat.le_refl _)
  have ha1 := ha.below hB1 (Nat.le_refl _)
  have hc1 := hc.below hB1 (Nat.le_refl _)
  have ht1 := ht.below hB1 (Nat.le_refl _)
  clear hT hv ha hc ht
  generalize w.alloc (.cells #[.slice va nv vcap, .slice aa na acap, .slice ca nc ccap, .int .i64 mu, .int .i64 co, .slice ta nt tcap] 27) = V at *
  refine (within_any 0 64 V).mono ?_
  rintro e w' ⟨rfl, rfl⟩
  have hBW : Below V.heap.size V ((V.alloc (.cells #[.int .i64 0] 3)).alloc (.cells #[.int .i64 64] 3)) := ((Below.refl _ V).alloc (Nat.le_refl _) _).alloc (by simp) _
  have hP : (V.alloc (.cells #[.int .i64 0] 3)).heap[V.heap.size]? = some (.cells #[.int .i64 0] 3 (0, 0)) := World.alloc_heap_new _ _
  have hP2 := (Below.heap_alloc _ (.cells #[.int .i64 64] 3) _ (by simp)).trans hP
  have hQ : ((V.alloc (.cells #[.int .i64 0] 3)).alloc (.cells #[.int .i64 64] 3)).heap[V.heap.size + 1]? = some (.cells #[.int .i64 64] 3 (0, 0)) := by
    have h := World.alloc_heap_new (V.alloc (.cells #[.int .i64 0] 3)) (.cells #[.int .i64 64] 3)
    rwa [World.size_alloc] at h
  have hX := (hBW.block _ (by omega)).trans hX1
  have hT2 := hT1.below hBW hT1.1
  have hv2 := hv1.below hBW (Nat.le_refl _)
  have ha2 := ha1.below hBW (Nat.le_refl _)
  have hc2 := hc1.below hBW (Nat.le_refl _)
  have ht2 := ht1.below hBW (Nat.le_refl _)
  have hB := hB1.trans (hBW.mono hB1.size)
  clear hT1 hv1 ha1 hc1 ht1 hB1 hP hX1 hBW
  rw [hs1] at hP2 hQ ⊢
  generalize (V.alloc (.cells #[.int .i64 0] 3)).alloc (.cells #[.int .i64 64] 3) = W0 at *
  clear hs1
  go_wp2_with fail
  have c0 : W0.cell? ⟨w.heap.size, 0, none⟩ = some (.slice va nv vcap) := cell_blk hX rfl
  have c1 : W0.cell? ⟨w.heap.size, 1, none⟩ = some (.slice aa na acap) := cell_blk hX rfl
  have c2 : W0.cell? ⟨w.heap.size, 2, none⟩ = some (.slice ca nc ccap) := cell_blk hX rfl
  have c3 : W0.cell? ⟨w.heap.size, 3, none⟩ = some (.int .i64 mu) := cell_blk hX rfl
  have c4 : W0.cell? ⟨w.heap.size, 4, none⟩ = some (.int .i64 co) := cell_blk hX rfl
  have c5 : W0.cell? ⟨w.heap.size, 5, none⟩ = some (.slice ta nt tcap) := cell_blk hX rfl
  have c6 : W0.cell? ⟨w.heap.size + 1, 0, none⟩ = some (.int .i64 0) := cell_blk hP2 rfl
  have c7 : W0.cell? ⟨w.heap.size + 1 + 1, 0, none⟩ = some (.int .i64 64) := cell_blk hQ rfl
  have keep : ∀ W, SB W0 W → SB W0 W ∧ W.cell? ⟨w.heap.size, 0, none⟩ = some (.slice va nv vcap) ∧ W.cell? ⟨w.heap.size, 1, none⟩ = some (.slice aa na acap) ∧ W.cell? ⟨w.heap.size, 2, none⟩ = some (.slice ca nc ccap) ∧ W.cell? ⟨w.heap.size, 3, none⟩ = some (.int .i64 mu) ∧ W.cell? ⟨w.heap.size, 4, none⟩ = some (.int .i64 co) ∧ W.cell? ⟨w.heap.size, 5, none⟩ = some (.slice ta nt tcap) ∧ W.cell? ⟨w.heap.size + 1, 0, none⟩ = some (.int .i64 0) ∧ W.cell? ⟨w.heap.size + 1 + 1, 0, none⟩ = some (.int .i64 64) := fun W h => ⟨h, h.cell c0, h.cell c1, h.cell c2, h.cell c3, h.cell c4, h.cell c5, h.cell c6, h.cell c7⟩
  have HK := Lib.hid keep
  have m3' := fun W (h : SB W0 W) => m3 W (hv2.below h (Nat.le_refl _))
  simp only [e64] at m3'
  clear m3
  have m4' := fun W (h : SB W0 W) p q hp hq => m4 W p q (ha2.below h (Nat.le_refl _)) hp hq
  simp only [e64] at m4'
  clear m4
  have m5' := fun W (h : SB W0 W) p q hp hq => m5 W p q (hc2.below h (Nat.le_refl _)) hp hq
  simp only [e64] at m5'
  clear m5
  have m6' := fun W (h : SB W0 W) => m6 W (ht2.below h (Nat.le_refl _)) (hT2.below h hT2.1)
  simp only [e64] at m6'
  clear m6
  have HB := Lib.hid hB
  have hS0 := HK.out _ (SB.drew (Below.refl W0.heap.size W0 : SB W0 W0))
  clear keep e64 h1 h2 h3 h4 h5 h6 hnv hna hnc hnt bv ba bc bt hT2 hv2 ha2 hc2 ht2 hB hX hP2 hQ c0 c1 c2 c3 c4 c5 c6 c7
  refine wp_region_x [] (fun W => SB W0 W ∧ W.cell? ⟨w.heap.size, 0, none⟩ = some (.slice va nv vcap) ∧ W.cell? ⟨w.heap.size, 1, none⟩ = some (.slice aa na acap) ∧ W.cell? ⟨w.heap.size, 2, none⟩ = some (.slice ca nc ccap) ∧ W.cell? ⟨w.heap.size, 3, none⟩ = some (.int .i64 mu) ∧ W.cell? ⟨w.heap.size, 4, none⟩ = some (.int .i64 co) ∧ W.cell? ⟨w.heap.size, 5, none⟩ = some (.slice ta nt tcap) ∧ W.cell? ⟨w.heap.size + 1, 0, none⟩ = some (.int .i64 0) ∧ W.cell? ⟨w.heap.size + 1 + 1, 0, none⟩ = some (.int .i64 64)) (by kernel_rfl) ?_
  refine wpX_take 0 (v := ?v1) rfl (by kernel_rfl) (by kernel_rfl) (by kernel_rfl) (by kernel_rfl) (fun _ _ _ h => h) hS0 (Or.inl ⟨by kernel_rfl, ?h1⟩) ?_
  case h1 => (intro W1 hS1; obtain ⟨hs, s0, s1, s2, s3, s4, s5, s6, s7⟩ := hS1; go_simp; with_reducible rfl)
  refine wpX_take 1 (v := ?v2) rfl (by kernel_rfl) (by kernel_rfl) (by kernel_rfl) (by kernel_rfl) (fun _ _ _ h => h) hS0 (Or.inl ⟨by kernel_rfl, ?h2⟩) ?_
  case h2 => (intro W1 hS1; obtain ⟨hs, s0, s1, s2, s3, s4, s5, s6, s7⟩ := hS1; go_simp; with_reducible rfl)
  refine wpX_take 2 (v := ?v3) rfl (by kernel_rfl) (by kernel_rfl) (by kernel_rfl) (by kernel_rfl) (fun _ _ _ h => h) hS0 (Or.inl ⟨by kernel_rfl, ?h3⟩) ?_
  case h3 => (intro W1 hS1; obtain ⟨hs, s0, s1, s2, s3, s4, s5, s6, s7⟩ := hS1; go_simp; with_reducible rfl)
  refine wpX_one 3 (by kernel_rfl) rfl (fun K hK => ?_)
  go_simp
  refine (k1 _ _ _ hS0.2.2.2.2.2.2.2.1 hS0.2.2.2.2.2.2.2.2).mono ?_
  rintro e w' ⟨rfl, rfl⟩
  refine hK _ _ (fun _ => hS0) ?_
  clear hK K
  refine wpX_take 4 (v := ?v4) rfl (by kernel_rfl) (by kernel_rfl) (by kernel_rfl) (by kernel_rfl) (fun _ _ _ h => h) hS0 (Or.inl ⟨by kernel_rfl, ?h4⟩) ?_
  case h4 => (intro W1 hS1; obtain ⟨hs, s0, s1, s2, s3, s4, s5, s6, s7⟩ := hS1; go_simp; with_reducible rfl)
  refine wpX_take 5 (v := ?v5) rfl (by kernel_rfl) (by kernel_rfl) (by kernel_rfl) (by kernel_rfl) (fun _ _ _ h => h) hS0 (Or.inl ⟨by kernel_rfl, ?h5⟩) ?_
  case h5 => (intro W1 hS1; obtain ⟨hs, s0, s1, s2, s3, s4, s5, s6, s7⟩ := hS1; go_simp; with_reducible rfl)
  refine wpX_take 6 (v := ?v6) rfl (by kernel_rfl) (by kernel_rfl) (by kernel_rfl) (by kernel_rfl) (fun _ _ _ h => h) hS0 (Or.inl ⟨by kernel_rfl, ?h6⟩) ?_
  case h6 => (intro W1 hS1; obtain ⟨hs, s0, s1, s2, s3, s4, s5, s6, s7⟩ := hS1; go_simp; with_reducible rfl)
  refine wpX_take 7 (v := ?v7) rfl (by kernel_rfl) (by kernel_rfl) (by kernel_rfl) (by kernel_rfl) (fun _ _ _ h => h) hS0 (Or.inl ⟨by kernel_rfl, ?h7⟩) ?_
  case h7 => (intro W1 hS1; obtain ⟨hs, s0, s1, s2, s3, s4, s5, s6, s7⟩ := hS1; go_simp; with_reducible rfl)
  refine wpX_take 8 (v := ?v8) rfl (by kernel_rfl) (by kernel_rfl) (by kernel_rfl) (by kernel_rfl) (fun _ _ _ h => h) hS0 (Or.inl ⟨by kernel_rfl, ?h8⟩) ?_
  case h8 => (intro W1 hS1; obtain ⟨hs, s0, s1, s2, s3, s4, s5, s6, s7⟩ := hS1; go_simp; with_reducible rfl)
  refine wpX_one 9 (by kernel_rfl) rfl (fun K hK => ?_)
  go_simp
  refine (k2 _ _ _ hS0.2.2.2.2.2.2.2.1 hS0.2.2.2.2.2.2.2.2).mono ?_
  rintro e w' ⟨rfl, rfl⟩
  refine hK _ _ (fun _ => hS0) ?_
  clear hK K
  refine wpX_take 10 (v := ?v9) rfl (by kernel_rfl) (by kernel_rfl) (by kernel_rfl) (by kernel_rfl) (fun _ _ _ h => h) hS0 (Or.inl ⟨by kernel_rfl, ?h9⟩) ?_
  case h9 => (intro W1 hS1; obtain ⟨hs, s0, s1, s2, s3, s4, s5, s6, s7⟩ := hS1; go_simp; with_reducible rfl)
  refine wpX_take 11 (v := ?v10) rfl (by kernel_rfl) (by kernel_rfl) (by kernel_rfl) (by kernel_rfl) (fun _ _ _ h => h) hS0 (Or.inl ⟨by kernel_rfl, ?h10⟩) ?_
  case h10 => (intro W1 hS1; obtain ⟨hs, s0, s1, s2, s3, s4, s5, s6, s7⟩ := hS1; go_simp; with_reducible rfl)
  refine wpX_take 12 (v := ?v11) rfl (by kernel_rfl) (by kernel_rfl) (by kernel_rfl) (by kernel_rfl) (fun _ _ _ h => h) hS0 (Or.inl ⟨by kernel_rfl, ?h11⟩) ?_
  case h11 => (intro W1 hS1; obtain ⟨hs, s0, s1, s2, s3, s4, s5, s6, s7⟩ := hS1; go_simp; with_reducible rfl)
  refine wpX_take 13 (v := ?v12) rfl (by kernel_rfl) (by kernel_rfl) (by kernel_rfl) (by kernel_rfl) (fun _ _ _ h => h) hS0 (Or.inl ⟨by kernel_rfl, ?h12⟩) ?_
  case h12 => (intro W1 hS1; obtain ⟨hs, s0, s1, s2, s3, s4, s5, s6, s7⟩ := hS1; go_simp; with_reducible rfl)
  refine wpX_take 14 (v := ?v13) rfl (by kernel_rfl) (by kernel_rfl) (by kernel_rfl) (by kernel_rfl) (fun _ _ _ h => h) hS0 (Or.inl ⟨by kernel_rfl, ?h13⟩) ?_
  case h13 => (intro W1 hS1; obtain ⟨hs, s0, s1, s2, s3, s4, s5, s6, s7⟩ := hS1; go_simp; with_reducible rfl)
  refine wpX_one 15 (by kernel_rfl) rfl (fun K hK => ?_)
  go_simp
  refine (m3' _ hS0.1).mono ?_
  rintro e w' ⟨rfl, hb⟩
  have hS1 := HK.out _ (SB.trans hS0.1 hb)
  clear hb
  refine hK _ _ (fun _ => hS1) ?_
  clear hK K hS0
  have hS0 := hS1
  clear hS1
  refine wpX_take 16 (v := ?v14) rfl (by kernel_rfl) (by kernel_rfl) (by kernel_rfl) (by kernel_rfl) (fun _ _ _ h => h) hS0 (Or.inl ⟨by kernel_rfl, ?h14⟩) ?_
  case h14 => (intro W1 hS1; obtain ⟨hs, s0, s1, s2, s3, s4, s5, s6, s7⟩ := hS1; go_simp; with_reducible rfl)
  refine wpX_take 17 (v := ?v15) rfl (by kernel_rfl) (by kernel_rfl) (by kernel_rfl) (by kernel_rfl) (fun _ _ _ h => h) hS0 (Or.inl ⟨by kernel_rfl, ?h15⟩) ?_
  case h15 => (intro W1 hS1; obtain ⟨hs, s0, s1, s2, s3, s4, s5, s6, s7⟩ := hS1; go_simp; with_reducible rfl)
  refine wpX_take 18 (v := ?v16) rfl (by kernel_rfl) (by kernel_rfl) (by kernel_rfl) (by kernel_rfl) (fun _ _ _ h => h) hS0 (Or.inl ⟨by kernel_rfl, ?h16⟩) ?_
  case h16 => (intro W1 hS1; obtain ⟨hs, s0, s1, s2, s3, s4, s5, s6, s7⟩ := hS1; go_simp; with_reducible rfl)
  refine wpX_take 19 (v := ?v17) rfl (by kernel_rfl) (by kernel_rfl) (by kernel_rfl) (by kernel_rfl) (fun _ _ _ h => h) hS0 (Or.inl ⟨by kernel_rfl, ?h17⟩) ?_
  case h17 => (intro W1 hS1; obtain ⟨hs, s0, s1, s2, s3, s4, s5, s6, s7⟩ := hS1; go_simp; with_reducible rfl)
  refine wpX_take 20 (v := ?v18) rfl (by kernel_rfl) (by kernel_rfl) (by kernel_rfl) (by kernel_rfl) (fun _ _ _ h => h) hS0 (Or.inl ⟨by kernel_rfl, ?h18⟩) ?_
  case h18 => (intro W1 hS1; obtain ⟨hs, s0, s1, s2, s3, s4, s5, s6, s7⟩ := hS1; go_simp; with_reducible rfl)
  refine wpX_one 21 (by kernel_rfl) rfl (fun K hK => ?_)
  go_simp
  refine (within_any _ _ _).mono ?_
  rintro e w' ⟨rfl, rfl⟩
  have hS1 := HK.out _ (SB.alloc (SB.alloc hS0.1 (.cells #[.int .i64 0] 3)) (.cells #[.int .i64 256] 3))
  refine hK _ _ (fun _ => hS1) ?_
  clear hK K hS0
  have hS0 := hS1
  clear hS1
  refine wpX_one 22 (by kernel_rfl) rfl (fun K hK => ?_)
  go_simp
  refine (m4' _ hS0.1 _ _ (by go_simp) (by go_simp)).mono ?_
  rintro e w' ⟨rfl, hb⟩
  have hS1 := HK.out _ (SB.trans hS0.1 hb)
  clear hb
  refine hK _ _ (fun _ => hS1) ?_
  clear hK K hS0
  have hS0 := hS1
  clear hS1
  refine wpX_take 23 (v := ?v19) rfl (by kernel_rfl) (by kernel_rfl) (by kernel_rfl) (by kernel_rfl) (fun _ _ _ h => h) hS0 (Or.inl ⟨by kernel_rfl, ?h19⟩) ?_
  case h19 => (intro W1 hS1; obtain ⟨hs, s0, s1, s2, s3, s4, s5, s6, s7⟩ := hS1; go_simp; with_reducible rfl)
  refine wpX_take 24 (v := ?v20) rfl (by kernel_rfl) (by kernel_rfl) (by kernel_rfl) (by kernel_rfl) (fun _ _ _ h => h) hS0 (Or.inl ⟨by kernel_rfl, ?h20⟩) ?_
  case h20 => (intro W1 hS1; obtain ⟨hs, s0, s1, s2, s3, s4, s5, s6, s7⟩ := hS1; go_simp; with_reducible rfl)
  refine wpX_take 25 (v := ?v21) rfl (by kernel_rfl) (by kernel_rfl) (by kernel_rfl) (by kernel_rfl) (fun _ _ _ h => h) hS0 (Or.inl ⟨by kernel_rfl, ?h21⟩) ?_
  case h21 => (intro W1 hS1; obtain ⟨hs, s0, s1, s2, s3, s4, s5, s6, s7⟩ := hS1; go_simp; with_reducible rfl)
  refine wpX_take 26 (v := ?v22) rfl (by kernel_rfl) (by kernel_rfl) (by kernel_rfl) (by kernel_rfl) (fun _ _ _ h => h) hS0 (Or.inl ⟨by kernel_rfl, ?h22⟩) ?_
  case h22 => (intro W1 hS1; obtain ⟨hs, s0, s1, s2, s3, s4, s5, s6, s7⟩ := hS1; go_simp; with_reducible rfl)
  refine wpX_take 27 (v := ?v23) rfl (by kernel_rfl) (by kernel_rfl) (by kernel_rfl) (by kernel_rfl) (fun _ _ _ h => h) hS0 (Or.inl ⟨by kernel_rfl, ?h23⟩) ?_
  case h23 => (intro W1 hS1; obtain ⟨hs, s0, s1, s2, s3, s4, s5, s6, s7⟩ := hS1; go_simp; with_reducible rfl)
  refine wpX_one 28 (by kernel_rfl) rfl (fun K hK => ?_)
  go_simp
  refine (within_any _ _ _).mono ?_
  rintro e w' ⟨rfl, rfl⟩
  have hS1 := HK.out _ (SB.alloc (SB.alloc hS0.1 (.cells #[.int .i64 1] 3)) (.cells #[.int .i64 16] 3))
  refine hK _ _ (fun _ => hS1) ?_
  clear hK K hS0
  have hS0 := hS1
  clear hS1
  refine wpX_one 29 (by kernel_rfl) rfl (fun K hK => ?_)
  go_simp
  refine (m5' _ hS0.1 _ _ (by go_simp) (by go_simp)).mono ?_
  rintro e w' ⟨rfl, hb⟩
  have hS1 := HK.out _ (SB.trans hS0.1 hb)
  clear hb
  refine hK _ _ (fun _ => hS1) ?_
  clear hK K hS0
  have hS0 := hS1
  clear hS1
  refine wpX_take 30 (v := ?v24) rfl (by kernel_rfl) (by kernel_rfl) (by kernel_rfl) (by kernel_rfl) (fun _ _ _ h => h) hS0 (Or.inl ⟨by kernel_rfl, ?h24⟩) ?_
  case h24 => (intro W1 hS1; obtain ⟨hs, s0, s1, s2, s3, s4, s5, s6, s7⟩ := hS1; go_simp; with_reducible rfl)
  refine wpX_take 31 (v := ?v25) rfl (by kernel_rfl) (by kernel_rfl) (by kernel_rfl) (by kernel_rfl) (fun _ _ _ h => h) hS0 (Or.inl ⟨by kernel_rfl, ?h25⟩) ?_
  case h25 => (intro W1 hS1; obtain ⟨hs, s0, s1, s2, s3, s4, s5, s6, s7⟩ := hS1; go_simp; with_reducible rfl)
  refine wpX_take 32 (v := ?v26) rfl (by kernel_rfl) (by kernel_rfl) (by kernel_rfl) (by kernel_rfl) (fun _ _ _ h => h) hS0 (Or.inl ⟨by kernel_rfl, ?h26⟩) ?_
  case h26 => (intro W1 hS1; obtain ⟨hs, s0, s1, s2, s3, s4, s5, s6, s7⟩ := hS1; go_simp; with_reducible rfl)
  refine wpX_take 33 (v := ?v27) rfl (by kernel_rfl) (by kernel_rfl) (by kernel_rfl) (by kernel_rfl) (fun _ _ _ h => h) hS0 (Or.inl ⟨by kernel_rfl, ?h27⟩) ?_
  case h27 => (intro W1 hS1; obtain ⟨hs, s0, s1, s2, s3, s4, s5, s6, s7⟩ := hS1; go_simp; with_reducible rfl)
  refine wpX_take 34 (v := ?v28) rfl (by kernel_rfl) (by kernel_rfl) (by kernel_rfl) (by kernel_rfl) (fun _ _ _ h => h) hS0 (Or.inl ⟨by kernel_rfl, ?h28⟩) ?_
  case h28 => (intro W1 hS1; obtain ⟨hs, s0, s1, s2, s3, s4, s5, s6, s7⟩ := hS1; go_simp; with_reducible rfl)
  refine wpX_one 35 (by kernel_rfl) rfl (fun K hK => ?_)
  go_simp
  refine (m6' _ hS0.1).mono ?_
  rintro e w' ⟨rfl, hb⟩
  have hS1 := HK.out _ (SB.trans hS0.1 hb)
  clear hb
  refine hK _ _ (fun _ => hS1) ?_
  clear hK K hS0
  have hS0 := hS1
  clear hS1
  refine wpX_take 36 (v := ?v29) rfl (by kernel_rfl) (by kernel_rfl) (by kernel_rfl) (by kernel_rfl) (fun _ _ _ h => h) hS0 (Or.inl ⟨by kernel_rfl, ?h29⟩) ?_
  case h29 => (intro W1 hS1; obtain ⟨hs, s0, s1, s2, s3, s4, s5, s6, s7⟩ := hS1; go_simp; with_reducible rfl)
  refine wpX_take 37 (v := ?v30) rfl (by kernel_rfl) (by kernel_rfl) (by kernel_rfl) (by kernel_rfl) (fun _ _ _ h => h) hS0 (Or.inl ⟨by kernel_rfl, ?h30⟩) ?_
  case h30 => (intro W1 hS1; obtain ⟨hs, s0, s1, s2, s3, s4, s5, s6, s7⟩ := hS1; go_simp; with_reducible rfl)
  refine wpX_done (by kernel_rfl) ?_ _
  go_simp
  have hBf := HB.out
  go_wp2
  go_ret
  exact ⟨rfl, hBf.trans (Below.mono hS0.1 hBf.size)⟩

set_option maxRecDepth 100000 in
set_option maxHeartbeats 40000000 in
theorem chk_7 {va aa ca ta : Option Addr} {vcap acap ccap tcap nv na nc nt : Nat} {vars arrays chans : List Int} {mu co : Int} {threads : List CodeM} {w : World} (hT : TabC w)
    (hv : Ints w va vars) (ha : Ints w aa arrays) (hc : Ints w ca chans) (ht : Cds w ta threads) (hnv : vars.length = nv) (hna : arrays.length = na) (hnc : chans.length = nc) (hnt : threads.length = nt)
    (bv : nv ≤ 281474976710656) (ba : na ≤ 281474976710656) (bc : nc ≤ 281474976710656) (bt : nt ≤ 281474976710656) (h1 : bMay 0 64 mu = true) (h2 : bMay 0 64 co = true) (h3 : (decide (nv ≤ 64) && vars.all vMay) = true) (h4 : (decide (na ≤ 64) && arrays.all (bMay 0 256)) = true) (h5 : (decide (nc ≤ 64) && chans.all (bMay 1 16)) = true) (h6 : (decide (nt ≤ 64) && threads.all tMay) = true) :
    Calls Tryd.prog 15 #[.agg #[.slice va nv vcap, .slice aa na acap, .slice ca nc ccap, .int .i64 mu, .int .i64 co, .slice ta nt tcap]] w fun e w' => e = .returned (.int .i64 0) ∧ Below w.heap.size w w' := by
  have hB1 : Below w.heap.size w (w.alloc (.cells #[.slice va nv vcap, .slice aa na acap, .slice ca nc ccap, .int .i64 mu, .int .i64 co, .slice ta nt tcap] 27)) := (Below.refl _ w).alloc (Nat.le_refl _) _
  have hX1 : (w.alloc (.cells #[.slice va nv vcap, .slice aa na acap, .slice ca nc ccap, .int .i64 mu, .int .i64 co, .slice ta nt tcap] 27)).heap[w.heap.size]? = some (.cells #[.slice va nv vcap, .slice aa na acap, .slice ca nc ccap, .int .i64 mu, .int .i64 co, .slice ta nt tcap] 27 (0, 0)) := World.alloc_heap_new _ _
  have hs1 : (w.alloc (.cells #[.slice va nv vcap, .slice aa na acap, .slice ca nc ccap, .int .i64 mu, .int .i64 co, .slice ta nt tcap] 27)).heap.size = w.heap.size + 1 := by simp
  have e64 : ((64 : Nat) : Int) = 64 := rfl
  have k1 := fun w p q hp hq => wit_any 0 64 mu w p q hp hq
  rw [h1] at k1
  have k2 := fun w p q hp hq => wit_any 0 64 co w p q hp hq
  rw [h2] at k2
  have m3 := fun w hI => may_v (w := w) (a := va) (l := vars) (n := nv) (cap := vcap) (m := 64) hnv bv hI
  rw [h3] at m3
  have m4 := fun w p q hI hp hq => may_b (w := w) (a := aa) (l := arrays) (n := na) (cap := acap) (m := 64) hna ba hI (lo := 0) (up := 256) (p := ⟨p, 0, none⟩) (q := ⟨q, 0, none⟩) hp hq
  rw [h4] at m4
  have m5 := fun w p q hI hp hq => may_b (w := w) (a := ca) (l := chans) (n := nc) (cap := ccap) (m := 64) hnc bc hI (lo := 1) (up := 16) (p := ⟨p, 0, none⟩) (q := ⟨q, 0, none⟩) hp hq
  rw [h5] at m5
  have m6 := fun w hI hT => may_c (w := w) (a := ta) (l := threads) (n := nt) (cap := tcap) (m := 64) hnt bt hI hT
  rw [h6] at m6
  go_enter Tryd.func15, Tryd.ntmps15
  go_wp2_with fail
  have hT1 := hT.below hB1 hT.1
  have hv1 := hv.below hB1 (Nat.le_refl _)
  have ha1 := ha.below hB1 (Nat.le_refl _)
  have hc1 := hc.below hB1 (Nat.le_refl _)
  have ht1 := ht.below hB1 (Nat.le_refl _)
  clear hT hv ha hc ht
  generalize w.alloc (.cells #[.slice va nv vcap, .slice aa na acap, .slice ca nc ccap, .int .i64 mu, .int .i64 co, .slice ta nt tcap] 27) = V at *
  refine (within_any 0 64 V).mono ?_
  rintro e w' ⟨rfl, rfl⟩
  have hBW : Below V.heap.size V ((V.alloc (.cells #[.int .i64 0] 3)).alloc (.cells #[.int .i64 64] 3)) := ((Below.refl _ V).alloc (Nat.le_refl _) _).alloc (by simp) _
  have hP : (V.alloc (.cells #[.int .i64 0] 3)).heap[V.heap.size]? = some (.cells #[.int .i64 0] 3 (0, 0)) := World.alloc_heap_new _ _
  have hP2 := (Below.heap_alloc _ (.cells #[.int .i64 64] 3) _ (by simp)).trans hP
  have hQ : ((V.alloc (.cells #[.int .i64 0] 3)).alloc (.cells #[.int .i64 64] 3)).heap[V.heap.size + 1]? = some (.cells #[.int .i64 64] 3 (0, 0)) := by
    have h := World.alloc_heap_new (V.alloc (.cells #[.int .i64 0] 3)) (.cells #[.int .i64 64] 3)
    rwa [World.size_alloc] at h
  have hX := (hBW.block _ (by omega)).trans hX1
  have hT2 := hT1.below hBW hT1.1
  have hv2 := hv1.below hBW (Nat.le_refl _)
  have ha2 := ha1.below hBW (Nat.le_refl _)
  have hc2 := hc1.below hBW (Nat.le_refl _)
  have ht2 := ht1.below hBW (Nat.le_refl _)
  have hB := hB1.trans (hBW.mono hB1.size)
  clear hT1 hv1 ha1 hc1 ht1 hB1 hP hX1 hBW
  rw [hs1] at hP2 hQ ⊢
  generalize (V.alloc (.cells #[.int .i64 0] 3)).alloc (.cells #[.int .i64 64] 3) = W0 at *
  clear hs1
  go_wp2_with fail
  have c0 : W0.cell? ⟨w.heap.size, 0, none⟩ = some (.slice va nv vcap) := cell_blk hX rfl
  have c1 : W0.cell? ⟨w.heap.size, 1, none⟩ = some (.slice aa na acap) := cell_blk hX rfl
  have c2 : W0.cell? ⟨w.heap.size, 2, none⟩ = some (.slice ca nc ccap) := cell_blk hX rfl
  have c3 : W0.cell? ⟨w.heap.size, 3, none⟩ = some (.int .i64 mu) := cell_blk hX rfl
  have c4 : W0.cell? ⟨w.heap.size, 4, none⟩ = some (.int .i64 co) := cell_blk hX rfl
  have c5 : W0.cell? ⟨w.heap.size, 5, none⟩ = some (.slice ta nt tcap) := cell_blk hX rfl
  have c6 : W0.cell? ⟨w.heap.size + 1, 0, none⟩ = some (.int .i64 0) := cell_blk hP2 rfl
  have c7 : W0.cell? ⟨w.heap.size + 1 + 1, 0, none⟩ = some (.int .i64 64) := cell_blk hQ rfl
  have keep : ∀ W, SB W0 W → SB W0 W ∧ W.cell? ⟨w.heap.size, 0, none⟩ = some (.slice va nv vcap) ∧ W.cell? ⟨w.heap.size, 1, none⟩ = some (.slice aa na acap) ∧ W.cell? ⟨w.heap.size, 2, none⟩ = some (.slice ca nc ccap) ∧ W.cell? ⟨w.heap.size, 3, none⟩ = some (.int .i64 mu) ∧ W.cell? ⟨w.heap.size, 4, none⟩ = some (.int .i64 co) ∧ W.cell? ⟨w.heap.size, 5, none⟩ = some (.slice ta nt tcap) ∧ W.cell? ⟨w.heap.size + 1, 0, none⟩ = some (.int .i64 0) ∧ W.cell? ⟨w.heap.size + 1 + 1, 0, none⟩ = some (.int .i64 64) := fun W h => ⟨h, h.cell c0, h.cell c1, h.cell c2, h.cell c3, h.cell c4, h.cell c5, h.cell c6, h.cell c7⟩
  have HK := Lib.hid keep
  have m3' := fun W (h : SB W0 W) => m3 W (hv2.below h (Nat.le_refl _))
  simp only [e64] at m3'
  clear m3
  have m4' := fun W (h : SB W0 W) p q hp hq => m4 W p q (ha2.below h (Nat.le_refl _)) hp hq
  simp only [e64] at m4'
  clear m4
  have m5' := fun W (h : SB W0 W) p q hp hq => m5 W p q (hc2.below h (Nat.le_refl _)) hp hq
  simp only [e64] at m5'
  clear m5
  have m6' := fun W (h : SB W0 W) => m6 W (ht2.below h (Nat.le_refl _)) (hT2.below h hT2.1)
  simp only [e64] at m6'
  clear m6
  have HB := Lib.hid hB
  have hS0 := HK.out _ (SB.drew (Below.refl W0.heap.size W0 : SB W0 W0))
  clear keep e64 h1 h2 h3 h4 h5 h6 hnv hna hnc hnt bv ba bc bt hT2 hv2 ha2 hc2 ht2 hB hX hP2 hQ c0 c1 c2 c3 c4 c5 c6 c7
  refine wp_region_x [] (fun W => SB W0 W ∧ W.cell? ⟨w.heap.size, 0, none⟩ = some (.slice va nv vcap) ∧ W.cell? ⟨w.heap.size, 1, none⟩ = some (.slice aa na acap) ∧ W.cell? ⟨w.heap.size, 2, none⟩ = some (.slice ca nc ccap) ∧ W.cell? ⟨w.heap.size, 3, none⟩ = some (.int .i64 mu) ∧ W.cell? ⟨w.heap.size, 4, none⟩ = some (.int .i64 co) ∧ W.cell? ⟨w.heap.size, 5, none⟩ = some (.slice ta nt tcap) ∧ W.cell? ⟨w.heap.size + 1, 0, none⟩ = some (.int .i64 0) ∧ W.cell? ⟨w.heap.size + 1 + 1, 0, none⟩ = some (.int .i64 64)) (by kernel_rfl) ?_
  refine wpX_take 0 (v := ?v1) rfl (by kernel_rfl) (by kernel_rfl) (by kernel_rfl) (by kernel_rfl) (fun _ _ _ h => h) hS0 (Or.inl ⟨by kernel_rfl, ?h1⟩) ?_
  case h1 => (intro W1 hS1; obtain ⟨hs, s0, s1, s2, s3, s4, s5, s6, s7⟩ := hS1; go_simp; with_reducible rfl)
  refine wpX_take 1 (v := ?v2) rfl (by kernel_rfl) (by kernel_rfl) (by kernel_rfl) (by kernel_rfl) (fun _ _ _ h => h) hS0 (Or.inl ⟨by kernel_rfl, ?h2⟩) ?_
  case h2 => (intro W1 hS1; obtain ⟨hs, s0, s1, s2, s3, s4, s5, s6, s7⟩ := hS1; go_simp; with_reducible rfl)
  refine wpX_take 2 (v := ?v3) rfl (by kernel_rfl) (by kernel_rfl) (by kernel_rfl) (by kernel_rfl) (fun _ _ _ h => h) hS0 (Or.inl ⟨by kernel_rfl, ?h3⟩) ?_
  case h3 => (intro W1 hS1; obtain ⟨hs, s0, s1, s2, s3, s4, s5, s6, s7⟩ := hS1; go_simp; with_reducible rfl)
  refine wpX_one 3 (by kernel_rfl) rfl (fun K hK => ?_)
  go_simp
  refine (k1 _ _ _ hS0.2.2.2.2.2.2.2.1 hS0.2.2.2.2.2.2.2.2).mono ?_
  rintro e w' ⟨rfl, rfl⟩
  refine hK _ _ (fun _ => hS0) ?_
  clear hK K
  refine wpX_take 4 (v := ?v4) rfl (by kernel_rfl) (by kernel_rfl) (by kernel_rfl) (by kernel_rfl) (fun _ _ _ h => h) hS0 (Or.inl ⟨by kernel_rfl, ?h4⟩) ?_
  case h4 => (intro W1 hS1; obtain ⟨hs, s0, s1, s2, s3, s4, s5, s6, s7⟩ := hS1; go_simp; with_reducible rfl)
  refine wpX_take 5 (v := ?v5) rfl (by kernel_rfl) (by kernel_rfl) (by kernel_rfl) (by kernel_rfl) (fun _ _ _ h => h) hS0 (Or.inl ⟨by kernel_rfl, ?h5⟩) ?_
  case h5 => (intro W1 hS1; obtain ⟨hs, s0, s1, s2, s3, s4, s5, s6, s7⟩ := hS1; go_simp; with_reducible rfl)
  refine wpX_take 6 (v := ?v6) rfl (by kernel_rfl) (by kernel_rfl) (by kernel_rfl) (by kernel_rfl) (fun _ _ _ h => h) hS0 (Or.inl ⟨by kernel_rfl, ?h6⟩) ?_
  case h6 => (intro W1 hS1; obtain ⟨hs, s0, s1, s2, s3, s4, s5, s6, s7⟩ := hS1; go_simp; with_reducible rfl)
  refine wpX_take 7 (v := ?v7) rfl (by kernel_rfl) (by kernel_rfl) (by kernel_rfl) (by kernel_rfl) (fun _ _ _ h => h) hS0 (Or.inl ⟨by kernel_rfl, ?h7⟩) ?_
  case h7 => (intro W1 hS1; obtain ⟨hs, s0, s1, s2, s3, s4, s5, s6, s7⟩ := hS1; go_simp; with_reducible rfl)
  refine wpX_take 8 (v := ?v8) rfl (by kernel_rfl) (by kernel_rfl) (by kernel_rfl) (by kernel_rfl) (fun _ _ _ h => h) hS0 (Or.inl ⟨by kernel_rfl, ?h8⟩) ?_
  case h8 => (intro W1 hS1; obtain ⟨hs, s0, s1, s2, s3, s4, s5, s6, s7⟩ := hS1; go_simp; with_reducible rfl)
  refine wpX_one 9 (by kernel_rfl) rfl (fun K hK => ?_)
  go_simp
  refine (k2 _ _ _ hS0.2.2.2.2.2.2.2.1 hS0.2.2.2.2.2.2.2.2).mono ?_
  rintro e w' ⟨rfl, rfl⟩
  refine hK _ _ (fun _ => hS0) ?_
  clear hK K
  refine wpX_take 10 (v := ?v9) rfl (by kernel_rfl) (by kernel_rfl) (by kernel_rfl) (by kernel_rfl) (fun _ _ _ h => h) hS0 (Or.inl ⟨by kernel_rfl, ?h9⟩) ?_
  case h9 => (intro W1 hS1; obtain ⟨hs, s0, s1, s2, s3, s4, s5, s6, s7⟩ := hS1; go_simp; with_reducible rfl)
  refine wpX_take 11 (v := ?v10) rfl (by kernel_rfl) (by kernel_rfl) (by kernel_rfl) (by kernel_rfl) (fun _ _ _ h => h) hS0 (Or.inl ⟨by kernel_rfl, ?h10⟩) ?_
  case h10 => (intro W1 hS1; obtain ⟨hs, s0, s1, s2, s3, s4, s5, s6, s7⟩ := hS1; go_simp; with_reducible rfl)
  refine wpX_take 12 (v := ?v11) rfl (by kernel_rfl) (by kernel_rfl) (by kernel_rfl) (by kernel_rfl) (fun _ _ _ h => h) hS0 (Or.inl ⟨by kernel_rfl, ?h11⟩) ?_
  case h11 => (intro W1 hS1; obtain ⟨hs, s0, s1, s2, s3, s4, s5, s6, s7⟩ := hS1; go_simp; with_reducible rfl)
  refine wpX_take 13 (v := ?v12) rfl (by kernel_rfl) (by kernel_rfl) (by kernel_rfl) (by kernel_rfl) (fun _ _ _ h => h) hS0 (Or.inl ⟨by kernel_rfl, ?h12⟩) ?_
  case h12 => (intro W1 hS1; obtain ⟨hs, s0, s1, s2, s3, s4, s5, s6, s7⟩ := hS1; go_simp; with_reducible rfl)
  refine wpX_take 14 (v := ?v13) rfl (by kernel_rfl) (by kernel_rfl) (by kernel_rfl) (by kernel_rfl) (fun _ _ _ h => h) hS0 (Or.inl ⟨by kernel_rfl, ?h13⟩) ?_
  case h13 => (intro W1 hS1; obtain ⟨hs, s0, s1, s2, s3, s4, s5, s6, s7⟩ := hS1; go_simp; with_reducible rfl)
  refine wpX_one 15 (by kernel_rfl) rfl (fun K hK => ?_)
  go_simp
  refine (m3' _ hS0.1).mono ?_
  rintro e w' ⟨rfl, hb⟩
  have hS1 := HK.out _ (SB.trans hS0.1 hb)
  clear hb
  refine hK _ _ (fun _ => hS1) ?_
  clear hK K hS0
  have hS0 := hS1
  clear hS1
  refine wpX_take 16 (v := ?v14) rfl (by kernel_rfl) (by kernel_rfl) (by kernel_rfl) (by kernel_rfl) (fun _ _ _ h => h) hS0 (Or.inl ⟨by kernel_rfl, ?h14⟩) ?_
  case h14 => (intro W1 hS1; obtain ⟨hs, s0, s1, s2, s3, s4, s5, s6, s7⟩ := hS1; go_simp; with_reducible rfl)
  refine wpX_take 17 (v := ?v15) rfl (by kernel_rfl) (by kernel_rfl) (by kernel_rfl) (by kernel_rfl) (fun _ _ _ h => h) hS0 (Or.inl ⟨by kernel_rfl, ?h15⟩) ?_
  case h15 => (intro W1 hS1; obtain ⟨hs, s0, s1, s2, s3, s4, s5, s6, s7⟩ := hS1; go_simp; with_reducible rfl)
  refine wpX_take 18 (v := ?v16) rfl (by kernel_rfl) (by kernel_rfl) (by kernel_rfl) (by kernel_rfl) (fun _ _ _ h => h) hS0 (Or.inl ⟨by kernel_rfl, ?h16⟩) ?_
  case h16 => (intro W1 hS1; obtain ⟨hs, s0, s1, s2, s3, s4, s5, s6, s7⟩ := hS1; go_simp; with_reducible rfl)
  refine wpX_take 19 (v := ?v17) rfl (by kernel_rfl) (by kernel_rfl) (by kernel_rfl) (by kernel_rfl) (fun _ _ _ h => h) hS0 (Or.inl ⟨by kernel_rfl, ?h17⟩) ?_
  case h17 => (intro W1 hS1; obtain ⟨hs, s0, s1, s2, s3, s4, s5, s6, s7⟩ := hS1; go_simp; with_reducible rfl)
  refine wpX_take 20 (v := ?v18) rfl (by kernel_rfl) (by kernel_rfl) (by kernel_rfl) (by kernel_rfl) (fun _ _ _ h => h) hS0 (Or.inl ⟨by kernel_rfl, ?h18⟩) ?_
  case h18 => (intro W1 hS1; obtain ⟨hs, s0, s1, s2, s3, s4, s5, s6, s7⟩ := hS1; go_simp; with_reducible rfl)
  refine wpX_one 21 (by kernel_rfl) rfl (fun K hK => ?_)
  go_simp
  refine (within_any _ _ _).mono ?_
  rintro e w' ⟨rfl, rfl⟩
  have hS1 := HK.out _ (SB.alloc (SB.alloc hS0.1 (.cells #[.int .i64 0] 3)) (.cells #[.int .i64 256] 3))
  refine hK _ _ (fun _ => hS1) ?_
  clear hK K hS0
  have hS0 := hS1
  clear hS1
  refine wpX_one 22 (by kernel_rfl) rfl (fun K hK => ?_)
  go_simp
  refine (m4' _ hS0.1 _ _ (by go_simp) (by go_simp)).mono ?_
  rintro e w' ⟨rfl, hb⟩
  have hS1 := HK.out _ (SB.trans hS0.1 hb)
  clear hb
  refine hK _ _ (fun _ => hS1) ?_
  clear hK K hS0
  have hS0 := hS1
  clear hS1
  refine wpX_take 23 (v := ?v19) rfl (by kernel_rfl) (by kernel_rfl) (by kernel_rfl) (by kernel_rfl) (fun _ _ _ h => h) hS0 (Or.inl ⟨by kernel_rfl, ?h19⟩) ?_
  case h19 => (intro W1 hS1; obtain ⟨hs, s0, s1, s2, s3, s4, s5, s6, s7⟩ := hS1; go_simp; with_reducible rfl)
  refine wpX_take 24 (v := ?v20) rfl (by kernel_rfl) (by kernel_rfl) (by kernel_rfl) (by kernel_rfl) (fun _ _ _ h => h) hS0 (Or.inl ⟨by kernel_rfl, ?h20⟩) ?_
  case h20 => (intro W1 hS1; obtain ⟨hs, s0, s1, s2, s3, s4, s5, s6, s7⟩ := hS1; go_simp; with_reducible rfl)
  refine wpX_take 25 (v := ?v21) rfl (by kernel_rfl) (by kernel_rfl) (by kernel_rfl) (by kernel_rfl) (fun _ _ _ h => h) hS0 (Or.inl ⟨by kernel_rfl, ?h21⟩) ?_
  case h21 => (intro W1 hS1; obtain ⟨hs, s0, s1, s2, s3, s4, s5, s6, s7⟩ := hS1; go_simp; with_reducible rfl)
  refine wpX_take 26 (v := ?v22) rfl (by kernel_rfl) (by kernel_rfl) (by kernel_rfl) (by kernel_rfl) (fun _ _ _ h => h) hS0 (Or.inl ⟨by kernel_rfl, ?h22⟩) ?_
  case h22 => (intro W1 hS1; obtain ⟨hs, s0, s1, s2, s3, s4, s5, s6, s7⟩ := hS1; go_simp; with_reducible rfl)
  refine wpX_take 27 (v := ?v23) rfl (by kernel_rfl) (by kernel_rfl) (by kernel_rfl) (by kernel_rfl) (fun _ _ _ h => h) hS0 (Or.inl ⟨by kernel_rfl, ?h23⟩) ?_
  case h23 => (intro W1 hS1; obtain ⟨hs, s0, s1, s2, s3, s4, s5, s6, s7⟩ := hS1; go_simp; with_reducible rfl)
  refine wpX_one 28 (by kernel_rfl) rfl (fun K hK => ?_)
  go_simp
  refine (within_any _ _ _).mono ?_
  rintro e w' ⟨rfl, rfl⟩
  have hS1 := HK.out _ (SB.alloc (SB.alloc hS0.1 (.cells #[.int .i64 1] 3)) (.cells #[.int .i64 16] 3))
  refine hK _ _ (fun _ => hS1) ?_
  clear hK K hS0
  have hS0 := hS1
  clear hS1
  refine wpX_one 29 (by kernel_rfl) rfl (fun K hK => ?_)
  go_simp
  refine (m5' _ hS0.1 _ _ (by go_simp) (by go_simp)).mono ?_
  rintro e w' ⟨rfl, hb⟩
  have hS1 := HK.out _ (SB.trans hS0.1 hb)
  clear hb
  refine hK _ _ (fun _ => hS1) ?_
  clear hK K hS0
  have hS0 := hS1
  clear hS1
  refine wpX_take 30 (v := ?v24) rfl (by kernel_rfl) (by kernel_rfl) (by kernel_rfl) (by kernel_rfl) (fun _ _ _ h => h) hS0 (Or.inl ⟨by kernel_rfl, ?h24⟩) ?_
  case h24 => (intro W1 hS1; obtain ⟨hs, s0, s1, s2, s3, s4, s5, s6, s7⟩ := hS1; go_simp; with_reducible rfl)
  refine wpX_take 31 (v := ?v25) rfl (by kernel_rfl) (by kernel_rfl) (by kernel_rfl) (by kernel_rfl) (fun _ _ _ h => h) hS0 (Or.inl ⟨by kernel_rfl, ?h25⟩) ?_
  case h25 => (intro W1 hS1; obtain ⟨hs, s0, s1, s2, s3, s4, s5, s6, s7⟩ := hS1; go_simp; with_reducible rfl)
  refine wpX_take 32 (v := ?v26) rfl (by kernel_rfl) (by kernel_rfl) (by kernel_rfl) (by kernel_rfl) (fun _ _ _ h => h) hS0 (Or.inl ⟨by kernel_rfl, ?h26⟩) ?_
  case h26 => (intro W1 hS1; obtain ⟨hs, s0, s1, s2, s3, s4, s5, s6, s7⟩ := hS1; go_simp; with_reducible rfl)
  refine wpX_take 33 (v := ?v27) rfl (by kernel_rfl) (by kernel_rfl) (by kernel_rfl) (by kernel_rfl) (fun _ _ _ h => h) hS0 (Or.inl ⟨by kernel_rfl, ?h27⟩) ?_
  case h27 => (intro W1 hS1; obtain ⟨hs, s0, s1, s2, s3, s4, s5, s6, s7⟩ := hS1; go_simp; with_reducible rfl)
  refine wpX_take 34 (v := ?v28) rfl (by kernel_rfl) (by kernel_rfl) (by kernel_rfl) (by kernel_rfl) (fun _ _ _ h => h) hS0 (Or.inl ⟨by kernel_rfl, ?h28⟩) ?_
  case h28 => (intro W1 hS1; obtain ⟨hs, s0, s1, s2, s3, s4, s5, s6, s7⟩ := hS1; go_simp; with_reducible rfl)
  refine wpX_one 35 (by kernel_rfl) rfl (fun K hK => ?_)
  go_simp
  refine (m6' _ hS0.1).mono ?_
  rintro e w' ⟨rfl, hb⟩
  have hS1 := HK.out _ (SB.trans hS0.1 hb)
  clear hb
  refine hK _ _ (fun _ => hS1) ?_
  clear hK K hS0
  have hS0 := hS1
  clear hS1
  refine wpX_take 36 (v := ?v29) rfl (by kernel_rfl) (by kernel_rfl) (by kernel_rfl) (by kernel_rfl) (fun _ _ _ h => h) hS0 (Or.inl ⟨by kernel_rfl, ?h29⟩) ?_
  case h29 => (intro W1 hS1; obtain ⟨hs, s0, s1, s2, s3, s4, s5, s6, s7⟩ := hS1; go_simp; with_reducible rfl)
  refine wpX_take 37 (v := ?v30) rfl (by kernel_rfl) (by kernel_rfl) (by kernel_rfl) (by kernel_rfl) (fun _ _ _ h => h) hS0 (Or.inl ⟨by kernel_rfl, ?h30⟩) ?_
  case h30 => (intro W1 hS1; obtain ⟨hs, s0, s1, s2, s3, s4, s5, s6, s7⟩ := hS1; go_simp; with_reducible rfl)
  refine wpX_done (by kernel_rfl) ?_ _
  go_simp
  have hBf := HB.out
  go_wp2
  go_ret
  exact ⟨rfl, hBf.trans (Below.mono hS0.1 hBf.size)⟩

theorem check_any (m : ModM) (w : World) (hT : TabC w) (h : ModOk w m) :
    Calls Tryd.prog 15 #[.agg #[.slice m.va m.vars.length m.vcap, .slice m.aa m.arrays.length m.acap, .slice m.ca m.chans.length m.ccap, .int .i64 m.mu, .int .i64 m.co, .slice m.ta m.threads.length m.tcap]] w fun e w' => e = .returned (.int .i64 (if mMay m then 0 else 2)) ∧ Below w.heap.size w w' := by
  obtain ⟨hv, ha, hc, ht, bv, ba, bc, bt⟩ := h
  unfold mMay
  cases h1 : bMay 0 64 m.mu with
  | false => exact chk_1 hT hv ha hc ht rfl rfl rfl rfl bv ba bc bt h1
  | true =>
  cases h2 : bMay 0 64 m.co with
  | false => exact chk_2 hT hv ha hc ht rfl rfl rfl rfl bv ba bc bt h1 h2
  | true =>
  cases h3 : vOk m with
  | false => exact chk_3 hT hv ha hc ht rfl rfl rfl rfl bv ba bc bt h1 h2 h3
  | true =>
  cases h4 : aOk m with
  | false => exact chk_4 hT hv ha hc ht rfl rfl rfl rfl bv ba bc bt h1 h2 h3 h4
  | true =>
  cases h5 : cOk m with
  | false => exact chk_5 hT hv ha hc ht rfl rfl rfl rfl bv ba bc bt h1 h2 h3 h4 h5
  | true =>
  cases h6 : tOk m with
  | false => exact chk_6 hT hv ha hc ht rfl rfl rfl rfl bv ba bc bt h1 h2 h3 h4 h5 h6
  | true => exact chk_7 hT hv ha hc ht rfl rfl rfl rfl bv ba bc bt h1 h2 h3 h4 h5 h6
end Go.Proofs.YtjbinejaagpleaaDoor
