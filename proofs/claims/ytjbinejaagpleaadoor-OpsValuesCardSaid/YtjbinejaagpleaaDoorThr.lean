/- May a thread's code be, as the program tells it. Asked: the code lies; the table of codes. -/
import Derived.Test.YtjbinejaagpleaaDoorMay
namespace Go.Proofs.YtjbinejaagpleaaDoor
open Go.RowKit

/-- A thread's code: name, locals, instructions, lines; and where its lists lie. -/
structure CodeM where
  name : ByteArray
  locals : Int
  ia : Option Addr
  icap : Nat
  ins : List InsP
  la : Option Addr
  lcap : Nat
  lines : List Int
/-- Its lists lie. -/
structure CodeOk (w : World) (c : CodeM) : Prop where
  ni : c.name.size ≤ maxLen
  ii : Inss w c.ia c.ins
  ll : Ints w c.la c.lines
  ib : c.ins.length ≤ 281474976710656
  lb : c.lines.length ≤ 281474976710656
theorem CodeOk.below {w w' : World} {c : CodeM} {B : Nat} (h : CodeOk w c) (hb : Below B w w') (hB : w.heap.size ≤ B) : CodeOk w' c := ⟨h.ni, h.ii.below hb hB, h.ll.below hb hB, h.ib, h.lb⟩
def tMay (c : CodeM) : Bool :=
  bMay 1 16 (c.name.size : Int) && (bMay 0 32 c.locals && (c.ins.length == c.lines.length && ((decide (c.ins.length ≤ 65536) && c.ins.all iMay) && (decide (c.lines.length ≤ 65536) && c.lines.all (bMay 0 65536)))))

theorem cell_blk {w : World} {b k : Nat} {cs : Array Value} {t : TypeId} {v : Value} (h : w.heap[b]? = some (.cells cs t (0, 0))) (hk : cs[k]? = some v) : w.cell? ⟨b, k, none⟩ = some v := by
  simp [World.cell?, h, hk]
theorem froz_blk {w : World} {b k : Nat} {cs : Array Value} {t : TypeId} (h : w.heap[b]? = some (.cells cs t (0, 0))) : w.frozen? ⟨b, k, none⟩ = false := by
  simp [World.frozen?, h]
/-- A later world than W0: what lay in W0 lies so. -/
def SB (W0 W : World) : Prop := Below W0.heap.size W0 W
theorem SB.drew {W0 W : World} (h : SB W0 W) : SB W0 W.drew := Below.drew h
theorem SB.alloc {W0 W : World} (h : SB W0 W) (o : Obj) : SB W0 (W.alloc o) := Below.alloc h (Below.size h) o
theorem SB.trans {W0 W W' : World} (h : SB W0 W) (hb : Below W.heap.size W W') : SB W0 W' := Below.trans h (hb.mono (Below.size h))
/-- Block b, which lay in W0, holds these cells there. -/
theorem SB.cell {W0 W : World} (h : SB W0 W) {b k : Nat} {v : Value} (hc : W0.cell? ⟨b, k, none⟩ = some v) : W.cell? ⟨b, k, none⟩ = some v := (Below.cell (p := ⟨b, k, none⟩) h (World.block_lt_of_cell? W0 _ hc)).trans hc
theorem wit_any (a b x : Int) (w : World) (p q : Nat) (hp : w.cell? ⟨p, 0, none⟩ = some (.int .i64 a)) (hq : w.cell? ⟨q, 0, none⟩ = some (.int .i64 b)) :
    Calls Tryd.prog 64 #[.int .i64 x, .pointer (some ⟨p, 0, none⟩), .pointer (some ⟨q, 0, none⟩)] w fun e w' => e = .returned (.bool (bMay a b x)) ∧ w = w' := within1_any a b x _ _ w hp hq

set_option maxRecDepth 100000 in
set_option maxHeartbeats 40000000 in
theorem thr_1 {nm : ByteArray} {lo : Int} {ia la : Option Addr} {icap lcap ni nl : Nat} {ins : List InsP} {lines : List Int} {w : World} (hT : TabC w) (hII : Inss w ia ins) (hLL : Ints w la lines)
    (_hni : ins.length = ni) (_hnl : lines.length = nl) (_hib : ni ≤ 281474976710656) (_hsz : nm.size ≤ maxLen) (h1 : bMay 1 16 (nm.size : Int) = false) :
    Calls Tryd.prog 41 #[.agg #[.string nm, .int .i64 lo, .slice ia ni icap, .slice la nl lcap]] w fun e w' => e = .returned (.bool false) ∧ Below w.heap.size w w' := by
  have hB : Below w.heap.size w (w.alloc (.cells #[.string nm, .int .i64 lo, .slice ia ni icap, .slice la nl lcap] 51)) := (Below.refl _ w).alloc (Nat.le_refl _) _
  have hX : (w.alloc (.cells #[.string nm, .int .i64 lo, .slice ia ni icap, .slice la nl lcap] 51)).heap[w.heap.size]? = some (.cells #[.string nm, .int .i64 lo, .slice ia ni icap, .slice la nl lcap] 51 (0, 0)) := World.alloc_heap_new _ _
  have hT1 := hT.below hB hT.1
  have hI1 := hII.below hB (Nat.le_refl _)
  have hL1 := hLL.below hB (Nat.le_refl _)
  have e65 : ((65536 : Nat) : Int) = 65536 := rfl
  have k1 := fun w p q hp hq => wit_any 1 16 (nm.size : Int) w p q hp hq
  rw [h1] at k1
  go_enter Tryd.func41, Tryd.ntmps41
  go_wp2_with fail
  generalize w.alloc (.cells #[.string nm, .int .i64 lo, .slice ia ni icap, .slice la nl lcap] 51) = W0 at *
  have c0 : W0.cell? ⟨w.heap.size, 0, none⟩ = some (.string nm) := cell_blk hX rfl
  have c1 : W0.cell? ⟨w.heap.size, 1, none⟩ = some (.int .i64 lo) := cell_blk hX rfl
  have c2 : W0.cell? ⟨w.heap.size, 2, none⟩ = some (.slice ia ni icap) := cell_blk hX rfl
  have c3 : W0.cell? ⟨w.heap.size, 3, none⟩ = some (.slice la nl lcap) := cell_blk hX rfl
  have hS : SB W0 W0 ∧ W0.cell? ⟨w.heap.size, 0, none⟩ = some (.string nm) ∧ W0.cell? ⟨w.heap.size, 1, none⟩ = some (.int .i64 lo) ∧ W0.cell? ⟨w.heap.size, 2, none⟩ = some (.slice ia ni icap) ∧ W0.cell? ⟨w.heap.size, 3, none⟩ = some (.slice la nl lcap) := ⟨Below.refl _ _, c0, c1, c2, c3⟩
  have keep : ∀ W, SB W0 W → SB W0 W ∧ W.cell? ⟨w.heap.size, 0, none⟩ = some (.string nm) ∧ W.cell? ⟨w.heap.size, 1, none⟩ = some (.int .i64 lo) ∧ W.cell? ⟨w.heap.size, 2, none⟩ = some (.slice ia ni icap) ∧ W.cell? ⟨w.heap.size, 3, none⟩ = some (.slice la nl lcap) := fun W h => ⟨h, h.cell c0, h.cell c1, h.cell c2, h.cell c3⟩
  have HK := Lib.hid keep
  clear keep e65 h1 _hni _hnl hT hII hLL hX hT1 hI1 hL1 c0 c1 c2 c3
  have HB := Lib.hid hB
  clear hB
  have hS0 := HK.out _ (SB.drew hS.1)
  clear hS
  refine wp_region_x [] (fun W => SB W0 W ∧ W.cell? ⟨w.heap.size, 0, none⟩ = some (.string nm) ∧ W.cell? ⟨w.heap.size, 1, none⟩ = some (.int .i64 lo) ∧ W.cell? ⟨w.heap.size, 2, none⟩ = some (.slice ia ni icap) ∧ W.cell? ⟨w.heap.size, 3, none⟩ = some (.slice la nl lcap)) (by kernel_rfl) ?_
  refine wpX_take 1 (v := ?v1) rfl (by kernel_rfl) (by kernel_rfl) (by kernel_rfl) (by kernel_rfl) (fun _ _ _ h => h) hS0 (Or.inl ⟨by kernel_rfl, ?h1⟩) ?_
  case h1 => (intro W1 hS1; obtain ⟨hs, s0, s1, s2, s3⟩ := hS1; go_simp; with_reducible rfl)
  refine wpX_take 2 (v := ?v2) rfl (by kernel_rfl) (by kernel_rfl) (by kernel_rfl) (by kernel_rfl) (fun _ _ _ h => h) hS0 (Or.inl ⟨by kernel_rfl, ?h2⟩) ?_
  case h2 => (intro W1 hS1; obtain ⟨hs, s0, s1, s2, s3⟩ := hS1; go_simp; with_reducible rfl)
  refine wpX_take 3 (v := ?v3) rfl (by kernel_rfl) (by kernel_rfl) (by kernel_rfl) (by kernel_rfl) (fun _ _ _ h => h) hS0 (Or.inl ⟨by kernel_rfl, ?h3⟩) ?_
  case h3 => (intro W1 hS1; obtain ⟨hs, s0, s1, s2, s3⟩ := hS1; go_simp; with_reducible rfl)
  refine wpX_one 0 (by kernel_rfl) rfl (fun K hK => ?_)
  go_simp
  refine (within_any _ _ _).mono ?_
  rintro e w' ⟨rfl, rfl⟩
  have hS1 := HK.out _ (SB.alloc (SB.alloc hS0.1 (.cells #[.int .i64 1] 3)) (.cells #[.int .i64 16] 3))
  refine hK _ _ (fun _ => hS1) ?_
  clear hK K hS0
  have hS0 := hS1
  clear hS1
  refine wpX_one 4 (by kernel_rfl) rfl (fun K hK => ?_)
  go_simp
  refine (k1 _ _ _ (by go_simp) (by go_simp)).mono ?_
  rintro e w' ⟨rfl, rfl⟩
  refine hK _ _ (fun _ => hS0) ?_
  clear hK K
  refine wpX_take 5 (v := ?v4) rfl (by kernel_rfl) (by kernel_rfl) (by kernel_rfl) (by kernel_rfl) (fun _ _ _ h => h) hS0 (Or.inl ⟨by kernel_rfl, ?h4⟩) ?_
  case h4 => (intro W1 hS1; obtain ⟨hs, s0, s1, s2, s3⟩ := hS1; go_simp; with_reducible rfl)
  refine wpX_take 6 (v := undef) rfl (by kernel_rfl) (by kernel_rfl) (by kernel_rfl) (by kernel_rfl) (fun _ _ _ h => h) hS0 (Or.inr ⟨by kernel_rfl, rfl⟩) ?_
  refine wpX_take 7 (v := undef) rfl (by kernel_rfl) (by kernel_rfl) (by kernel_rfl) (by kernel_rfl) (fun _ _ _ h => h) hS0 (Or.inr ⟨by kernel_rfl, rfl⟩) ?_
  refine wpX_take 8 (v := undef) rfl (by kernel_rfl) (by kernel_rfl) (by kernel_rfl) (by kernel_rfl) (fun _ _ _ h => h) hS0 (Or.inr ⟨by kernel_rfl, rfl⟩) ?_
  refine wpX_take 9 (v := undef) rfl (by kernel_rfl) (by kernel_rfl) (by kernel_rfl) (by kernel_rfl) (fun _ _ _ h => h) hS0 (Or.inr ⟨by kernel_rfl, rfl⟩) ?_
  refine wpX_take 10 (v := ?v9) rfl (by kernel_rfl) (by kernel_rfl) (by kernel_rfl) (by kernel_rfl) (fun _ _ _ h => h) hS0 (Or.inl ⟨by kernel_rfl, ?h9⟩) ?_
  case h9 => (intro W1 hS1; obtain ⟨hs, s0, s1, s2, s3⟩ := hS1; go_simp; with_reducible rfl)
  refine wpX_take 11 (v := ?v10) rfl (by kernel_rfl) (by kernel_rfl) (by kernel_rfl) (by kernel_rfl) (fun _ _ _ h => h) hS0 (Or.inl ⟨by kernel_rfl, ?h10⟩) ?_
  case h10 => (intro W1 hS1; obtain ⟨hs, s0, s1, s2, s3⟩ := hS1; go_simp; with_reducible rfl)
  refine wpX_take 12 (v := undef) rfl (by kernel_rfl) (by kernel_rfl) (by kernel_rfl) (by kernel_rfl) (fun _ _ _ h => h) hS0 (Or.inr ⟨by kernel_rfl, rfl⟩) ?_
  refine wpX_take 13 (v := undef) rfl (by kernel_rfl) (by kernel_rfl) (by kernel_rfl) (by kernel_rfl) (fun _ _ _ h => h) hS0 (Or.inr ⟨by kernel_rfl, rfl⟩) ?_
  refine wpX_take 14 (v := undef) rfl (by kernel_rfl) (by kernel_rfl) (by kernel_rfl) (by kernel_rfl) (fun _ _ _ h => h) hS0 (Or.inr ⟨by kernel_rfl, rfl⟩) ?_
  refine wpX_take 15 (v := undef) rfl (by kernel_rfl) (by kernel_rfl) (by kernel_rfl) (by kernel_rfl) (fun _ _ _ h => h) hS0 (Or.inr ⟨by kernel_rfl, rfl⟩) ?_
  refine wpX_take 16 (v := undef) rfl (by kernel_rfl) (by kernel_rfl) (by kernel_rfl) (by kernel_rfl) (fun _ _ _ h => h) hS0 (Or.inr ⟨by kernel_rfl, rfl⟩) ?_
  refine wpX_take 17 (v := undef) rfl (by kernel_rfl) (by kernel_rfl) (by kernel_rfl) (by kernel_rfl) (fun _ _ _ h => h) hS0 (Or.inr ⟨by kernel_rfl, rfl⟩) ?_
  refine wpX_take 18 (v := undef) rfl (by kernel_rfl) (by kernel_rfl) (by kernel_rfl) (by kernel_rfl) (fun _ _ _ h => h) hS0 (Or.inr ⟨by kernel_rfl, rfl⟩) ?_
  refine wpX_take 19 (v := ?v18) rfl (by kernel_rfl) (by kernel_rfl) (by kernel_rfl) (by kernel_rfl) (fun _ _ _ h => h) hS0 (Or.inl ⟨by kernel_rfl, ?h18⟩) ?_
  case h18 => (intro W1 hS1; obtain ⟨hs, s0, s1, s2, s3⟩ := hS1; go_simp; with_reducible rfl)
  refine wpX_take 20 (v := ?v19) rfl (by kernel_rfl) (by kernel_rfl) (by kernel_rfl) (by kernel_rfl) (fun _ _ _ h => h) hS0 (Or.inl ⟨by kernel_rfl, ?h19⟩) ?_
  case h19 => (intro W1 hS1; obtain ⟨hs, s0, s1, s2, s3⟩ := hS1; go_simp; with_reducible rfl)
  refine wpX_take 21 (v := undef) rfl (by kernel_rfl) (by kernel_rfl) (by kernel_rfl) (by kernel_rfl) (fun _ _ _ h => h) hS0 (Or.inr ⟨by kernel_rfl, rfl⟩) ?_
  refine wpX_take 22 (v := undef) rfl (by kernel_rfl) (by kernel_rfl) (by kernel_rfl) (by kernel_rfl) (fun _ _ _ h => h) hS0 (Or.inr ⟨by kernel_rfl, rfl⟩) ?_
  refine wpX_take 23 (v := undef) rfl (by kernel_rfl) (by kernel_rfl) (by kernel_rfl) (by kernel_rfl) (fun _ _ _ h => h) hS0 (Or.inr ⟨by kernel_rfl, rfl⟩) ?_
  refine wpX_take 24 (v := ?v23) rfl (by kernel_rfl) (by kernel_rfl) (by kernel_rfl) (by kernel_rfl) (fun _ _ _ h => h) hS0 (Or.inl ⟨by kernel_rfl, ?h23⟩) ?_
  case h23 => (intro W1 hS1; obtain ⟨hs, s0, s1, s2, s3⟩ := hS1; go_simp; with_reducible rfl)
  refine wpX_take 25 (v := ?v24) rfl (by kernel_rfl) (by kernel_rfl) (by kernel_rfl) (by kernel_rfl) (fun _ _ _ h => h) hS0 (Or.inl ⟨by kernel_rfl, ?h24⟩) ?_
  case h24 => (intro W1 hS1; obtain ⟨hs, s0, s1, s2, s3⟩ := hS1; go_simp; with_reducible rfl)
  refine wpX_take 26 (v := undef) rfl (by kernel_rfl) (by kernel_rfl) (by kernel_rfl) (by kernel_rfl) (fun _ _ _ h => h) hS0 (Or.inr ⟨by kernel_rfl, rfl⟩) ?_
  refine wpX_take 27 (v := undef) rfl (by kernel_rfl) (by kernel_rfl) (by kernel_rfl) (by kernel_rfl) (fun _ _ _ h => h) hS0 (Or.inr ⟨by kernel_rfl, rfl⟩) ?_
  refine wpX_take 28 (v := undef) rfl (by kernel_rfl) (by kernel_rfl) (by kernel_rfl) (by kernel_rfl) (fun _ _ _ h => h) hS0 (Or.inr ⟨by kernel_rfl, rfl⟩) ?_
  refine wpX_take 29 (v := undef) rfl (by kernel_rfl) (by kernel_rfl) (by kernel_rfl) (by kernel_rfl) (fun _ _ _ h => h) hS0 (Or.inr ⟨by kernel_rfl, rfl⟩) ?_
  refine wpX_take 30 (v := ?v29) rfl (by kernel_rfl) (by kernel_rfl) (by kernel_rfl) (by kernel_rfl) (fun _ _ _ h => h) hS0 (Or.inl ⟨by kernel_rfl, ?h29⟩) ?_
  case h29 => (intro W1 hS1; obtain ⟨hs, s0, s1, s2, s3⟩ := hS1; go_simp; with_reducible rfl)
  refine wpX_take 31 (v := ?v30) rfl (by kernel_rfl) (by kernel_rfl) (by kernel_rfl) (by kernel_rfl) (fun _ _ _ h => h) hS0 (Or.inl ⟨by kernel_rfl, ?h30⟩) ?_
  case h30 => (intro W1 hS1; obtain ⟨hs, s0, s1, s2, s3⟩ := hS1; go_simp; with_reducible rfl)
  refine wpX_done (by kernel_rfl) ?_ _
  go_simp
  have hBf := HB.out
  go_wp2
  go_ret
  exact ⟨rfl, hBf.trans (Below.mono hS0.1 hBf.size)⟩

set_option maxRecDepth 100000 in
set_option maxHeartbeats 40000000 in
theorem thr_2 {nm : ByteArray} {lo : Int} {ia la : Option Addr} {icap lcap ni nl : Nat} {ins : List InsP} {lines : List Int} {w : World} (hT : TabC w) (hII : Inss w ia ins) (hLL : Ints w la lines)
    (_hni : ins.length = ni) (_hnl : lines.length = nl) (_hib : ni ≤ 281474976710656) (_hsz : nm.size ≤ maxLen) (h1 : bMay 1 16 (nm.size : Int) = true) (h2 : bMay 0 32 lo = false) :
    Calls Tryd.prog 41 #[.agg #[.string nm, .int .i64 lo, .slice ia ni icap, .slice la nl lcap]] w fun e w' => e = .returned (.bool false) ∧ Below w.heap.size w w' := by
  have hB : Below w.heap.size w (w.alloc (.cells #[.string nm, .int .i64 lo, .slice ia ni icap, .slice la nl lcap] 51)) := (Below.refl _ w).alloc (Nat.le_refl _) _
  have hX : (w.alloc (.cells #[.string nm, .int .i64 lo, .slice ia ni icap, .slice la nl lcap] 51)).heap[w.heap.size]? = some (.cells #[.string nm, .int .i64 lo, .slice ia ni icap, .slice la nl lcap] 51 (0, 0)) := World.alloc_heap_new _ _
  have hT1 := hT.below hB hT.1
  have hI1 := hII.below hB (Nat.le_refl _)
  have hL1 := hLL.below hB (Nat.le_refl _)
  have e65 : ((65536 : Nat) : Int) = 65536 := rfl
  have k1 := fun w p q hp hq => wit_any 1 16 (nm.size : Int) w p q hp hq
  rw [h1] at k1
  have k2 := fun w p q hp hq => wit_any 0 32 lo w p q hp hq
  rw [h2] at k2
  go_enter Tryd.func41, Tryd.ntmps41
  go_wp2_with fail
  generalize w.alloc (.cells #[.string nm, .int .i64 lo, .slice ia ni icap, .slice la nl lcap] 51) = W0 at *
  have c0 : W0.cell? ⟨w.heap.size, 0, none⟩ = some (.string nm) := cell_blk hX rfl
  have c1 : W0.cell? ⟨w.heap.size, 1, none⟩ = some (.int .i64 lo) := cell_blk hX rfl
  have c2 : W0.cell? ⟨w.heap.size, 2, none⟩ = some (.slice ia ni icap) := cell_blk hX rfl
  have c3 : W0.cell? ⟨w.heap.size, 3, none⟩ = some (.slice la nl lcap) := cell_blk hX rfl
  have hS : SB W0 W0 ∧ W0.cell? ⟨w.heap.size, 0, none⟩ = some (.string nm) ∧ W0.cell? ⟨w.heap.size, 1, none⟩ = some (.int .i64 lo) ∧ W0.cell? ⟨w.heap.size, 2, none⟩ = some (.slice ia ni icap) ∧ W0.cell? ⟨w.heap.size, 3, none⟩ = some (.slice la nl lcap) := ⟨Below.refl _ _, c0, c1, c2, c3⟩
  have keep : ∀ W, SB W0 W → SB W0 W ∧ W.cell? ⟨w.heap.size, 0, none⟩ = some (.string nm) ∧ W.cell? ⟨w.heap.size, 1, none⟩ = some (.int .i64 lo) ∧ W.cell? ⟨w.heap.size, 2, none⟩ = some (.slice ia ni icap) ∧ W.cell? ⟨w.heap.size, 3, none⟩ = some (.slice la nl lcap) := fun W h => ⟨h, h.cell c0, h.cell c1, h.cell c2, h.cell c3⟩
  have HK := Lib.hid keep
  clear keep e65 h1 h2 _hni _hnl hT hII hLL hX hT1 hI1 hL1 c0 c1 c2 c3
  have HB := Lib.hid hB
  clear hB
  have hS0 := HK.out _ (SB.drew hS.1)
  clear hS
  refine wp_region_x [] (fun W => SB W0 W ∧ W.cell? ⟨w.heap.size, 0, none⟩ = some (.string nm) ∧ W.cell? ⟨w.heap.size, 1, none⟩ = some (.int .i64 lo) ∧ W.cell? ⟨w.heap.size, 2, none⟩ = some (.slice ia ni icap) ∧ W.cell? ⟨w.heap.size, 3, none⟩ = some (.slice la nl lcap)) (by kernel_rfl) ?_
  refine wpX_take 1 (v := ?v1) rfl (by kernel_rfl) (by kernel_rfl) (by kernel_rfl) (by kernel_rfl) (fun _ _ _ h => h) hS0 (Or.inl ⟨by kernel_rfl, ?h1⟩) ?_
  case h1 => (intro W1 hS1; obtain ⟨hs, s0, s1, s2, s3⟩ := hS1; go_simp; with_reducible rfl)
  refine wpX_take 2 (v := ?v2) rfl (by kernel_rfl) (by kernel_rfl) (by kernel_rfl) (by kernel_rfl) (fun _ _ _ h => h) hS0 (Or.inl ⟨by kernel_rfl, ?h2⟩) ?_
  case h2 => (intro W1 hS1; obtain ⟨hs, s0, s1, s2, s3⟩ := hS1; go_simp; with_reducible rfl)
  refine wpX_take 3 (v := ?v3) rfl (by kernel_rfl) (by kernel_rfl) (by kernel_rfl) (by kernel_rfl) (fun _ _ _ h => h) hS0 (Or.inl ⟨by kernel_rfl, ?h3⟩) ?_
  case h3 => (intro W1 hS1; obtain ⟨hs, s0, s1, s2, s3⟩ := hS1; go_simp; with_reducible rfl)
  refine wpX_one 0 (by kernel_rfl) rfl (fun K hK => ?_)
  go_simp
  refine (within_any _ _ _).mono ?_
  rintro e w' ⟨rfl, rfl⟩
  have hS1 := HK.out _ (SB.alloc (SB.alloc hS0.1 (.cells #[.int .i64 1] 3)) (.cells #[.int .i64 16] 3))
  refine hK _ _ (fun _ => hS1) ?_
  clear hK K hS0
  have hS0 := hS1
  clear hS1
  refine wpX_one 4 (by kernel_rfl) rfl (fun K hK => ?_)
  go_simp
  refine (k1 _ _ _ (by go_simp) (by go_simp)).mono ?_
  rintro e w' ⟨rfl, rfl⟩
  refine hK _ _ (fun _ => hS0) ?_
  clear hK K
  refine wpX_take 5 (v := ?v4) rfl (by kernel_rfl) (by kernel_rfl) (by kernel_rfl) (by kernel_rfl) (fun _ _ _ h => h) hS0 (Or.inl ⟨by kernel_rfl, ?h4⟩) ?_
  case h4 => (intro W1 hS1; obtain ⟨hs, s0, s1, s2, s3⟩ := hS1; go_simp; with_reducible rfl)
  refine wpX_take 7 (v := ?v5) rfl (by kernel_rfl) (by kernel_rfl) (by kernel_rfl) (by kernel_rfl) (fun _ _ _ h => h) hS0 (Or.inl ⟨by kernel_rfl, ?h5⟩) ?_
  case h5 => (intro W1 hS1; obtain ⟨hs, s0, s1, s2, s3⟩ := hS1; go_simp; with_reducible rfl)
  refine wpX_take 8 (v := ?v6) rfl (by kernel_rfl) (by kernel_rfl) (by kernel_rfl) (by kernel_rfl) (fun _ _ _ h => h) hS0 (Or.inl ⟨by kernel_rfl, ?h6⟩) ?_
  case h6 => (intro W1 hS1; obtain ⟨hs, s0, s1, s2, s3⟩ := hS1; go_simp; with_reducible rfl)
  refine wpX_one 6 (by kernel_rfl) rfl (fun K hK => ?_)
  go_simp
  refine (within_any _ _ _).mono ?_
  rintro e w' ⟨rfl, rfl⟩
  have hS1 := HK.out _ (SB.alloc (SB.alloc hS0.1 (.cells #[.int .i64 0] 3)) (.cells #[.int .i64 32] 3))
  refine hK _ _ (fun _ => hS1) ?_
  clear hK K hS0
  have hS0 := hS1
  clear hS1
  refine wpX_one 9 (by kernel_rfl) rfl (fun K hK => ?_)
  go_simp
  refine (k2 _ _ _ (by go_simp) (by go_simp)).mono ?_
  rintro e w' ⟨rfl, rfl⟩
  refine hK _ _ (fun _ => hS0) ?_
  clear hK K
  refine wpX_take 10 (v := ?v7) rfl (by kernel_rfl) (by kernel_rfl) (by kernel_rfl) (by kernel_rfl) (fun _ _ _ h => h) hS0 (Or.inl ⟨by kernel_rfl, ?h7⟩) ?_
  case h7 => (intro W1 hS1; obtain ⟨hs, s0, s1, s2, s3⟩ := hS1; go_simp; with_reducible rfl)
  refine wpX_take 11 (v := ?v8) rfl (by kernel_rfl) (by kernel_rfl) (by kernel_rfl) (by kernel_rfl) (fun _ _ _ h => h) hS0 (Or.inl ⟨by kernel_rfl, ?h8⟩) ?_
  case h8 => (intro W1 hS1; obtain ⟨hs, s0, s1, s2, s3⟩ := hS1; go_simp; with_reducible rfl)
  refine wpX_take 12 (v := undef) rfl (by kernel_rfl) (by kernel_rfl) (by kernel_rfl) (by kernel_rfl) (fun _ _ _ h => h) hS0 (Or.inr ⟨by kernel_rfl, rfl⟩) ?_
  refine wpX_take 13 (v := undef) rfl (by kernel_rfl) (by kernel_rfl) (by kernel_rfl) (by kernel_rfl) (fun _ _ _ h => h) hS0 (Or.inr ⟨by kernel_rfl, rfl⟩) ?_
  refine wpX_take 14 (v := undef) rfl (by kernel_rfl) (by kernel_rfl) (by kernel_rfl) (by kernel_rfl) (fun _ _ _ h => h) hS0 (Or.inr ⟨by kernel_rfl, rfl⟩) ?_
  refine wpX_take 15 (v := undef) rfl (by kernel_rfl) (by kernel_rfl) (by kernel_rfl) (by kernel_rfl) (fun _ _ _ h => h) hS0 (Or.inr ⟨by kernel_rfl, rfl⟩) ?_
  refine wpX_take 16 (v := undef) rfl (by kernel_rfl) (by kernel_rfl) (by kernel_rfl) (by kernel_rfl) (fun _ _ _ h => h) hS0 (Or.inr ⟨by kernel_rfl, rfl⟩) ?_
  refine wpX_take 17 (v := undef) rfl (by kernel_rfl) (by kernel_rfl) (by kernel_rfl) (by kernel_rfl) (fun _ _ _ h => h) hS0 (Or.inr ⟨by kernel_rfl, rfl⟩) ?_
  refine wpX_take 18 (v := undef) rfl (by kernel_rfl) (by kernel_rfl) (by kernel_rfl) (by kernel_rfl) (fun _ _ _ h => h) hS0 (Or.inr ⟨by kernel_rfl, rfl⟩) ?_
  refine wpX_take 19 (v := ?v16) rfl (by kernel_rfl) (by kernel_rfl) (by kernel_rfl) (by kernel_rfl) (fun _ _ _ h => h) hS0 (Or.inl ⟨by kernel_rfl, ?h16⟩) ?_
  case h16 => (intro W1 hS1; obtain ⟨hs, s0, s1, s2, s3⟩ := hS1; go_simp; with_reducible rfl)
  refine wpX_take 20 (v := ?v17) rfl (by kernel_rfl) (by kernel_rfl) (by kernel_rfl) (by kernel_rfl) (fun _ _ _ h => h) hS0 (Or.inl ⟨by kernel_rfl, ?h17⟩) ?_
  case h17 => (intro W1 hS1; obtain ⟨hs, s0, s1, s2, s3⟩ := hS1; go_simp; with_reducible rfl)
  refine wpX_take 21 (v := undef) rfl (by kernel_rfl) (by kernel_rfl) (by kernel_rfl) (by kernel_rfl) (fun _ _ _ h => h) hS0 (Or.inr ⟨by kernel_rfl, rfl⟩) ?_
  refine wpX_take 22 (v := undef) rfl (by kernel_rfl) (by kernel_rfl) (by kernel_rfl) (by kernel_rfl) (fun _ _ _ h => h) hS0 (Or.inr ⟨by kernel_rfl, rfl⟩) ?_
  refine wpX_take 23 (v := undef) rfl (by kernel_rfl) (by kernel_rfl) (by kernel_rfl) (by kernel_rfl) (fun _ _ _ h => h) hS0 (Or.inr ⟨by kernel_rfl, rfl⟩) ?_
  refine wpX_take 24 (v := ?v21) rfl (by kernel_rfl) (by kernel_rfl) (by kernel_rfl) (by kernel_rfl) (fun _ _ _ h => h) hS0 (Or.inl ⟨by kernel_rfl, ?h21⟩) ?_
  case h21 => (intro W1 hS1; obtain ⟨hs, s0, s1, s2, s3⟩ := hS1; go_simp; with_reducible rfl)
  refine wpX_take 25 (v := ?v22) rfl (by kernel_rfl) (by kernel_rfl) (by kernel_rfl) (by kernel_rfl) (fun _ _ _ h => h) hS0 (Or.inl ⟨by kernel_rfl, ?h22⟩) ?_
  case h22 => (intro W1 hS1; obtain ⟨hs, s0, s1, s2, s3⟩ := hS1; go_simp; with_reducible rfl)
  refine wpX_take 26 (v := undef) rfl (by kernel_rfl) (by kernel_rfl) (by kernel_rfl) (by kernel_rfl) (fun _ _ _ h => h) hS0 (Or.inr ⟨by kernel_rfl, rfl⟩) ?_
  refine wpX_take 27 (v := undef) rfl (by kernel_rfl) (by kernel_rfl) (by kernel_rfl) (by kernel_rfl) (fun _ _ _ h => h) hS0 (Or.inr ⟨by kernel_rfl, rfl⟩) ?_
  refine wpX_take 28 (v := undef) rfl (by kernel_rfl) (by kernel_rfl) (by kernel_rfl) (by kernel_rfl) (fun _ _ _ h => h) hS0 (Or.inr ⟨by kernel_rfl, rfl⟩) ?_
  refine wpX_take 29 (v := undef) rfl (by kernel_rfl) (by kernel_rfl) (by kernel_rfl) (by kernel_rfl) (fun _ _ _ h => h) hS0 (Or.inr ⟨by kernel_rfl, rfl⟩) ?_
  refine wpX_take 30 (v := ?v27) rfl (by kernel_rfl) (by kernel_rfl) (by kernel_rfl) (by kernel_rfl) (fun _ _ _ h => h) hS0 (Or.inl ⟨by kernel_rfl, ?h27⟩) ?_
  case h27 => (intro W1 hS1; obtain ⟨hs, s0, s1, s2, s3⟩ := hS1; go_simp; with_reducible rfl)
  refine wpX_take 31 (v := ?v28) rfl (by kernel_rfl) (by kernel_rfl) (by kernel_rfl) (by kernel_rfl) (fun _ _ _ h => h) hS0 (Or.inl ⟨by kernel_rfl, ?h28⟩) ?_
  case h28 => (intro W1 hS1; obtain ⟨hs, s0, s1, s2, s3⟩ := hS1; go_simp; with_reducible rfl)
  refine wpX_done (by kernel_rfl) ?_ _
  go_simp
  have hBf := HB.out
  go_wp2
  go_ret
  exact ⟨rfl, hBf.trans (Below.mono hS0.1 hBf.size)⟩

set_option maxRecDepth 100000 in
set_option maxHeartbeats 40000000 in
theorem thr_3 {nm : ByteArray} {lo : Int} {ia la : Option Addr} {icap lcap ni nl : Nat} {ins : List InsP} {lines : List Int} {w : World} (hT : TabC w) (hII : Inss w ia ins) (hLL : Ints w la lines)
    (_hni : ins.length = ni) (_hnl : lines.length = nl) (_hib : ni ≤ 281474976710656) (_hsz : nm.size ≤ maxLen) (h1 : bMay 1 16 (nm.size : Int) = true) (h2 : bMay 0 32 lo = true) (h3 : ¬ ni = nl) :
    Calls Tryd.prog 41 #[.agg #[.string nm, .int .i64 lo, .slice ia ni icap, .slice la nl lcap]] w fun e w' => e = .returned (.bool false) ∧ Below w.heap.size w w' := by
  have hB : Below w.heap.size w (w.alloc (.cells #[.string nm, .int .i64 lo, .slice ia ni icap, .slice la nl lcap] 51)) := (Below.refl _ w).alloc (Nat.le_refl _) _
  have hX : (w.alloc (.cells #[.string nm, .int .i64 lo, .slice ia ni icap, .slice la nl lcap] 51)).heap[w.heap.size]? = some (.cells #[.string nm, .int .i64 lo, .slice ia ni icap, .slice la nl lcap] 51 (0, 0)) := World.alloc_heap_new _ _
  have hT1 := hT.below hB hT.1
  have hI1 := hII.below hB (Nat.le_refl _)
  have hL1 := hLL.below hB (Nat.le_refl _)
  have e65 : ((65536 : Nat) : Int) = 65536 := rfl
  have k1 := fun w p q hp hq => wit_any 1 16 (nm.size : Int) w p q hp hq
  rw [h1] at k1
  have k2 := fun w p q hp hq => wit_any 0 32 lo w p q hp hq
  rw [h2] at k2
  have hne : ((ni : Int) == (nl : Int)) = false := by
    rw [beq_eq_false_iff_ne]
    omega
  go_enter Tryd.func41, Tryd.ntmps41
  go_wp2_with fail
  generalize w.alloc (.cells #[.string nm, .int .i64 lo, .slice ia ni icap, .slice la nl lcap] 51) = W0 at *
  have c0 : W0.cell? ⟨w.heap.size, 0, none⟩ = some (.string nm) := cell_blk hX rfl
  have c1 : W0.cell? ⟨w.heap.size, 1, none⟩ = some (.int .i64 lo) := cell_blk hX rfl
  have c2 : W0.cell? ⟨w.heap.size, 2, none⟩ = some (.slice ia ni icap) := cell_blk hX rfl
  have c3 : W0.cell? ⟨w.heap.size, 3, none⟩ = some (.slice la nl lcap) := cell_blk hX rfl
  have hS : SB W0 W0 ∧ W0.cell? ⟨w.heap.size, 0, none⟩ = some (.string nm) ∧ W0.cell? ⟨w.heap.size, 1, none⟩ = some (.int .i64 lo) ∧ W0.cell? ⟨w.heap.size, 2, none⟩ = some (.slice ia ni icap) ∧ W0.cell? ⟨w.heap.size, 3, none⟩ = some (.slice la nl lcap) := ⟨Below.refl _ _, c0, c1, c2, c3⟩
  have keep : ∀ W, SB W0 W → SB W0 W ∧ W.cell? ⟨w.heap.size, 0, none⟩ = some (.string nm) ∧ W.cell? ⟨w.heap.size, 1, none⟩ = some (.int .i64 lo) ∧ W.cell? ⟨w.heap.size, 2, none⟩ = some (.slice ia ni icap) ∧ W.cell? ⟨w.heap.size, 3, none⟩ = some (.slice la nl lcap) := fun W h => ⟨h, h.cell c0, h.cell c1, h.cell c2, h.cell c3⟩
  have HK := Lib.hid keep
  clear keep e65 h1 h2 h3 _hni _hnl hT hII hLL hX hT1 hI1 hL1 c0 c1 c2 c3
  have HB := Lib.hid hB
  clear hB
  have hS0 := HK.out _ (SB.drew hS.1)
  clear hS
  refine wp_region_x [] (fun W => SB W0 W ∧ W.cell? ⟨w.heap.size, 0, none⟩ = some (.string nm) ∧ W.cell? ⟨w.heap.size, 1, none⟩ = some (.int .i64 lo) ∧ W.cell? ⟨w.heap.size, 2, none⟩ = some (.slice ia ni icap) ∧ W.cell? ⟨w.heap.size, 3, none⟩ = some (.slice la nl lcap)) (by kernel_rfl) ?_
  refine wpX_take 1 (v := ?v1) rfl (by kernel_rfl) (by kernel_rfl) (by kernel_rfl) (by kernel_rfl) (fun _ _ _ h => h) hS0 (Or.inl ⟨by kernel_rfl, ?h1⟩) ?_
  case h1 => (intro W1 hS1; obtain ⟨hs, s0, s1, s2, s3⟩ := hS1; go_simp; with_reducible rfl)
  refine wpX_take 2 (v := ?v2) rfl (by kernel_rfl) (by kernel_rfl) (by kernel_rfl) (by kernel_rfl) (fun _ _ _ h => h) hS0 (Or.inl ⟨by kernel_rfl, ?h2⟩) ?_
  case h2 => (intro W1 hS1; obtain ⟨hs, s0, s1, s2, s3⟩ := hS1; go_simp; with_reducible rfl)
  refine wpX_take 3 (v := ?v3) rfl (by kernel_rfl) (by kernel_rfl) (by kernel_rfl) (by kernel_rfl) (fun _ _ _ h => h) hS0 (Or.inl ⟨by kernel_rfl, ?h3⟩) ?_
  case h3 => (intro W1 hS1; obtain ⟨hs, s0, s1, s2, s3⟩ := hS1; go_simp; with_reducible rfl)
  refine wpX_one 0 (by kernel_rfl) rfl (fun K hK => ?_)
  go_simp
  refine (within_any _ _ _).mono ?_
  rintro e w' ⟨rfl, rfl⟩
  have hS1 := HK.out _ (SB.alloc (SB.alloc hS0.1 (.cells #[.int .i64 1] 3)) (.cells #[.int .i64 16] 3))
  refine hK _ _ (fun _ => hS1) ?_
  clear hK K hS0
  have hS0 := hS1
  clear hS1
  refine wpX_one 4 (by kernel_rfl) rfl (fun K hK => ?_)
  go_simp
  refine (k1 _ _ _ (by go_simp) (by go_simp)).mono ?_
  rintro e w' ⟨rfl, rfl⟩
  refine hK _ _ (fun _ => hS0) ?_
  clear hK K
  refine wpX_take 5 (v := ?v4) rfl (by kernel_rfl) (by kernel_rfl) (by kernel_rfl) (by kernel_rfl) (fun _ _ _ h => h) hS0 (Or.inl ⟨by kernel_rfl, ?h4⟩) ?_
  case h4 => (intro W1 hS1; obtain ⟨hs, s0, s1, s2, s3⟩ := hS1; go_simp; with_reducible rfl)
  refine wpX_take 7 (v := ?v5) rfl (by kernel_rfl) (by kernel_rfl) (by kernel_rfl) (by kernel_rfl) (fun _ _ _ h => h) hS0 (Or.inl ⟨by kernel_rfl, ?h5⟩) ?_
  case h5 => (intro W1 hS1; obtain ⟨hs, s0, s1, s2, s3⟩ := hS1; go_simp; with_reducible rfl)
  refine wpX_take 8 (v := ?v6) rfl (by kernel_rfl) (by kernel_rfl) (by kernel_rfl) (by kernel_rfl) (fun _ _ _ h => h) hS0 (Or.inl ⟨by kernel_rfl, ?h6⟩) ?_
  case h6 => (intro W1 hS1; obtain ⟨hs, s0, s1, s2, s3⟩ := hS1; go_simp; with_reducible rfl)
  refine wpX_one 6 (by kernel_rfl) rfl (fun K hK => ?_)
  go_simp
  refine (within_any _ _ _).mono ?_
  rintro e w' ⟨rfl, rfl⟩
  have hS1 := HK.out _ (SB.alloc (SB.alloc hS0.1 (.cells #[.int .i64 0] 3)) (.cells #[.int .i64 32] 3))
  refine hK _ _ (fun _ => hS1) ?_
  clear hK K hS0
  have hS0 := hS1
  clear hS1
  refine wpX_one 9 (by kernel_rfl) rfl (fun K hK => ?_)
  go_simp
  refine (k2 _ _ _ (by go_simp) (by go_simp)).mono ?_
  rintro e w' ⟨rfl, rfl⟩
  refine hK _ _ (fun _ => hS0) ?_
  clear hK K
  refine wpX_take 10 (v := ?v7) rfl (by kernel_rfl) (by kernel_rfl) (by kernel_rfl) (by kernel_rfl) (fun _ _ _ h => h) hS0 (Or.inl ⟨by kernel_rfl, ?h7⟩) ?_
  case h7 => (intro W1 hS1; obtain ⟨hs, s0, s1, s2, s3⟩ := hS1; go_simp; with_reducible rfl)
  refine wpX_take 11 (v := ?v8) rfl (by kernel_rfl) (by kernel_rfl) (by kernel_rfl) (by kernel_rfl) (fun _ _ _ h => h) hS0 (Or.inl ⟨by kernel_rfl, ?h8⟩) ?_
  case h8 => (intro W1 hS1; obtain ⟨hs, s0, s1, s2, s3⟩ := hS1; go_simp; with_reducible rfl)
  refine wpX_take 12 (v := ?v9) rfl (by kernel_rfl) (by kernel_rfl) (by kernel_rfl) (by kernel_rfl) (fun _ _ _ h => h) hS0 (Or.inl ⟨by kernel_rfl, ?h9⟩) ?_
  case h9 => (intro W1 hS1; obtain ⟨hs, s0, s1, s2, s3⟩ := hS1; go_simp; with_reducible rfl)
  refine wpX_take 13 (v := ?v10) rfl (by kernel_rfl) (by kernel_rfl) (by kernel_rfl) (by kernel_rfl) (fun _ _ _ h => h) hS0 (Or.inl ⟨by kernel_rfl, ?h10⟩) ?_
  case h10 => (intro W1 hS1; obtain ⟨hs, s0, s1, s2, s3⟩ := hS1; go_simp; with_reducible rfl)
  refine wpX_take 14 (v := ?v11) rfl (by kernel_rfl) (by kernel_rfl) (by kernel_rfl) (by kernel_rfl) (fun _ _ _ h => h) hS0 (Or.inl ⟨by kernel_rfl, ?h11⟩) ?_
  case h11 => (intro W1 hS1; obtain ⟨hs, s0, s1, s2, s3⟩ := hS1; go_simp; with_reducible rfl)
  refine wpX_take 15 (v := ?v12) rfl (by kernel_rfl) (by kernel_rfl) (by kernel_rfl) (by kernel_rfl) (fun _ _ _ h => h) hS0 (Or.inl ⟨by kernel_rfl, ?h12⟩) ?_
  case h12 => (intro W1 hS1; obtain ⟨hs, s0, s1, s2, s3⟩ := hS1; go_simp; with_reducible rfl)
  refine wpX_take 16 (v := ?v13) rfl (by kernel_rfl) (by kernel_rfl) (by kernel_rfl) (by kernel_rfl) (fun _ _ _ h => h) hS0 (Or.inl ⟨by kernel_rfl, ?h13⟩) ?_
  case h13 => (intro W1 hS1; obtain ⟨hs, s0, s1, s2, s3⟩ := hS1; go_simp; with_reducible rfl)
  refine wpX_take 17 (v := ?v14) rfl (by kernel_rfl) (by kernel_rfl) (by kernel_rfl) (by kernel_rfl) (fun _ _ _ h => h) hS0 (Or.inl ⟨by kernel_rfl, ?h14⟩) ?_
  case h14 => (intro W1 hS1; obtain ⟨hs, s0, s1, s2, s3⟩ := hS1; go_simp; with_reducible rfl)
  refine wpX_take 18 (v := ?v15) rfl (by kernel_rfl) (by kernel_rfl) (by kernel_rfl) (by kernel_rfl) (fun _ _ _ h => h) hS0 (Or.inl ⟨by kernel_rfl, ?h15⟩) ?_
  case h15 => (intro W1 hS1; obtain ⟨hs, s0, s1, s2, s3⟩ := hS1; go_simp; with_reducible rfl)
  refine wpX_take 19 (v := ?v16) rfl (by kernel_rfl) (by kernel_rfl) (by kernel_rfl) (by kernel_rfl) (fun _ _ _ h => h) hS0 (Or.inl ⟨by kernel_rfl, ?h16⟩) ?_
  case h16 => (intro W1 hS1; obtain ⟨hs, s0, s1, s2, s3⟩ := hS1; go_simp; with_reducible rfl)
  refine wpX_take 20 (v := ?v17) rfl (by kernel_rfl) (by kernel_rfl) (by kernel_rfl) (by kernel_rfl) (fun _ _ _ h => h) hS0 (Or.inl ⟨by kernel_rfl, ?h17⟩) ?_
  case h17 => (intro W1 hS1; obtain ⟨hs, s0, s1, s2, s3⟩ := hS1; go_simp; with_reducible rfl)
  refine wpX_take 21 (v := undef) rfl (by kernel_rfl) (by kernel_rfl) (by kernel_rfl) (by kernel_rfl) (fun _ _ _ h => h) hS0 (Or.inr ⟨by kernel_rfl, rfl⟩) ?_
  refine wpX_take 22 (v := undef) rfl (by kernel_rfl) (by kernel_rfl) (by kernel_rfl) (by kernel_rfl) (fun _ _ _ h => h) hS0 (Or.inr ⟨by kernel_rfl, rfl⟩) ?_
  refine wpX_take 23 (v := undef) rfl (by kernel_rfl) (by kernel_rfl) (by kernel_rfl) (by kernel_rfl) (fun _ _ _ h => h) hS0 (Or.inr ⟨by kernel_rfl, rfl⟩) ?_
  refine wpX_take 24 (v := ?v21) rfl (by kernel_rfl) (by kernel_rfl) (by kernel_rfl) (by kernel_rfl) (fun _ _ _ h => h) hS0 (Or.inl ⟨by kernel_rfl, ?h21⟩) ?_
  case h21 => (intro W1 hS1; obtain ⟨hs, s0, s1, s2, s3⟩ := hS1; go_simp; with_reducible rfl)
  refine wpX_take 25 (v := ?v22) rfl (by kernel_rfl) (by kernel_rfl) (by kernel_rfl) (by kernel_rfl) (fun _ _ _ h => h) hS0 (Or.inl ⟨by kernel_rfl, ?h22⟩) ?_
  case h22 => (intro W1 hS1; obtain ⟨hs, s0, s1, s2, s3⟩ := hS1; go_simp; with_reducible rfl)
  refine wpX_take 26 (v := undef) rfl (by kernel_rfl) (by kernel_rfl) (by kernel_rfl) (by kernel_rfl) (fun _ _ _ h => h) hS0 (Or.inr ⟨by kernel_rfl, rfl⟩) ?_
  refine wpX_take 27 (v := undef) rfl (by kernel_rfl) (by kernel_rfl) (by kernel_rfl) (by kernel_rfl) (fun _ _ _ h => h) hS0 (Or.inr ⟨by kernel_rfl, rfl⟩) ?_
  refine wpX_take 28 (v := undef) rfl (by kernel_rfl) (by kernel_rfl) (by kernel_rfl) (by kernel_rfl) (fun _ _ _ h => h) hS0 (Or.inr ⟨by kernel_rfl, rfl⟩) ?_
  refine wpX_take 29 (v := undef) rfl (by kernel_rfl) (by kernel_rfl) (by kernel_rfl) (by kernel_rfl) (fun _ _ _ h => h) hS0 (Or.inr ⟨by kernel_rfl, rfl⟩) ?_
  refine wpX_take 30 (v := ?v27) rfl (by kernel_rfl) (by kernel_rfl) (by kernel_rfl) (by kernel_rfl) (fun _ _ _ h => h) hS0 (Or.inl ⟨by kernel_rfl, ?h27⟩) ?_
  case h27 => (intro W1 hS1; obtain ⟨hs, s0, s1, s2, s3⟩ := hS1; go_simp; with_reducible rfl)
  refine wpX_take 31 (v := ?v28) rfl (by kernel_rfl) (by kernel_rfl) (by kernel_rfl) (by kernel_rfl) (fun _ _ _ h => h) hS0 (Or.inl ⟨by kernel_rfl, ?h28⟩) ?_
  case h28 => (intro W1 hS1; obtain ⟨hs, s0, s1, s2, s3⟩ := hS1; go_simp; with_reducible rfl)
  refine wpX_done (by kernel_rfl) ?_ _
  go_simp
  have hBf := HB.out
  go_wp2
  go_ret
  exact ⟨rfl, hBf.trans (Below.mono hS0.1 hBf.size)⟩

set_option maxRecDepth 100000 in
set_option maxHeartbeats 40000000 in
theorem thr_4 {nm : ByteArray} {lo : Int} {ia la : Option Addr} {icap lcap ni : Nat} {ins : List InsP} {lines : List Int} {w : World} (hT : TabC w) (hII : Inss w ia ins) (hLL : Ints w la lines)
    (hni : ins.length = ni) (_hnl : lines.length = ni) (hib : ni ≤ 281474976710656) (_hsz : nm.size ≤ maxLen) (h1 : bMay 1 16 (nm.size : Int) = true) (h2 : bMay 0 32 lo = true) (h4 : (decide (ni ≤ 65536) && ins.all iMay) = false) :
    Calls Tryd.prog 41 #[.agg #[.string nm, .int .i64 lo, .slice ia ni icap, .slice la ni lcap]] w fun e w' => e = .returned (.bool false) ∧ Below w.heap.size w w' := by
  have hB : Below w.heap.size w (w.alloc (.cells #[.string nm, .int .i64 lo, .slice ia ni icap, .slice la ni lcap] 51)) := (Below.refl _ w).alloc (Nat.le_refl _) _
  have hX : (w.alloc (.cells #[.string nm, .int .i64 lo, .slice ia ni icap, .slice la ni lcap] 51)).heap[w.heap.size]? = some (.cells #[.string nm, .int .i64 lo, .slice ia ni icap, .slice la ni lcap] 51 (0, 0)) := World.alloc_heap_new _ _
  have hT1 := hT.below hB hT.1
  have hI1 := hII.below hB (Nat.le_refl _)
  have hL1 := hLL.below hB (Nat.le_refl _)
  have e65 : ((65536 : Nat) : Int) = 65536 := rfl
  have k1 := fun w p q hp hq => wit_any 1 16 (nm.size : Int) w p q hp hq
  rw [h1] at k1
  have k2 := fun w p q hp hq => wit_any 0 32 lo w p q hp hq
  rw [h2] at k2
  have m4 := fun w hI hT => may_n (w := w) (a := ia) (l := ins) (n := ni) (cap := icap) (m := 65536) hni hib hI hT
  rw [h4] at m4
  go_enter Tryd.func41, Tryd.ntmps41
  go_wp2_with fail
  generalize w.alloc (.cells #[.string nm, .int .i64 lo, .slice ia ni icap, .slice la ni lcap] 51) = W0 at *
  have c0 : W0.cell? ⟨w.heap.size, 0, none⟩ = some (.string nm) := cell_blk hX rfl
  have c1 : W0.cell? ⟨w.heap.size, 1, none⟩ = some (.int .i64 lo) := cell_blk hX rfl
  have c2 : W0.cell? ⟨w.heap.size, 2, none⟩ = some (.slice ia ni icap) := cell_blk hX rfl
  have c3 : W0.cell? ⟨w.heap.size, 3, none⟩ = some (.slice la ni lcap) := cell_blk hX rfl
  have hS : SB W0 W0 ∧ W0.cell? ⟨w.heap.size, 0, none⟩ = some (.string nm) ∧ W0.cell? ⟨w.heap.size, 1, none⟩ = some (.int .i64 lo) ∧ W0.cell? ⟨w.heap.size, 2, none⟩ = some (.slice ia ni icap) ∧ W0.cell? ⟨w.heap.size, 3, none⟩ = some (.slice la ni lcap) := ⟨Below.refl _ _, c0, c1, c2, c3⟩
  have keep : ∀ W, SB W0 W → SB W0 W ∧ W.cell? ⟨w.heap.size, 0, none⟩ = some (.string nm) ∧ W.cell? ⟨w.heap.size, 1, none⟩ = some (.int .i64 lo) ∧ W.cell? ⟨w.heap.size, 2, none⟩ = some (.slice ia ni icap) ∧ W.cell? ⟨w.heap.size, 3, none⟩ = some (.slice la ni lcap) := fun W h => ⟨h, h.cell c0, h.cell c1, h.cell c2, h.cell c3⟩
  have HK := Lib.hid keep
  have m4' := fun W (h : SB W0 W) => m4 W (hI1.below h (Nat.le_refl _)) (hT1.below h hT1.1)
  simp only [e65] at m4'
  clear m4
  clear keep e65 h1 h2 h4 hni _hnl hT hII hLL hX hT1 hI1 hL1 c0 c1 c2 c3
  have HB := Lib.hid hB
  clear hB
  have hS0 := HK.out _ (SB.drew hS.1)
  clear hS
  refine wp_region_x [] (fun W => SB W0 W ∧ W.cell? ⟨w.heap.size, 0, none⟩ = some (.string nm) ∧ W.cell? ⟨w.heap.size, 1, none⟩ = some (.int .i64 lo) ∧ W.cell? ⟨w.heap.size, 2, none⟩ = some (.slice ia ni icap) ∧ W.cell? ⟨w.heap.size, 3, none⟩ = some (.slice la ni lcap)) (by kernel_rfl) ?_
  refine wpX_take 1 (v := ?v1) rfl (by kernel_rfl) (by kernel_rfl) (by kernel_rfl) (by kernel_rfl) (fun _ _ _ h => h) hS0 (Or.inl ⟨by kernel_rfl, ?h1⟩) ?_
  case h1 => (intro W1 hS1; obtain ⟨hs, s0, s1, s2, s3⟩ := hS1; go_simp; with_reducible rfl)
  refine wpX_take 2 (v := ?v2) rfl (by kernel_rfl) (by kernel_rfl) (by kernel_rfl) (by kernel_rfl) (fun _ _ _ h => h) hS0 (Or.inl ⟨by kernel_rfl, ?h2⟩) ?_
  case h2 => (intro W1 hS1; obtain ⟨hs, s0, s1, s2, s3⟩ := hS1; go_simp; with_reducible rfl)
  refine wpX_take 3 (v := ?v3) rfl (by kernel_rfl) (by kernel_rfl) (by kernel_rfl) (by kernel_rfl) (fun _ _ _ h => h) hS0 (Or.inl ⟨by kernel_rfl, ?h3⟩) ?_
  case h3 => (intro W1 hS1; obtain ⟨hs, s0, s1, s2, s3⟩ := hS1; go_simp; with_reducible rfl)
  refine wpX_one 0 (by kernel_rfl) rfl (fun K hK => ?_)
  go_simp
  refine (within_any _ _ _).mono ?_
  rintro e w' ⟨rfl, rfl⟩
  have hS1 := HK.out _ (SB.alloc (SB.alloc hS0.1 (.cells #[.int .i64 1] 3)) (.cells #[.int .i64 16] 3))
  refine hK _ _ (fun _ => hS1) ?_
  clear hK K hS0
  have hS0 := hS1
  clear hS1
  refine wpX_one 4 (by kernel_rfl) rfl (fun K hK => ?_)
  go_simp
  refine (k1 _ _ _ (by go_simp) (by go_simp)).mono ?_
  rintro e w' ⟨rfl, rfl⟩
  refine hK _ _ (fun _ => hS0) ?_
  clear hK K
  refine wpX_take 5 (v := ?v4) rfl (by kernel_rfl) (by kernel_rfl) (by kernel_rfl) (by kernel_rfl) (fun _ _ _ h => h) hS0 (Or.inl ⟨by kernel_rfl, ?h4⟩) ?_
  case h4 => (intro W1 hS1; obtain ⟨hs, s0, s1, s2, s3⟩ := hS1; go_simp; with_reducible rfl)
  refine wpX_take 7 (v := ?v5) rfl (by kernel_rfl) (by kernel_rfl) (by kernel_rfl) (by kernel_rfl) (fun _ _ _ h => h) hS0 (Or.inl ⟨by kernel_rfl, ?h5⟩) ?_
  case h5 => (intro W1 hS1; obtain ⟨hs, s0, s1, s2, s3⟩ := hS1; go_simp; with_reducible rfl)
  refine wpX_take 8 (v := ?v6) rfl (by kernel_rfl) (by kernel_rfl) (by kernel_rfl) (by kernel_rfl) (fun _ _ _ h => h) hS0 (Or.inl ⟨by kernel_rfl, ?h6⟩) ?_
  case h6 => (intro W1 hS1; obtain ⟨hs, s0, s1, s2, s3⟩ := hS1; go_simp; with_reducible rfl)
  refine wpX_one 6 (by kernel_rfl) rfl (fun K hK => ?_)
  go_simp
  refine (within_any _ _ _).mono ?_
  rintro e w' ⟨rfl, rfl⟩
  have hS1 := HK.out _ (SB.alloc (SB.alloc hS0.1 (.cells #[.int .i64 0] 3)) (.cells #[.int .i64 32] 3))
  refine hK _ _ (fun _ => hS1) ?_
  clear hK K hS0
  have hS0 := hS1
  clear hS1
  refine wpX_one 9 (by kernel_rfl) rfl (fun K hK => ?_)
  go_simp
  refine (k2 _ _ _ (by go_simp) (by go_simp)).mono ?_
  rintro e w' ⟨rfl, rfl⟩
  refine hK _ _ (fun _ => hS0) ?_
  clear hK K
  refine wpX_take 10 (v := ?v7) rfl (by kernel_rfl) (by kernel_rfl) (by kernel_rfl) (by kernel_rfl) (fun _ _ _ h => h) hS0 (Or.inl ⟨by kernel_rfl, ?h7⟩) ?_
  case h7 => (intro W1 hS1; obtain ⟨hs, s0, s1, s2, s3⟩ := hS1; go_simp; with_reducible rfl)
  refine wpX_take 11 (v := ?v8) rfl (by kernel_rfl) (by kernel_rfl) (by kernel_rfl) (by kernel_rfl) (fun _ _ _ h => h) hS0 (Or.inl ⟨by kernel_rfl, ?h8⟩) ?_
  case h8 => (intro W1 hS1; obtain ⟨hs, s0, s1, s2, s3⟩ := hS1; go_simp; with_reducible rfl)
  refine wpX_take 12 (v := ?v9) rfl (by kernel_rfl) (by kernel_rfl) (by kernel_rfl) (by kernel_rfl) (fun _ _ _ h => h) hS0 (Or.inl ⟨by kernel_rfl, ?h9⟩) ?_
  case h9 => (intro W1 hS1; obtain ⟨hs, s0, s1, s2, s3⟩ := hS1; go_simp; with_reducible rfl)
  refine wpX_take 13 (v := ?v10) rfl (by kernel_rfl) (by kernel_rfl) (by kernel_rfl) (by kernel_rfl) (fun _ _ _ h => h) hS0 (Or.inl ⟨by kernel_rfl, ?h10⟩) ?_
  case h10 => (intro W1 hS1; obtain ⟨hs, s0, s1, s2, s3⟩ := hS1; go_simp; with_reducible rfl)
  refine wpX_take 14 (v := ?v11) rfl (by kernel_rfl) (by kernel_rfl) (by kernel_rfl) (by kernel_rfl) (fun _ _ _ h => h) hS0 (Or.inl ⟨by kernel_rfl, ?h11⟩) ?_
  case h11 => (intro W1 hS1; obtain ⟨hs, s0, s1, s2, s3⟩ := hS1; go_simp; with_reducible rfl)
  refine wpX_take 15 (v := ?v12) rfl (by kernel_rfl) (by kernel_rfl) (by kernel_rfl) (by kernel_rfl) (fun _ _ _ h => h) hS0 (Or.inl ⟨by kernel_rfl, ?h12⟩) ?_
  case h12 => (intro W1 hS1; obtain ⟨hs, s0, s1, s2, s3⟩ := hS1; go_simp; with_reducible rfl)
  refine wpX_take 16 (v := ?v13) rfl (by kernel_rfl) (by kernel_rfl) (by kernel_rfl) (by kernel_rfl) (fun _ _ _ h => h) hS0 (Or.inl ⟨by kernel_rfl, ?h13⟩) ?_
  case h13 => (intro W1 hS1; obtain ⟨hs, s0, s1, s2, s3⟩ := hS1; go_simp; with_reducible rfl)
  refine wpX_take 17 (v := ?v14) rfl (by kernel_rfl) (by kernel_rfl) (by kernel_rfl) (by kernel_rfl) (fun _ _ _ h => h) hS0 (Or.inl ⟨by kernel_rfl, ?h14⟩) ?_
  case h14 => (intro W1 hS1; obtain ⟨hs, s0, s1, s2, s3⟩ := hS1; go_simp; with_reducible rfl)
  refine wpX_take 18 (v := ?v15) rfl (by kernel_rfl) (by kernel_rfl) (by kernel_rfl) (by kernel_rfl) (fun _ _ _ h => h) hS0 (Or.inl ⟨by kernel_rfl, ?h15⟩) ?_
  case h15 => (intro W1 hS1; obtain ⟨hs, s0, s1, s2, s3⟩ := hS1; go_simp; with_reducible rfl)
  refine wpX_take 19 (v := ?v16) rfl (by kernel_rfl) (by kernel_rfl) (by kernel_rfl) (by kernel_rfl) (fun _ _ _ h => h) hS0 (Or.inl ⟨by kernel_rfl, ?h16⟩) ?_
  case h16 => (intro W1 hS1; obtain ⟨hs, s0, s1, s2, s3⟩ := hS1; go_simp; with_reducible rfl)
  refine wpX_take 20 (v := ?v17) rfl (by kernel_rfl) (by kernel_rfl) (by kernel_rfl) (by kernel_rfl) (fun _ _ _ h => h) hS0 (Or.inl ⟨by kernel_rfl, ?h17⟩) ?_
  case h17 => (intro W1 hS1; obtain ⟨hs, s0, s1, s2, s3⟩ := hS1; go_simp; with_reducible rfl)
  refine wpX_take 21 (v := ?v18) rfl (by kernel_rfl) (by kernel_rfl) (by kernel_rfl) (by kernel_rfl) (fun _ _ _ h => h) hS0 (Or.inl ⟨by kernel_rfl, ?h18⟩) ?_
  case h18 => (intro W1 hS1; obtain ⟨hs, s0, s1, s2, s3⟩ := hS1; go_simp; with_reducible rfl)
  refine wpX_take 22 (v := ?v19) rfl (by kernel_rfl) (by kernel_rfl) (by kernel_rfl) (by kernel_rfl) (fun _ _ _ h => h) hS0 (Or.inl ⟨by kernel_rfl, ?h19⟩) ?_
  case h19 => (intro W1 hS1; obtain ⟨hs, s0, s1, s2, s3⟩ := hS1; go_simp; with_reducible rfl)
  refine wpX_one 23 (by kernel_rfl) rfl (fun K hK => ?_)
  go_simp
  refine (m4' _ hS0.1).mono ?_
  rintro e w' ⟨rfl, hb⟩
  have hS1 := HK.out _ (SB.trans hS0.1 hb)
  clear hb
  refine hK _ _ (fun _ => hS1) ?_
  clear hK K hS0
  have hS0 := hS1
  clear hS1
  refine wpX_take 24 (v := ?v20) rfl (by kernel_rfl) (by kernel_rfl) (by kernel_rfl) (by kernel_rfl) (fun _ _ _ h => h) hS0 (Or.inl ⟨by kernel_rfl, ?h20⟩) ?_
  case h20 => (intro W1 hS1; obtain ⟨hs, s0, s1, s2, s3⟩ := hS1; go_simp; with_reducible rfl)
  refine wpX_take 25 (v := ?v21) rfl (by kernel_rfl) (by kernel_rfl) (by kernel_rfl) (by kernel_rfl) (fun _ _ _ h => h) hS0 (Or.inl ⟨by kernel_rfl, ?h21⟩) ?_
  case h21 => (intro W1 hS1; obtain ⟨hs, s0, s1, s2, s3⟩ := hS1; go_simp; with_reducible rfl)
  refine wpX_take 26 (v := undef) rfl (by kernel_rfl) (by kernel_rfl) (by kernel_rfl) (by kernel_rfl) (fun _ _ _ h => h) hS0 (Or.inr ⟨by kernel_rfl, rfl⟩) ?_
  refine wpX_take 27 (v := undef) rfl (by kernel_rfl) (by kernel_rfl) (by kernel_rfl) (by kernel_rfl) (fun _ _ _ h => h) hS0 (Or.inr ⟨by kernel_rfl, rfl⟩) ?_
  refine wpX_take 28 (v := undef) rfl (by kernel_rfl) (by kernel_rfl) (by kernel_rfl) (by kernel_rfl) (fun _ _ _ h => h) hS0 (Or.inr ⟨by kernel_rfl, rfl⟩) ?_
  refine wpX_take 29 (v := undef) rfl (by kernel_rfl) (by kernel_rfl) (by kernel_rfl) (by kernel_rfl) (fun _ _ _ h => h) hS0 (Or.inr ⟨by kernel_rfl, rfl⟩) ?_
  refine wpX_take 30 (v := ?v26) rfl (by kernel_rfl) (by kernel_rfl) (by kernel_rfl) (by kernel_rfl) (fun _ _ _ h => h) hS0 (Or.inl ⟨by kernel_rfl, ?h26⟩) ?_
  case h26 => (intro W1 hS1; obtain ⟨hs, s0, s1, s2, s3⟩ := hS1; go_simp; with_reducible rfl)
  refine wpX_take 31 (v := ?v27) rfl (by kernel_rfl) (by kernel_rfl) (by kernel_rfl) (by kernel_rfl) (fun _ _ _ h => h) hS0 (Or.inl ⟨by kernel_rfl, ?h27⟩) ?_
  case h27 => (intro W1 hS1; obtain ⟨hs, s0, s1, s2, s3⟩ := hS1; go_simp; with_reducible rfl)
  refine wpX_done (by kernel_rfl) ?_ _
  go_simp
  have hBf := HB.out
  go_wp2
  go_ret
  exact ⟨rfl, hBf.trans (Below.mono hS0.1 hBf.size)⟩

set_option maxRecDepth 100000 in
set_option maxHeartbeats 40000000 in
theorem thr_5 {nm : ByteArray} {lo : Int} {ia la : Option Addr} {icap lcap ni : Nat} {ins : List InsP} {lines : List Int} {w : World} (hT : TabC w) (hII : Inss w ia ins) (hLL : Ints w la lines)
    (hni : ins.length = ni) (hnl : lines.length = ni) (hib : ni ≤ 281474976710656) (_hsz : nm.size ≤ maxLen) (h1 : bMay 1 16 (nm.size : Int) = true) (h2 : bMay 0 32 lo = true) (h4 : (decide (ni ≤ 65536) && ins.all iMay) = true) (q : Bool) (h5 : (decide (ni ≤ 65536) && lines.all (bMay 0 65536)) = q) :
    Calls Tryd.prog 41 #[.agg #[.string nm, .int .i64 lo, .slice ia ni icap, .slice la ni lcap]] w fun e w' => e = .returned (.bool q) ∧ Below w.heap.size w w' := by
  have hB : Below w.heap.size w (w.alloc (.cells #[.string nm, .int .i64 lo, .slice ia ni icap, .slice la ni lcap] 51)) := (Below.refl _ w).alloc (Nat.le_refl _) _
  have hX : (w.alloc (.cells #[.string nm, .int .i64 lo, .slice ia ni icap, .slice la ni lcap] 51)).heap[w.heap.size]? = some (.cells #[.string nm, .int .i64 lo, .slice ia ni icap, .slice la ni lcap] 51 (0, 0)) := World.alloc_heap_new _ _
  have hT1 := hT.below hB hT.1
  have hI1 := hII.below hB (Nat.le_refl _)
  have hL1 := hLL.below hB (Nat.le_refl _)
  have e65 : ((65536 : Nat) : Int) = 65536 := rfl
  have k1 := fun w p q hp hq => wit_any 1 16 (nm.size : Int) w p q hp hq
  rw [h1] at k1
  have k2 := fun w p q hp hq => wit_any 0 32 lo w p q hp hq
  rw [h2] at k2
  have m4 := fun w hI hT => may_n (w := w) (a := ia) (l := ins) (n := ni) (cap := icap) (m := 65536) hni hib hI hT
  rw [h4] at m4
  have m5 := fun w p q hI hp hq => may_b (w := w) (a := la) (l := lines) (n := ni) (cap := lcap) (m := 65536) hnl hib hI (lo := 0) (up := 65536) (p := ⟨p, 0, none⟩) (q := ⟨q, 0, none⟩) hp hq
  rw [h5] at m5
  go_enter Tryd.func41, Tryd.ntmps41
  go_wp2_with fail
  generalize w.alloc (.cells #[.string nm, .int .i64 lo, .slice ia ni icap, .slice la ni lcap] 51) = W0 at *
  have c0 : W0.cell? ⟨w.heap.size, 0, none⟩ = some (.string nm) := cell_blk hX rfl
  have c1 : W0.cell? ⟨w.heap.size, 1, none⟩ = some (.int .i64 lo) := cell_blk hX rfl
  have c2 : W0.cell? ⟨w.heap.size, 2, none⟩ = some (.slice ia ni icap) := cell_blk hX rfl
  have c3 : W0.cell? ⟨w.heap.size, 3, none⟩ = some (.slice la ni lcap) := cell_blk hX rfl
  have hS : SB W0 W0 ∧ W0.cell? ⟨w.heap.size, 0, none⟩ = some (.string nm) ∧ W0.cell? ⟨w.heap.size, 1, none⟩ = some (.int .i64 lo) ∧ W0.cell? ⟨w.heap.size, 2, none⟩ = some (.slice ia ni icap) ∧ W0.cell? ⟨w.heap.size, 3, none⟩ = some (.slice la ni lcap) := ⟨Below.refl _ _, c0, c1, c2, c3⟩
  have keep : ∀ W, SB W0 W → SB W0 W ∧ W.cell? ⟨w.heap.size, 0, none⟩ = some (.string nm) ∧ W.cell? ⟨w.heap.size, 1, none⟩ = some (.int .i64 lo) ∧ W.cell? ⟨w.heap.size, 2, none⟩ = some (.slice ia ni icap) ∧ W.cell? ⟨w.heap.size, 3, none⟩ = some (.slice la ni lcap) := fun W h => ⟨h, h.cell c0, h.cell c1, h.cell c2, h.cell c3⟩
  have HK := Lib.hid keep
  have m4' := fun W (h : SB W0 W) => m4 W (hI1.below h (Nat.le_refl _)) (hT1.below h hT1.1)
  simp only [e65] at m4'
  clear m4
  have m5' := fun W (h : SB W0 W) p q' hp hq => m5 W p q' (hL1.below h (Nat.le_refl _)) hp hq
  simp only [e65] at m5'
  clear m5
  clear keep e65 h1 h2 h4 h5 hni hnl hT hII hLL hX hT1 hI1 hL1 c0 c1 c2 c3
  have HB := Lib.hid hB
  clear hB
  go_region_held3 (fun W => SB W0 W ∧ W.cell? ⟨w.heap.size, 0, none⟩ = some (.string nm) ∧ W.cell? ⟨w.heap.size, 1, none⟩ = some (.int .i64 lo) ∧ W.cell? ⟨w.heap.size, 2, none⟩ = some (.slice ia ni icap) ∧ W.cell? ⟨w.heap.size, 3, none⟩ = some (.slice la ni lcap))
    (first | exact HK.out _ (SB.drew (And.left (by assumption))) | exact HK.out _ (SB.alloc (SB.alloc (And.left (by assumption)) _) _) | exact HK.out _ (SB.trans (And.left (by assumption)) (by assumption)) | exact HK.out _ (And.left (by assumption)))
    ((first
      | (go_at_call 36; (with_reducible refine (within_any _ _ _).mono ?_); rintro e w' ⟨rfl, rfl⟩)
      | (go_at_call 64; (with_reducible refine (k1 _ _ _ (by go_simp) (by go_simp)).mono ?_); rintro e w' ⟨rfl, rfl⟩)
      | (go_at_call 64; (with_reducible refine (k2 _ _ _ (by go_simp) (by go_simp)).mono ?_); rintro e w' ⟨rfl, rfl⟩)
      | (go_at_call 71; (with_reducible refine (m4' _ (And.left (by assumption))).mono ?_); rintro e w' ⟨rfl, hb⟩)
      | (go_at_call 39; (with_reducible refine (m5' _ (And.left (by assumption)) _ _ (by go_simp) (by go_simp)).mono ?_); rintro e w' ⟨rfl, hb⟩)))
  have hBf := HB.out
  go_wp2
  go_ret
  refine ⟨rfl, hBf.trans (Below.mono ?_ hBf.size)⟩
  first
    | exact And.left (by assumption)
    | exact SB.trans (And.left (by assumption)) (by assumption)
    | exact SB.drew (And.left (by assumption))
    | exact SB.alloc (SB.alloc (And.left (by assumption)) _) _

theorem threadMay_any (c : CodeM) (w : World) (hT : TabC w) (h : CodeOk w c) :
    Calls Tryd.prog 41 #[.agg #[.string c.name, .int .i64 c.locals, .slice c.ia c.ins.length c.icap, .slice c.la c.lines.length c.lcap]] w fun e w' => e = .returned (.bool (tMay c)) ∧ Below w.heap.size w w' := by
  obtain ⟨nm, lo, ia, icap, ins, la, lcap, lines⟩ := c
  unfold tMay
  simp only
  obtain ⟨h1, h2, h3, h4, _⟩ := h
  simp only at h1 h2 h3 h4
  cases q1 : bMay 1 16 (nm.size : Int) with
  | false => exact thr_1 hT h2 h3 rfl rfl h4 h1 q1
  | true =>
    cases q2 : bMay 0 32 lo with
    | false => exact thr_2 hT h2 h3 rfl rfl h4 h1 q1 q2
    | true =>
      by_cases q3 : ins.length = lines.length
      · rw [← q3]
        simp only [beq_self_eq_true, Bool.true_and]
        cases q4 : (decide (ins.length ≤ 65536) && ins.all iMay) with
        | false => exact thr_4 hT h2 h3 rfl q3.symm h4 h1 q1 q2 q4
        | true => exact thr_5 hT h2 h3 rfl q3.symm h4 h1 q1 q2 q4 _ rfl
      · rw [show (ins.length == lines.length) = false from beq_false_of_ne q3]
        exact thr_3 hT h2 h3 rfl rfl h4 h1 q1 q2 q3
end Go.Proofs.YtjbinejaagpleaaDoor
