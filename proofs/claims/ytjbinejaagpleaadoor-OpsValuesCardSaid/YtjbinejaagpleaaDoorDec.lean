/- The program's Decode. Asked: the bytes lie; the table of codes. -/
import Derived.Test.YtjbinejaagpleaaDoorRmd
import Derived.Deep.Cut
namespace Go.Proofs.YtjbinejaagpleaaDoor
open Go.RowKit

/-- What Decode leaves. -/
def DPost (w : World) (l : List Nat) (e : Ending) (w' : World) : Prop := Below w.heap.size w w' ∧
  if sealed l = true then match rdMod (l.take (l.length - 4)) with
    | none => e = .returned (.tuple #[zeroM, .int .i64 161])
    | some mp => ∃ m : ModM, e = .returned (.tuple #[.agg m.cells, .int .i64 0]) ∧ m.p = mp ∧ OwnM w' w.heap.size m
  else e = .returned (.tuple #[zeroM, .int .i64 160])
theorem end_dec {R : Ending → World → Prop} {act : Act} {W : World} {p : Nat} {x0 x1 x2 x3 x4 x5 : Value} {n : Int} (h : W.heap[p]? = some (.cells #[x0, x1, x2, x3, x4, x5] 27 (0, 0)))
    (h2 : act.tmps.getD 2 undef = .pointer (some ⟨p, 0, none⟩)) (h3 : act.tmps.getD 3 undef = .int .i64 n) (hd : act.defers = []) (hR : R (.returned (.tuple #[.agg #[x0, x1, x2, x3, x4, x5], .int .i64 n])) W) : bodyPost Tryd.prog Tryd.f10 R .ret act W := by
  have c0 : W.cell? ⟨p, 0, none⟩ = some x0 := cell_blk h rfl
  have c1 : W.cell? ⟨p, 1, none⟩ = some x1 := cell_blk h rfl
  have c2 : W.cell? ⟨p, 2, none⟩ = some x2 := cell_blk h rfl
  have c3 : W.cell? ⟨p, 3, none⟩ = some x3 := cell_blk h rfl
  have c4 : W.cell? ⟨p, 4, none⟩ = some x4 := cell_blk h rfl
  have c5 : W.cell? ⟨p, 5, none⟩ = some x5 := cell_blk h rfl
  have h2' : act.tmps[2]?.getD undef = .pointer (some ⟨p, 0, none⟩) := by rw [← h2]; simp
  have h3' : act.tmps[3]?.getD undef = .int .i64 n := by rw [← h3]; simp
  refine bodyPost_ret (v := .tuple #[.agg #[x0, x1, x2, x3, x4, x5], .int .i64 n]) ?_ hd hR
  simp [results, Tryd.f10, go_sem, h2', h3', c0, c1, c2, c3, c4, c5]
theorem dec_short {w : World} {l : List Nat} {a : Option Addr} {cap : Nat} (hs : l.length < 8) : Calls Tryd.prog 10 #[.slice a l.length cap] w (DPost w l) := by
  have hi : (l.length : Int) < 8 := by omega
  have hse : sealed l = false := by
    unfold sealed
    rw [decide_eq_false (by omega)]
    rfl
  have hx : (w.alloc (.cells #[.slice none 0 0, .slice none 0 0, .slice none 0 0, .int .i64 0, .int .i64 0, .slice none 0 0] 27)).heap[w.heap.size]? = some (.cells #[.slice none 0 0, .slice none 0 0, .slice none 0 0, .int .i64 0, .int .i64 0, .slice none 0 0] 27 (0, 0)) := World.alloc_heap_new _ _
  have c0 := cell_blk (k := 0) hx rfl
  have c1 := cell_blk (k := 1) hx rfl
  have c2 := cell_blk (k := 2) hx rfl
  have c3 := cell_blk (k := 3) hx rfl
  have c4 := cell_blk (k := 4) hx rfl
  have c5 := cell_blk (k := 5) hx rfl
  have f0 := froz_blk (k := 0) hx
  have f1 := froz_blk (k := 1) hx
  have f2 := froz_blk (k := 2) hx
  have f3 := froz_blk (k := 3) hx
  have f4 := froz_blk (k := 4) hx
  have f5 := froz_blk (k := 5) hx
  go_enter Tryd.func10, Tryd.ntmps10
  go_wp2
  refine end_dec (World.alloc_heap_new w _) rfl rfl rfl ⟨(Below.refl _ _).alloc (Nat.le_refl _) _, ?_⟩
  rw [if_neg (by rw [hse]; decide)]
  rfl
structure DS (w W : World) (g off len : Nat) (l : List Nat) : Prop where
  bl : Below w.heap.size w W
  x : W.heap[w.heap.size]? = some (.cells #[.slice none 0 0, .slice none 0 0, .slice none 0 0, .int .i64 0, .int .i64 0, .slice none 0 0] 27 (0, 0))
  tb : TabC W
  hc : ∀ i, i < len → W.cell? ⟨g, off + i, none⟩ = some (.int .u8 ((l.getD i 0 : Nat) : Int))
theorem DS.drew {w W : World} {g off len : Nat} {l : List Nat} (h : DS w W g off len l) : DS w W.drew g off len l := ⟨h.bl.drew, h.x, h.tb.below (Below.refl _ _).drew h.tb.1, h.hc⟩
theorem sum4_byte (S k : Nat) (hk : k < 4) : (sum4 S).getD k 0 = S / 2 ^ (8 * k) % 256 := by
  match k, hk with
  | 0, _ => simp [sum4]
  | 1, _ => simp [sum4]
  | 2, _ => simp [sum4]
  | 3, _ => simp [sum4]
set_option maxRecDepth 100000 in
set_option maxHeartbeats 8000000 in
theorem dec_long {w : World} {l : List Nat} {g off cap len : Nat} (hlen : l.length = len) (h8 : 8 ≤ len) (hcap : len ≤ cap) (hle : len ≤ 281474976710656) (hlt : ∀ x ∈ l, x < 256) (hc : ∀ i, i < len → w.cell? ⟨g, off + i, none⟩ = some (.int .u8 ((l.getD i 0 : Nat) : Int))) (hT : TabC w) :
    Calls Tryd.prog 10 #[.slice (some ⟨g, off, none⟩) len cap] w (DPost w l) := by
  obtain ⟨n, hn⟩ : ∃ n, len = n + 4 := ⟨len - 4, by omega⟩
  have hi : ¬ (len : Int) < 8 := by omega
  have hi4 : ((len : Int) - 4) = (n : Int) := by omega
  have hgw : g < w.heap.size := World.block_lt_of_cell? w ⟨g, off + 0, none⟩ (hc 0 (by omega))
  have hB0 : Below w.heap.size w (w.alloc (.cells #[.slice none 0 0, .slice none 0 0, .slice none 0 0, .int .i64 0, .int .i64 0, .slice none 0 0] 27)) := (Below.refl _ w).alloc (Nat.le_refl _) _
  have hx : (w.alloc (.cells #[.slice none 0 0, .slice none 0 0, .slice none 0 0, .int .i64 0, .int .i64 0, .slice none 0 0] 27)).heap[w.heap.size]? = some (.cells #[.slice none 0 0, .slice none 0 0, .slice none 0 0, .int .i64 0, .int .i64 0, .slice none 0 0] 27 (0, 0)) := World.alloc_heap_new _ _
  have hs0 : (w.alloc (.cells #[.slice none 0 0, .slice none 0 0, .slice none 0 0, .int .i64 0, .int .i64 0, .slice none 0 0] 27)).heap.size = w.heap.size + 1 := by simp
  have hT0 := hT.below hB0 hT.1
  have HC0 : Hid (∀ i, i < len → (w.alloc (.cells #[.slice none 0 0, .slice none 0 0, .slice none 0 0, .int .i64 0, .int .i64 0, .slice none 0 0] 27)).cell? ⟨g, off + i, none⟩ = some (.int .u8 ((l.getD i 0 : Nat) : Int))) := Lib.hid (fun i hi => (hB0.cell (p := ⟨g, off + i, none⟩) hgw).trans (hc i hi))
  have HX := Lib.hid (And.intro hx hs0)
  have HN := Lib.hid hn
  have HLT := Lib.hid hlt
  have HB0 := Lib.hid hB0
  have HT0 := Lib.hid hT0
  have HLEN := Lib.hid hlen
  clear hx hs0 hlt hB0 hT0 hT hc hlen hn
  have hmx : Tryd.prog.follows .mixedOrders = true := by kernel_rfl
  have hb1 : (n : Int) ≤ (cap : Int) := by omega
  have hb2 : (n : Int) ≤ (len : Int) := by omega
  have hb3 : ¬ cap = n := by omega
  have hb4 : (0 : Int) ≤ (n : Int) := by omega
  have hln : len - n = 4 := by have := HN.out; omega
  have hwn : IntKind.i64.wrap (n : Int) = (n : Int) := by
    rw [IntKind.wrap_i64]
    omega
  go_enter Tryd.func10, Tryd.ntmps10
  go_wp2_with fail
  refine wp_region_x [] (fun _ => True) hmx ?_
  have hS0 : True := trivial
  refine wpX_take 0 (v := ?va0) rfl (by kernel_rfl) (by kernel_rfl) (by kernel_rfl) (by kernel_rfl) (fun _ _ _ h => h) hS0 (Or.inl ⟨by kernel_rfl, ?a0⟩) ?_
  case a0 => (intro W2 hS1; go_simp; with_reducible rfl)
  refine wpX_take 1 (v := ?va1) rfl (by kernel_rfl) (by kernel_rfl) (by kernel_rfl) (by kernel_rfl) (fun _ _ _ h => h) hS0 (Or.inl ⟨by kernel_rfl, ?a1⟩) ?_
  case a1 => (intro W2 hS1; go_simp; with_reducible rfl)
  refine wpX_take 2 (v := ?va2) rfl (by kernel_rfl) (by kernel_rfl) (by kernel_rfl) (by kernel_rfl) (fun _ _ _ h => h) hS0 (Or.inl ⟨by kernel_rfl, ?a2⟩) ?_
  case a2 => (intro W2 hS1; go_simp; with_reducible rfl)
  refine wpX_take 3 (v := ?va3) rfl (by kernel_rfl) (by kernel_rfl) (by kernel_rfl) (by kernel_rfl) (fun _ _ _ h => h) hS0 (Or.inl ⟨by kernel_rfl, ?a3⟩) ?_
  case a3 => (intro W2 hS1; go_simp; with_reducible rfl)
  refine wpX_take 4 (v := ?va4) rfl (by kernel_rfl) (by kernel_rfl) (by kernel_rfl) (by kernel_rfl) (fun _ _ _ h => h) hS0 (Or.inl ⟨by kernel_rfl, ?a4⟩) ?_
  case a4 => (intro W2 hS1; go_simp; with_reducible rfl)
  refine wpX_take 5 (v := ?va5) rfl (by kernel_rfl) (by kernel_rfl) (by kernel_rfl) (by kernel_rfl) (fun _ _ _ h => h) hS0 (Or.inl ⟨by kernel_rfl, ?a5⟩) ?_
  case a5 => (intro W2 hS1; go_simp; with_reducible rfl)
  refine wpX_take 6 (v := ?va6) rfl (by kernel_rfl) (by kernel_rfl) (by kernel_rfl) (by kernel_rfl) (fun _ _ _ h => h) hS0 (Or.inl ⟨by kernel_rfl, ?a6⟩) ?_
  case a6 => (intro W2 hS1; go_simp; with_reducible rfl)
  refine wpX_take 7 (v := ?va7) rfl (by kernel_rfl) (by kernel_rfl) (by kernel_rfl) (by kernel_rfl) (fun _ _ _ h => h) hS0 (Or.inl ⟨by kernel_rfl, ?a7⟩) ?_
  case a7 => (intro W2 hS1; go_simp; with_reducible rfl)
  refine wpX_take 8 (v := ?va8) rfl (by kernel_rfl) (by kernel_rfl) (by kernel_rfl) (by kernel_rfl) (fun _ _ _ h => h) hS0 (Or.inl ⟨by kernel_rfl, ?a8⟩) ?_
  case a8 => (intro W2 hS1; go_simp; with_reducible rfl)
  refine wpX_take 9 (v := ?va9) rfl (by kernel_rfl) (by kernel_rfl) (by kernel_rfl) (by kernel_rfl) (fun _ _ _ h => h) hS0 (Or.inl ⟨by kernel_rfl, ?a9⟩) ?_
  case a9 => (intro W2 hS1; go_simp; with_reducible rfl)
  refine wpX_take 10 (v := ?va10) rfl (by kernel_rfl) (by kernel_rfl) (by kernel_rfl) (by kernel_rfl) (fun _ _ _ h => h) hS0 (Or.inl ⟨by kernel_rfl, ?a10⟩) ?_
  case a10 => (intro W2 hS1; go_simp; with_reducible rfl)
  refine wpX_take 11 (v := ?va11) rfl (by kernel_rfl) (by kernel_rfl) (by kernel_rfl) (by kernel_rfl) (fun _ _ _ h => h) hS0 (Or.inl ⟨by kernel_rfl, ?a11⟩) ?_
  case a11 => (intro W2 hS1; go_simp; with_reducible rfl)
  refine wpX_done (by kernel_rfl) ?_ _
  go_simp
  have HB1 := Lib.hid (HB0.out.drew)
  have HX1 : Hid ((w.alloc (.cells #[.slice none 0 0, .slice none 0 0, .slice none 0 0, .int .i64 0, .int .i64 0, .slice none 0 0] 27)).drew.heap[w.heap.size]? = some (.cells #[.slice none 0 0, .slice none 0 0, .slice none 0 0, .int .i64 0, .int .i64 0, .slice none 0 0] 27 (0, 0)) ∧ (w.alloc (.cells #[.slice none 0 0, .slice none 0 0, .slice none 0 0, .int .i64 0, .int .i64 0, .slice none 0 0] 27)).drew.heap.size = w.heap.size + 1) := Lib.hid HX.out
  have HT1 := Lib.hid (HT0.out.below (Below.refl _ _).drew HT0.out.1)
  have HC1 : Hid (∀ i, i < len → (w.alloc (.cells #[.slice none 0 0, .slice none 0 0, .slice none 0 0, .int .i64 0, .int .i64 0, .slice none 0 0] 27)).drew.cell? ⟨g, off + i, none⟩ = some (.int .u8 ((l.getD i 0 : Nat) : Int))) := Lib.hid HC0.out
  clear HX HT0 HC0 HB0 hS0 hb1 hb2 hb3 hb4 hwn hln hi4
  generalize (w.alloc (.cells #[.slice none 0 0, .slice none 0 0, .slice none 0 0, .int .i64 0, .int .i64 0, .slice none 0 0] 27)).drew = W1 at *
  have hsum := sum_any (w := W1) (a := some ⟨g, off, none⟩) (l := l.take n) (n := n) (cap := cap) (by rw [List.length_take, HLEN.out]; have := HN.out; omega) (by have := HN.out; omega) (fun i hi => ⟨g, off, rfl, by
    have hil : i < n := by rw [List.length_take] at hi; omega
    rw [HC1.out i (by have := HN.out; omega)]
    simp [List.getD_eq_getElem?_getD, hil]⟩)
  have hslt := sumN_lt (l.take n)
  have hse : sealed l = (l.drop n == sum4 (sumN (l.take n))) := by
    unfold sealed
    rw [HLEN.out, decide_eq_true h8, Bool.true_and, show len - 4 = n by have := HN.out; omega]
  obtain ⟨S, hS⟩ : ∃ S, sumN (l.take n) = S := ⟨_, rfl⟩
  rw [hS] at hsum hslt hse
  have HSE := Lib.hid hse
  have HSL := Lib.hid hslt
  clear hS hse hslt
  go_wp2_with fail
  refine hsum.mono ?_
  rintro e w1 ⟨rfl, rfl⟩
  clear hsum
  go_wp2_with fail
  have HDS : Hid (DS w W1 g off len l) := Lib.hid ⟨HB1.out, HX1.out.1, HT1.out, HC1.out⟩
  clear HB1 HX1 HT1 HC1
  go_loopw [29] (fun x wr => ∃ k : Nat, k ≤ 4 ∧ x = .int .i64 k ∧ Hid (∀ j, j < k → l.getD (n + j) 0 = (sum4 S).getD j 0) ∧ Hid (DS w wr g off len l)) (fun x _ => 4 - (intOf x).toNat)
  case atStart => exact ⟨0, by omega, rfl, Lib.hid (fun j hj => by omega), HDS⟩
  case round =>
    obtain ⟨k, hk, rfl, HJ, HWR⟩ := hrel
    by_cases hk4 : k < 4
    · have hki : (k : Int) < 4 := by omega
      have hln : len - n = 4 := by have := HN.out; omega
      have hbyte := sum4_byte S k hk4
      obtain ⟨k8, hk8⟩ : ∃ k8, 8 * k = k8 := ⟨_, rfl⟩
      rw [hk8] at hbyte
      have hw8 : IntKind.i64.wrap (8 * (k : Int)) = (k8 : Int) := by
        rw [IntKind.wrap_i64]
        omega
      have HK8 := Lib.hid hk8
      clear hk8
      have c0 : wr.cell? ⟨g, off + n + k, none⟩ = some (.int .u8 ((l.getD (n + k) 0 : Nat) : Int)) := by
        rw [Nat.add_assoc]
        exact HWR.out.hc (n + k) (by have := HN.out; omega)
      obtain ⟨x, hx⟩ : ∃ x, l.getD (n + k) 0 = x := ⟨_, rfl⟩
      rw [hx] at c0
      obtain ⟨y, hy⟩ : ∃ y, (sum4 S).getD k 0 = y := ⟨_, rfl⟩
      rw [hy] at hbyte
      have hbv : IntKind.u8.wrap ((S : Int) / 2 ^ min k8 32) = (y : Int) := by
        have h1 : min k8 32 = k8 := by have := HK8.out; omega
        have h2 : ((S : Int) / 2 ^ k8) = ((S / 2 ^ k8 : Nat) : Int) := by push_cast; rfl
        rw [h1, h2, hbyte]
        show ((S / 2 ^ k8 : Nat) : Int) % 256 = ((S / 2 ^ k8 % 256 : Nat) : Int)
        omega
      have HXX := Lib.hid hx
      have HYY := Lib.hid hy
      clear hx hbyte hy
      go_wp2_with fail
      refine wp_region_x [] (fun W => W.cell? ⟨g, off + n + k, none⟩ = some (.int .u8 (x : Int))) hmx ?_
      have hS0 : wr.drew.cell? ⟨g, off + n + k, none⟩ = some (.int .u8 (x : Int)) := c0
      refine wpX_take 0 (v := ?vb0) rfl (by kernel_rfl) (by kernel_rfl) (by kernel_rfl) (by kernel_rfl) (fun _ _ _ h => h) hS0 (Or.inl ⟨by kernel_rfl, ?b0⟩) ?_
      case b0 => (intro W2 hS1; go_simp; with_reducible rfl)
      refine wpX_take 1 (v := ?vb1) rfl (by kernel_rfl) (by kernel_rfl) (by kernel_rfl) (by kernel_rfl) (fun _ _ _ h => h) hS0 (Or.inl ⟨by kernel_rfl, ?b1⟩) ?_
      case b1 => (intro W2 hS1; go_simp; with_reducible rfl)
      refine wpX_take 2 (v := ?vb2) rfl (by kernel_rfl) (by kernel_rfl) (by kernel_rfl) (by kernel_rfl) (fun _ _ _ h => h) hS0 (Or.inl ⟨by kernel_rfl, ?b2⟩) ?_
      case b2 => (intro W2 hS1; go_simp; with_reducible rfl)
      refine wpX_take 3 (v := ?vb3) rfl (by kernel_rfl) (by kernel_rfl) (by kernel_rfl) (by kernel_rfl) (fun _ _ _ h => h) hS0 (Or.inl ⟨by kernel_rfl, ?b3⟩) ?_
      case b3 => (intro W2 hS1; go_simp; with_reducible rfl)
      refine wpX_take 4 (v := ?vb4) rfl (by kernel_rfl) (by kernel_rfl) (by kernel_rfl) (by kernel_rfl) (fun _ _ _ h => h) hS0 (Or.inl ⟨by kernel_rfl, ?b4⟩) ?_
      case b4 => (intro W2 hS1; go_simp; with_reducible rfl)
      refine wpX_take 5 (v := ?vb5) rfl (by kernel_rfl) (by kernel_rfl) (by kernel_rfl) (by kernel_rfl) (fun _ _ _ h => h) hS0 (Or.inl ⟨by kernel_rfl, ?b5⟩) ?_
      case b5 => (intro W2 hS1; go_simp; with_reducible rfl)
      refine wpX_take 6 (v := ?vb6) rfl (by kernel_rfl) (by kernel_rfl) (by kernel_rfl) (by kernel_rfl) (fun _ _ _ h => h) hS0 (Or.inl ⟨by kernel_rfl, ?b6⟩) ?_
      case b6 => (intro W2 hS1; go_simp; with_reducible rfl)
      refine wpX_take 7 (v := ?vb7) rfl (by kernel_rfl) (by kernel_rfl) (by kernel_rfl) (by kernel_rfl) (fun _ _ _ h => h) hS0 (Or.inl ⟨by kernel_rfl, ?b7⟩) ?_
      case b7 => (intro W2 hS1; go_simp; with_reducible rfl)
      refine wpX_take 8 (v := ?vb8) rfl (by kernel_rfl) (by kernel_rfl) (by kernel_rfl) (by kernel_rfl) (fun _ _ _ h => h) hS0 (Or.inl ⟨by kernel_rfl, ?b8⟩) ?_
      case b8 => (intro W2 hS1; go_simp; with_reducible rfl)
      refine wpX_take 9 (v := ?vb9) rfl (by kernel_rfl) (by kernel_rfl) (by kernel_rfl) (by kernel_rfl) (fun _ _ _ h => h) hS0 (Or.inl ⟨by kernel_rfl, ?b9⟩) ?_
      case b9 => (intro W2 hS1; go_simp; with_reducible rfl)
      refine wpX_done (by kernel_rfl) ?_ _
      go_simp
      have HW2 := Lib.hid HWR.out.drew
      clear hS0 c0 hbv hw8 HWR
      generalize wr.drew = W3 at *
      by_cases hxy : x = y
      · have hxy' : ((x : Int) != (y : Int)) = false := by rw [bne_eq_false_iff_eq]; omega
        have HXY := Lib.hid hxy
        clear hxy
        go_wp2
        case roundEnd =>
          refine ⟨⟨k + 1, by omega, by go_num, Lib.hid (fun j hj => ?_), HW2⟩, by simp [intOf]; omega⟩
          rcases Nat.lt_or_ge j k with h | h
          · exact HJ.out j h
          · obtain rfl : j = k := by omega
            rw [HXX.out, HYY.out, HXY.out]
      · have hxy' : ((x : Int) != (y : Int)) = true := by rw [bne_iff_ne]; omega
        have HXY := Lib.hid hxy
        clear hxy
        have q0 := cell_blk (k := 0) HW2.out.x rfl
        have q1 := cell_blk (k := 1) HW2.out.x rfl
        have q2 := cell_blk (k := 2) HW2.out.x rfl
        have q3 := cell_blk (k := 3) HW2.out.x rfl
        have q4 := cell_blk (k := 4) HW2.out.x rfl
        have q5 := cell_blk (k := 5) HW2.out.x rfl
        have q0f := froz_blk (k := 0) HW2.out.x
        have q1f := froz_blk (k := 1) HW2.out.x
        have q2f := froz_blk (k := 2) HW2.out.x
        have q3f := froz_blk (k := 3) HW2.out.x
        have q4f := froz_blk (k := 4) HW2.out.x
        have q5f := froz_blk (k := 5) HW2.out.x
        go_wp2
        have e1 := heap_set (j := 0) HW2.out.x (.slice none 0 0)
        have e2 := heap_set (j := 1) e1 (.slice none 0 0)
        have e3 := heap_set (j := 2) e2 (.slice none 0 0)
        have e4 := heap_set (j := 3) e3 (.int .i64 0)
        have e5 := heap_set (j := 4) e4 (.int .i64 0)
        have e6 := heap_set (j := 5) e5 (.slice none 0 0)
        simp only [List.setIfInBounds_toArray, List.set_cons_succ, List.set_cons_zero] at e6
        have hf : sealed l = false := by
          rw [HSE.out, beq_eq_false_iff_ne]
          intro e
          have := congrArg (fun z => z.getD k 0) e
          simp only [List.getD_eq_getElem?_getD, List.getElem?_drop] at this
          rw [← List.getD_eq_getElem?_getD, ← List.getD_eq_getElem?_getD, HXX.out, HYY.out] at this
          exact HXY.out this
        refine end_dec (p := w.heap.size) e6 rfl rfl rfl ⟨(((((HW2.out.bl.setCell (p := ⟨w.heap.size, 0, none⟩) (Nat.le_refl _) _).setCell (p := ⟨w.heap.size, 1, none⟩) (Nat.le_refl _) _).setCell (p := ⟨w.heap.size, 2, none⟩) (Nat.le_refl _) _).setCell (p := ⟨w.heap.size, 3, none⟩) (Nat.le_refl _) _).setCell (p := ⟨w.heap.size, 4, none⟩) (Nat.le_refl _) _).setCell (p := ⟨w.heap.size, 5, none⟩) (Nat.le_refl _) _, ?_⟩
        rw [if_neg (by rw [hf]; decide)]
        rfl
    · obtain rfl : k = 4 := by omega
      have hse : sealed l = true := by
        rw [HSE.out, beq_iff_eq]
        apply List.ext_getElem?
        intro j
        by_cases hj : j < 4
        · have h1 := HJ.out j hj
          have hn := HN.out
          have hl := HLEN.out
          simp only [List.getD_eq_getElem?_getD] at h1
          rw [List.getElem?_drop, List.getElem?_eq_getElem (by omega : n + j < l.length), List.getElem?_eq_getElem (by rw [sum4_len]; exact hj)] at *
          simpa using h1
        · rw [List.getElem?_eq_none (by rw [List.length_drop, HLEN.out]; have := HN.out; omega), List.getElem?_eq_none (by rw [sum4_len]; omega)]
      have HSE2 := Lib.hid hse
      have hBl : Below wr.heap.size wr (wr.alloc (.cells #[.slice (some ⟨g, off, none⟩) n cap] 68)) := (Below.refl _ _).alloc (Nat.le_refl _) _
      have hgr : g < wr.heap.size := Nat.lt_of_lt_of_le hgw HWR.out.bl.size
      have hrr : Rr (wr.alloc (.cells #[.slice (some ⟨g, off, none⟩) n cap] 68)) wr.heap.size (wr.heap.size + 1) (l.take n) := by
        have htl : (l.take n).length = n := by rw [List.length_take, HLEN.out]; have := HN.out; omega
        refine ⟨⟨g, off, cap, by rw [htl]; exact World.alloc_heap_new _ _, by rw [htl]; have := HN.out; omega, by omega, by omega, fun i hi => ?_⟩, fun x hx => HLT.out x (List.mem_of_mem_take hx), by rw [htl]; have := HN.out; omega, by omega, by simp⟩
        have hil : i < n := by omega
        rw [hBl.cell (p := ⟨g, off + i, none⟩) hgr, HWR.out.hc i (by have := HN.out; omega)]
        simp [List.getD_eq_getElem?_getD, hil]
      have hmod := rmod_any hrr (HWR.out.tb.below hBl HWR.out.tb.1)
      obtain ⟨M, hM⟩ : ∃ M, rdMod (l.take n) = M := ⟨_, rfl⟩
      rw [hM] at hmod
      have HM := Lib.hid hM
      have hx3 := (hBl.block w.heap.size (Array.getElem?_eq_some_iff.1 HWR.out.x).1).trans HWR.out.x
      have HX3 := Lib.hid hx3
      have HB3 := Lib.hid (HWR.out.bl.trans (hBl.mono HWR.out.bl.size))
      have hpn : w.heap.size < wr.heap.size := (Array.getElem?_eq_some_iff.1 HWR.out.x).1
      clear hse hBl hgr hrr hM hx3 HSE HJ
      go_wp2_with fail
      generalize hWA : wr.alloc (.cells #[.slice (some ⟨g, off, none⟩) n cap] 68) = WA at *
      have hsa : WA.heap.size = wr.heap.size + 1 := by rw [← hWA]; simp
      have HSA := Lib.hid hsa
      clear hWA
      refine hmod.mono ?_
      rintro e w5 ⟨hk5, hm5⟩
      have hx5 : w5.heap[w.heap.size]? = some (.cells #[.slice none 0 0, .slice none 0 0, .slice none 0 0, .int .i64 0, .int .i64 0, .slice none 0 0] 27 (0, 0)) := (hk5.block w.heap.size (by omega) (by omega) (by omega)).trans HX3.out
      have hb5 : Below w.heap.size w w5 := hk5.to_below HB3.out (by omega) (by omega) (by omega)
      have hs5 : w.heap.size < w5.heap.size := (Array.getElem?_eq_some_iff.1 hx5).1
      cases M with
      | none =>
        obtain rfl := hm5
        have hx6 : (w5.alloc (.cells #[.slice none 0 0, .slice none 0 0, .slice none 0 0, .int .i64 0, .int .i64 0, .slice none 0 0] 27)).heap[w.heap.size]? = some (.cells #[.slice none 0 0, .slice none 0 0, .slice none 0 0, .int .i64 0, .int .i64 0, .slice none 0 0] 27 (0, 0)) := (Below.heap_alloc w5 _ w.heap.size hs5).trans hx5
        have hb6 : Below w.heap.size w (w5.alloc (.cells #[.slice none 0 0, .slice none 0 0, .slice none 0 0, .int .i64 0, .int .i64 0, .slice none 0 0] 27)) := hb5.alloc (by omega) _
        have HX6 := Lib.hid hx6
        have HB6 := Lib.hid hb6
        have HX5 := Lib.hid hx5
        clear hx5 hb5 hmod hk5
        unfold zeroM
        clear hx6 hb6
        go_upto_if 54 with fail
        generalize w5.alloc (.cells #[.slice none 0 0, .slice none 0 0, .slice none 0 0, .int .i64 0, .int .i64 0, .slice none 0 0] 27) = W6 at *
        clear HX5 HX3 HB3 hsa
        have q0 := cell_blk (w := W6) (k := 0) HX6.out rfl
        have qf0 := froz_blk (w := W6) (k := 0) HX6.out
        have q1 := cell_blk (w := W6) (k := 1) HX6.out rfl
        have qf1 := froz_blk (w := W6) (k := 1) HX6.out
        have q2 := cell_blk (w := W6) (k := 2) HX6.out rfl
        have qf2 := froz_blk (w := W6) (k := 2) HX6.out
        have q3 := cell_blk (w := W6) (k := 3) HX6.out rfl
        have qf3 := froz_blk (w := W6) (k := 3) HX6.out
        have q4 := cell_blk (w := W6) (k := 4) HX6.out rfl
        have qf4 := froz_blk (w := W6) (k := 4) HX6.out
        have q5 := cell_blk (w := W6) (k := 5) HX6.out rfl
        have qf5 := froz_blk (w := W6) (k := 5) HX6.out
        go_wp2
        have e1 := heap_set (j := 0) HX6.out (.slice none 0 0)
        have e2 := heap_set (j := 1) e1 (.slice none 0 0)
        have e3 := heap_set (j := 2) e2 (.slice none 0 0)
        have e4 := heap_set (j := 3) e3 (.int .i64 0)
        have e5 := heap_set (j := 4) e4 (.int .i64 0)
        have e6 := heap_set (j := 5) e5 (.slice none 0 0)
        simp only [List.setIfInBounds_toArray, List.set_cons_succ, List.set_cons_zero] at e6
        refine end_dec (p := w.heap.size) e6 rfl rfl rfl ⟨((((((HB6.out.setCell (p := ⟨w.heap.size, 0, none⟩) (Nat.le_refl _) _).setCell (p := ⟨w.heap.size, 1, none⟩) (Nat.le_refl _) _).setCell (p := ⟨w.heap.size, 2, none⟩) (Nat.le_refl _) _).setCell (p := ⟨w.heap.size, 3, none⟩) (Nat.le_refl _) _).setCell (p := ⟨w.heap.size, 4, none⟩) (Nat.le_refl _) _).setCell (p := ⟨w.heap.size, 5, none⟩) (Nat.le_refl _) _), ?_⟩
        rw [if_pos HSE2.out, HLEN.out, show len - 4 = n by have := HN.out; omega, HM.out]
        rfl
      | some mp =>
        obtain ⟨m, rfl, hmp, hom⟩ := hm5
        have hx6 : (w5.alloc (.cells #[.slice m.va m.vars.length m.vcap, .slice m.aa m.arrays.length m.acap, .slice m.ca m.chans.length m.ccap, .int .i64 m.mu, .int .i64 m.co, .slice m.ta m.threads.length m.tcap] 27)).heap[w.heap.size]? = some (.cells #[.slice none 0 0, .slice none 0 0, .slice none 0 0, .int .i64 0, .int .i64 0, .slice none 0 0] 27 (0, 0)) := (Below.heap_alloc w5 _ w.heap.size hs5).trans hx5
        have hy6 : (w5.alloc (.cells #[.slice m.va m.vars.length m.vcap, .slice m.aa m.arrays.length m.acap, .slice m.ca m.chans.length m.ccap, .int .i64 m.mu, .int .i64 m.co, .slice m.ta m.threads.length m.tcap] 27)).heap[w5.heap.size]? = some (.cells #[.slice m.va m.vars.length m.vcap, .slice m.aa m.arrays.length m.acap, .slice m.ca m.chans.length m.ccap, .int .i64 m.mu, .int .i64 m.co, .slice m.ta m.threads.length m.tcap] 27 (0, 0)) := World.alloc_heap_new _ _
        have hb6 : Below w.heap.size w (w5.alloc (.cells #[.slice m.va m.vars.length m.vcap, .slice m.aa m.arrays.length m.acap, .slice m.ca m.chans.length m.ccap, .int .i64 m.mu, .int .i64 m.co, .slice m.ta m.threads.length m.tcap] 27)) := hb5.alloc (by omega) _
        have hom6 := hom.below (W' := (w5.alloc (.cells #[.slice m.va m.vars.length m.vcap, .slice m.aa m.arrays.length m.acap, .slice m.ca m.chans.length m.ccap, .int .i64 m.mu, .int .i64 m.co, .slice m.ta m.threads.length m.tcap] 27))) ((Below.refl _ _).alloc (Nat.le_refl _) _)
        have HX6 := Lib.hid hx6
        have HB6 := Lib.hid hb6
        have HOM := Lib.hid hom6
        have HMP := Lib.hid hmp
        have HX5 := Lib.hid hx5
        clear hx5 hb5 hmod hk5 hom hom6 hmp
        have HY6 := Lib.hid hy6
        simp only [ModM.cells]
        clear hx6 hb6 hy6
        go_upto_if 54 with fail
        generalize w5.alloc (.cells #[.slice m.va m.vars.length m.vcap, .slice m.aa m.arrays.length m.acap, .slice m.ca m.chans.length m.ccap, .int .i64 m.mu, .int .i64 m.co, .slice m.ta m.threads.length m.tcap] 27) = W6 at *
        clear HX5 HX3 HB3 hsa
        have q0 := cell_blk (w := W6) (k := 0) HX6.out rfl
        have qf0 := froz_blk (w := W6) (k := 0) HX6.out
        have q1 := cell_blk (w := W6) (k := 1) HX6.out rfl
        have qf1 := froz_blk (w := W6) (k := 1) HX6.out
        have q2 := cell_blk (w := W6) (k := 2) HX6.out rfl
        have qf2 := froz_blk (w := W6) (k := 2) HX6.out
        have q3 := cell_blk (w := W6) (k := 3) HX6.out rfl
        have qf3 := froz_blk (w := W6) (k := 3) HX6.out
        have q4 := cell_blk (w := W6) (k := 4) HX6.out rfl
        have qf4 := froz_blk (w := W6) (k := 4) HX6.out
        have q5 := cell_blk (w := W6) (k := 5) HX6.out rfl
        have qf5 := froz_blk (w := W6) (k := 5) HX6.out
        have y0 := cell_blk (w := W6) (k := 0) HY6.out rfl
        have yf0 := froz_blk (w := W6) (k := 0) HY6.out
        have y1 := cell_blk (w := W6) (k := 1) HY6.out rfl
        have yf1 := froz_blk (w := W6) (k := 1) HY6.out
        have y2 := cell_blk (w := W6) (k := 2) HY6.out rfl
        have yf2 := froz_blk (w := W6) (k := 2) HY6.out
        have y3 := cell_blk (w := W6) (k := 3) HY6.out rfl
        have yf3 := froz_blk (w := W6) (k := 3) HY6.out
        have y4 := cell_blk (w := W6) (k := 4) HY6.out rfl
        have yf4 := froz_blk (w := W6) (k := 4) HY6.out
        have y5 := cell_blk (w := W6) (k := 5) HY6.out rfl
        have yf5 := froz_blk (w := W6) (k := 5) HY6.out
        go_wp2
        have e1 := heap_set (j := 0) HX6.out (.slice m.va m.vars.length m.vcap)
        have e2 := heap_set (j := 1) e1 (.slice m.aa m.arrays.length m.acap)
        have e3 := heap_set (j := 2) e2 (.slice m.ca m.chans.length m.ccap)
        have e4 := heap_set (j := 3) e3 (.int .i64 m.mu)
        have e5 := heap_set (j := 4) e4 (.int .i64 m.co)
        have e6 := heap_set (j := 5) e5 (.slice m.ta m.threads.length m.tcap)
        simp only [List.setIfInBounds_toArray, List.set_cons_succ, List.set_cons_zero] at e6
        refine end_dec (p := w.heap.size) e6 rfl rfl rfl ⟨((((((HB6.out.setCell (p := ⟨w.heap.size, 0, none⟩) (Nat.le_refl _) _).setCell (p := ⟨w.heap.size, 1, none⟩) (Nat.le_refl _) _).setCell (p := ⟨w.heap.size, 2, none⟩) (Nat.le_refl _) _).setCell (p := ⟨w.heap.size, 3, none⟩) (Nat.le_refl _) _).setCell (p := ⟨w.heap.size, 4, none⟩) (Nat.le_refl _) _).setCell (p := ⟨w.heap.size, 5, none⟩) (Nat.le_refl _) _), ?_⟩
        rw [if_pos HSE2.out, HLEN.out, show len - 4 = n by have := HN.out; omega, HM.out]
        have hsa := HSA.out
        exact ⟨m, rfl, HMP.out, ((((((HOM.out.set (p := w.heap.size) (by omega)).set (p := w.heap.size) (by omega)).set (p := w.heap.size) (by omega)).set (p := w.heap.size) (by omega)).set (p := w.heap.size) (by omega)).set (p := w.heap.size) (by omega)).base (by omega)⟩
end Go.Proofs.YtjbinejaagpleaaDoor
