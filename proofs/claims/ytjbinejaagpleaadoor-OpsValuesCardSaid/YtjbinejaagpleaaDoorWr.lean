/- Bytes are written: a number's. Asked: the writer lies, with its own row of bytes. -/
import Derived.Test.YtjbinejaagpleaaDoorSmall
import Derived.Deep.AppendLies
namespace Go.Proofs.YtjbinejaagpleaaDoor
open Go.RowKit

def u8s (xs : List Nat) : List Value := xs.map fun (x : Nat) => Value.int .u8 (x : Int)
/-- Of what was there nothing is written but the writer's block b and its row. -/
structure WK (w w' : World) (b : Nat) (v v' : Value) : Prop where
  os : w'.os = w.os
  tape : w'.tape = w.tape
  output : w'.output = w.output
  size : w.heap.size ≤ w'.heap.size
  block : ∀ k, k < w.heap.size → k ≠ b → some k ≠ v.ownBlock → w'.heap[k]? = w.heap[k]?
  row : v'.ownBlock = v.ownBlock ∨ ∃ r, v'.ownBlock = some r ∧ w.heap.size ≤ r
theorem WK.refl (w : World) (b : Nat) (v : Value) : WK w w b v v := ⟨rfl, rfl, rfl, Nat.le_refl _, fun _ _ _ _ => rfl, .inl rfl⟩
theorem WK.trans {w w1 w2 : World} {b : Nat} {v v1 v2 : Value} (h : WK w w1 b v v1) (h' : WK w1 w2 b v1 v2) : WK w w2 b v v2 := by
  refine ⟨h'.os.trans h.os, h'.tape.trans h.tape, h'.output.trans h.output, Nat.le_trans h.size h'.size, fun k hk h1 h2 => ?_, ?_⟩
  · refine (h'.block k (Nat.lt_of_lt_of_le hk h.size) h1 (fun e => ?_)).trans (h.block k hk h1 h2)
    rcases h.row with h3 | ⟨r, h3, h4⟩
    · exact h2 (e.trans h3)
    · rw [h3] at e
      have := Option.some.inj e
      omega
  · rcases h'.row with h3 | ⟨r, h3, h4⟩
    · rcases h.row with h5 | ⟨r, h5, h6⟩
      · exact .inl (h3.trans h5)
      · exact .inr ⟨r, h3.trans h5, h6⟩
    · exact .inr ⟨r, h3, Nat.le_trans h.size h4⟩
/-- A writer in block b, which has written xs. -/
structure Wr (w : World) (b base : Nat) (v : Value) (xs : List Nat) : Prop where
  bx : Boxed w b 56 v
  ow : w.ownsRow base 5 1 v xs.length (u8s xs)
  bs : base ≤ w.heap.size
theorem Wr.put1 {W w1 : World} {b base g cap x : Nat} {v : Value} {xs : List Nat} {o : Obj} (h : Wr W b base v xs) (hown : w1.ownsRow base 5 1 (.slice (some ⟨g, 0, none⟩) (xs.length + 1) cap) (xs.length + 1) (u8s xs ++ [.int .u8 (x : Int)]))
    (hgrow : (W.alloc o).grownBy w1 v.ownBlock) (hl : v.ownBlock = some g ∨ g = W.heap.size + 1) :
    Boxed w1 b 56 v ∧ Wr (w1.setCell ⟨b, 0, none⟩ (.slice (some ⟨g, 0, none⟩) (xs.length + 1) cap)) b base (.slice (some ⟨g, 0, none⟩) (xs.length + 1) cap) (xs ++ [x]) ∧
      WK W (w1.setCell ⟨b, 0, none⟩ (.slice (some ⟨g, 0, none⟩) (xs.length + 1) cap)) b v (.slice (some ⟨g, 0, none⟩) (xs.length + 1) cap) := by
  have hne := h.bx.not_row (by decide) h.ow
  have hv1 : Boxed w1 b 56 v := (h.bx.alloc o).kept hgrow hne
  have hne2 := hv1.not_row (by decide) hown
  have hg := grownBy_setCell' w1 b (.slice (some ⟨g, 0, none⟩) (xs.length + 1) cap)
  have hsz := hgrow.size
  simp at hsz
  refine ⟨hv1, ⟨hv1.set _, ?_, ?_⟩, ⟨hgrow.os, hgrow.tape, hgrow.output, ?_, fun k hk h1 h2 => ?_, ?_⟩⟩
  · have h2 := hown.kept hg (.inr hne2.symm)
    simpa [u8s] using h2
  · have := h.bs
    have := hg.size
    omega
  · have := hg.size
    omega
  · exact (Below.heap_setCell w1 ⟨b, 0, none⟩ _ k h1).trans ((hgrow.block k (by simp; omega) h2).trans (Below.heap_alloc W o k hk))
  · rcases hl with hl | hl
    · exact .inl hl.symm
    · exact .inr ⟨g, rfl, by omega⟩

theorem numB_len : ∀ (f n : Nat), n < 128 ^ (f + 1) → (numB n).length ≤ f + 1 := by
  intro f
  induction f with
  | zero => intro n h; rw [numB_lt (by omega)]; simp
  | succ f ih =>
    intro n h
    by_cases hn : n < 128
    · rw [numB_lt hn]; simp
    · rw [numB_ge hn]
      have := ih (n / 128) (by rw [Nat.pow_succ] at h; omega)
      simp
      omega
theorem byte_or (m : Nat) : bits .or .u8 ((m : Int) % 256) 128 = ((m % 128 + 128 : Nat) : Int) := by
  have h1 : ∀ x : Fin 256, bits .or .u8 ((x.val : Nat) : Int) 128 = ((x.val % 128 + 128 : Nat) : Int) := by decide +kernel
  have h2 := h1 ⟨m % 256, Nat.mod_lt _ (by decide)⟩
  simp only at h2
  rw [show ((m : Int) % 256) = ((m % 256 : Nat) : Int) by omega, h2]
  congr 2
  omega

theorem one_cell (w : World) (x : Value) (t : Nat) (j : Nat) (u : Value) : [x][j]? = some u → (w.alloc (Obj.cells #[x] t)).cell? ((⟨w.heap.size, 0, none⟩ : Addr).add j) = some u := by simp [Addr.add_lit, World.cell?_alloc_new]
theorem info5 : (Tryd.prog.info? 5).map (fun i => (i.zero, i.size, i.bytes)) = some (some (.int .u8 0), 1, 1) := by kernel_rfl
set_option maxRecDepth 100000 in
set_option maxHeartbeats 8000000 in
theorem number_any {w : World} {b base : Nat} {v : Value} {xs : List Nat} (hW : Wr w b base v xs) (n : Nat) (hn : n < 18446744073709551616) (hx : xs.length ≤ 1000000000000) :
    Calls Tryd.prog 51 #[.pointer (some ⟨b, 0, none⟩), .int .u64 (n : Int)] w fun e w' => e = .returned (.tuple #[]) ∧ ∃ v', Wr w' b base v' (xs ++ numB n) ∧ WK w w' b v v' := by
  obtain ⟨i0, hi0, hz0, hz1, hz2⟩ := info_parts info5
  obtain ⟨Z, hZ⟩ : ∃ Z, xs ++ numB n = Z := ⟨_, rfl⟩
  have HZ := Lib.hid hZ
  have HW := Lib.hid hW
  have HN := Lib.hid hn
  rw [hZ]
  clear hZ hW hn
  go_enter Tryd.func51, Tryd.ntmps51
  go_wp2_with fail
  go_loopw [1] (fun x wr => ∃ (m : Nat) (ys : List Nat) (u : Value), x = .int .u64 m ∧ Hid (m < 18446744073709551616) ∧ Hid (ys ++ numB m = Z) ∧ Hid (ys.length + (numB m).length ≤ 1000000000100) ∧ Hid (Wr wr b base u ys) ∧ Hid (WK w wr b v u)) (fun x _ => (intOf x).toNat)
  case atStart =>
    refine ⟨n, xs, v, rfl, HN, HZ, Lib.hid ?_, HW, Lib.hid (WK.refl _ _ _)⟩
    have := numB_len 9 n (Nat.lt_of_lt_of_le HN.out (by decide))
    omega
  case round =>
    obtain ⟨m, ys, u, rfl, HM, HY, HL, HWr, HK⟩ := hrel
    have hbx := HWr.out.bx
    have c0 := hbx.cell
    have f0 := hbx.frozen
    have hown := HWr.out.ow
    have hbs := HWr.out.bs
    by_cases hm : m < 128
    · have hmi : ¬ (128 : Int) ≤ (m : Int) := by omega
      have hl1 : ys.length + 1 ≤ 1000000000100 := by
        have := HL.out
        rw [numB_lt hm] at this
        exact this
      go_wp2_with (at_builtin; refine wpList_append_lies _ rfl (.tmp 27) (.tmp 30) 28 rfl base 5 i0 (.int .u8 0) 1 1 Tryd.underlying28 hi0 hz0 hz1 hz2 rfl (by decide) u ys.length (u8s ys) rfl (hown.alloc _) ⟨wr.heap.size, 0, none⟩ 1 1 [.int .u8 (m : Int)] rfl rfl ?c2 ?c3 (by decide) ?c4 ?c5 ?c6 (wr.heap.size + 1) (by simp) ?_)
      case c3 => simp [Value.oneCell']
      case c4 => unfold maxLen; omega
      case c5 => omega
      case c6 => exact Nat.le_trans hbs (Nat.le_succ _)
      intro g cap w1 hown1 hgrow hlies _
      obtain ⟨d1, d2, d3⟩ := HWr.out.put1 hown1 hgrow hlies
      have e0 := d1.cell
      have e1 := d1.frozen
      have HD2 := Lib.hid d2
      have HD3 := Lib.hid d3
      clear d2 d3 hown1 hgrow hlies hown d1
      go_wp2
      go_end0
      have hz : ys ++ [m] = Z := by rw [← HY.out, numB_lt hm]
      exact ⟨rfl, _, hz ▸ HD2.out, HK.out.trans HD3.out⟩
    · have hmi : (128 : Int) ≤ (m : Int) := by omega
      have hl1 : ys.length + 1 + (numB (m / 128)).length ≤ 1000000000100 := by
        have := HL.out
        rw [numB_ge hm] at this
        simp at this
        omega
      have hown' := hown.alloc (Obj.cells #[Value.int .u8 (bits .or .u8 ((m : Int) % 256) 128)] 5)
      have HU : Hid (∃ z, z = u) := Lib.hid ⟨u, rfl⟩
      go_wp2_with (at_builtin; refine wpList_append_lies _ rfl (.tmp 11) (.tmp 15) 28 rfl base 5 i0 (.int .u8 0) 1 1 Tryd.underlying28 hi0 hz0 hz1 hz2 rfl (by decide) _ ys.length (u8s ys) rfl hown' ⟨wr.heap.size, 0, none⟩ 1 1 [.int .u8 (bits .or .u8 ((m : Int) % 256) 128)] rfl rfl ?k2 ?k3 (by decide) ?k4 ?k5 ?k6 (wr.heap.size + 1) (by simp) ?_)
      case k3 => simp [Value.oneCell']
      case k4 => unfold maxLen; omega
      case k5 => omega
      case k6 => simp; omega
      case k2 => exact one_cell _ _ _
      intro g cap w1 hown1 hgrow hlies _
      rw [byte_or] at hown1
      obtain ⟨d1, d2, d3⟩ := HWr.out.put1 hown1 hgrow hlies
      have e0 := d1.cell
      have e1 := d1.frozen
      have HD2 := Lib.hid d2
      have HD3 := Lib.hid d3
      clear d2 d3 hown1 hgrow hlies hown hown' HU d1
      go_wp2
      case roundEnd =>
        refine ⟨⟨m / 128, ys ++ [m % 128 + 128], _, by simp, Lib.hid ?_, Lib.hid ?_, Lib.hid ?_, HD2, Lib.hid (HK.out.trans HD3.out)⟩, ?_⟩
        · exact Nat.lt_of_le_of_lt (Nat.div_le_self _ _) HM.out
        · rw [← HY.out, numB_ge hm]; simp
        · simp; omega
        · show ((m : Int) / 128).toNat < (m : Int).toNat
          omega
theorem count_any {w : World} {b base : Nat} {v : Value} {xs : List Nat} (hW : Wr w b base v xs) (n : Nat) (hn : n < 9223372036854775808) (hx : xs.length ≤ 1000000000000) :
    Calls Tryd.prog 22 #[.pointer (some ⟨b, 0, none⟩), .int .i64 (n : Int)] w fun e w' => e = .returned (.tuple #[]) ∧ ∃ v', Wr w' b base v' (xs ++ numB n) ∧ WK w w' b v v' := by
  have hc := number_any hW n (by omega) hx
  have hmod : (n : Int) % 18446744073709551616 = (n : Int) := by omega
  go_enter Tryd.func22, Tryd.ntmps22
  go_wp2_with fail
  refine hc.mono ?_
  rintro e w1 ⟨rfl, hpost⟩
  have HP := Lib.hid hpost
  clear hpost
  go_wp2
  go_end0
  exact ⟨rfl, HP.out⟩
theorem signed_any {w : World} {b base : Nat} {v : Value} {xs : List Nat} (hW : Wr w b base v xs) (z : Int) (hz0 : -4611686018427387904 ≤ z) (hz1 : z < 4611686018427387904) (hx : xs.length ≤ 1000000000000) :
    Calls Tryd.prog 20 #[.pointer (some ⟨b, 0, none⟩), .int .i64 z] w fun e w' => e = .returned (.tuple #[]) ∧ ∃ v', Wr w' b base v' (xs ++ sgnB z) ∧ WK w w' b v v' := by
  have hs : sgnN z < 18446744073709551616 := by unfold sgnN; split <;> omega
  have hc := number_any hW (sgnN z) hs hx
  have HC := Lib.hid hc
  clear hc
  by_cases hz : z < 0
  · have hr : ((sgnN z : Nat) : Int) = -2 * z - 1 := by unfold sgnN; rw [if_pos hz]; omega
    go_enter Tryd.func20, Tryd.ntmps20
    go_wp2_with fail
    have he : IntKind.u64.wrap (wrap64 (wrap64 (-2 * z) - 1)) = ((sgnN z : Nat) : Int) := by
      rw [hr, show wrap64 (wrap64 (-2 * z) - 1) = -2 * z - 1 by unfold wrap64; omega]
      show (-2 * z - 1) % 18446744073709551616 = _
      omega
    rw [he]
    refine HC.out.mono ?_
    rintro e w1 ⟨rfl, hpost⟩
    have HP := Lib.hid hpost
    clear hpost
    go_wp2
    first | go_end0 | refine bodyPost_ret (results_none rfl _ _ _) rfl ?_
    exact ⟨rfl, HP.out⟩
  · have hr : ((sgnN z : Nat) : Int) = 2 * z := by unfold sgnN; rw [if_neg hz]; omega
    go_enter Tryd.func20, Tryd.ntmps20
    go_wp2_with fail
    rw [← hr]
    refine HC.out.mono ?_
    rintro e w1 ⟨rfl, hpost⟩
    have HP := Lib.hid hpost
    clear hpost
    go_wp2
    go_end0
    exact ⟨rfl, HP.out⟩
end Go.Proofs.YtjbinejaagpleaaDoor
