/- A clock's text, by the program. Asked: the parts are int64s, and the table of powers of ten is laid. -/
import Derived.Test.YtnalpladieoegaaDoorShelf
import Derived.Test.YtnalpladieoegaaDoorFoldC2
import Derived.Deep.AppendLies
import Derived.Lib.ItoaLen
import Derived.Lib.LaidTab
import Derived.WalkLawsBesides
namespace Go.Proofs.YtnalpladieoegaaDoor
open Go.RowKit Go.Shelf
attribute [local go_sem] Oper.semAt_some

/-- The eight parts are int64s. -/
def Fit (c : Ck) : Prop := ∀ i, i < 8 → -9223372036854775808 ≤ c i ∧ c i ≤ 9223372036854775807
/-- The table of powers of ten lies as laid. -/
def Tab (w : World) : Prop := Lib.TabIs Tryd.prog w "internal/strconv.uint64pow10" .u64 Lib.pow10Tab
theorem gPow : Tryd.prog.globalNamed "internal/strconv.uint64pow10" = some 0 := by kernel_rfl
theorem Tab.below {B : Nat} {w w' : World} (h : Tab w) (hb : Below B w w') (h0 : 0 < B) : Tab w' := var?_below hb gPow h0 h
theorem below_grown {w w' : World} (h : Below w.heap.size w w') : w.grownBy w' none := ⟨h.os, h.tape, h.output, h.size, fun k hk _ => h.block k hk⟩
theorem ownsRow_blw {w w' : World} {base : Nat} {e : TypeId} {size : Nat} {v : Value} {n : Nat} {xs : List Value} (h : w.ownsRow base e size v n xs) (hb : Below w.heap.size w w') : w'.ownsRow base e size v n xs :=
  h.kept (below_grown hb) (by cases hv : v.ownBlock <;> simp)
/-- A number's numeral. -/
def sw (n : Int) : ByteArray := ⟨(Lib.itoa n).toArray⟩

theorem grow_below (w : World) (k : Nat) (os : Array Obj) : Below w.heap.size w (Sort.grow (w.drewN k) os) :=
  ⟨rfl, rfl, rfl, by simp [Sort.grow, World.drewN], fun i hi => by
    show (w.heap ++ os)[i]? = _
    rw [Array.getElem?_append_left hi]⟩

theorem fi_any (n : Int) (h0 : -9223372036854775808 ≤ n) (h1 : n ≤ 9223372036854775807) (w : World) (ht : Tab w) :
    Calls Tryd.prog 45 #[.int .i64 n, .int .i64 10] w fun e w' => e = .returned (.string (sw n)) ∧ Below w.heap.size w w' :=
  (Tryd.strconv_FormatInt_10 n h0 h1 w ht).mono fun _ _ ⟨he, k, os, hw⟩ => ⟨he, by rw [hw]; exact grow_below w k os⟩

/-- How many parts are told when pre has come. -/
def manyP (c : Ck) (pre : List (Fin 8)) : Nat := pre.foldl (fun m i => if c i.val = 0 then m else i.val + 1) 1
theorem manyP_snoc (c : Ck) (pre : List (Fin 8)) (x : Fin 8) : manyP c (pre ++ [x]) = if c x.val = 0 then manyP c pre else x.val + 1 := by simp [manyP]
theorem manyP_le (c : Ck) (pre : List (Fin 8)) : 1 ≤ manyP c pre ∧ manyP c pre ≤ 8 := by
  unfold manyP
  have : ∀ m, 1 ≤ m → m ≤ 8 → 1 ≤ pre.foldl (fun m (i : Fin 8) => if c i.val = 0 then m else i.val + 1) m ∧ pre.foldl (fun m (i : Fin 8) => if c i.val = 0 then m else i.val + 1) m ≤ 8 := by
    induction pre with
    | nil => intro m h1 h2; exact ⟨h1, h2⟩
    | cons x pre ih =>
      intro m h1 h2
      simp only [List.foldl_cons]
      split
      · exact ih m h1 h2
      · exact ih _ (by omega) (by have := x.isLt; omega)
  exact this 1 (by omega) (by omega)
def many (c : Ck) : Nat := manyP c (List.finRange 8)
def wds (c : Ck) (pre : List (Fin 8)) : List Value := pre.map fun i => .string (sw (c i.val))
theorem wds_snoc (c : Ck) (pre : List (Fin 8)) (x : Fin 8) : wds c (pre ++ [x]) = wds c pre ++ [.string (sw (c x.val))] := by simp [wds]
/-- A clock's text. -/
def txt (c : Ck) : ByteArray := ⟨(Lib.join ((List.range (many c)).map fun i => Lib.itoa (c i)) [32]).toArray⟩
theorem joinTail_le (r : List (List UInt8)) (h : ∀ x ∈ r, x.length ≤ 21) : (Lib.joinTail [32] r).length ≤ 22 * r.length := by
  induction r with
  | nil => simp [Lib.joinTail]
  | cons x r ih =>
    have h1 := h x (by simp)
    have h2 := ih (fun y hy => h y (by simp [hy]))
    simp only [Lib.joinTail, List.map_cons, List.flatten_cons, List.length_append, List.length_cons, List.length_nil] at h2 ⊢
    omega
theorem join_le (r : List (List UInt8)) (h : ∀ x ∈ r, x.length ≤ 21) : (Lib.join r [32]).length ≤ 22 * r.length := by
  cases r with
  | nil => simp [Lib.join_nil]
  | cons x r =>
    have h1 := h x (by simp)
    have h2 := joinTail_le r (fun y hy => h y (by simp [hy]))
    rw [Lib.join_cons, List.length_append, List.length_cons]
    omega
theorem wds_at (c : Ck) {j : Nat} (h : j < 8) : (wds c (List.finRange 8))[j]? = some (.string (sw (c j))) := by
  rcases lt8 h with rfl | rfl | rfl | rfl | rfl | rfl | rfl | rfl <;> rfl

theorem joinW (c : Ck) (hfit : Fit c) (W : World) (B g cap : Nat) (hown : W.ownsRow B 9 1 (.slice (some ⟨g, 0, none⟩) 8 cap) 8 (wds c (List.finRange 8))) (hcap : 8 ≤ cap) :
    Calls Tryd.prog 46 #[.slice (some ⟨g, 0, none⟩) (manyP c (List.finRange 8)) cap, .string ⟨#[32]⟩] W fun e w' => e = .returned (.string (txt c)) ∧ Below W.heap.size W w' := by
  obtain ⟨ml, mh⟩ := manyP_le c (List.finRange 8)
  have hlen : ((List.range (many c)).map fun i => sw (c i)).length = manyP c (List.finRange 8) := by rw [List.length_map, List.length_range]; rfl
  have hg := (hown.lt g rfl).2
  have hx : ((List.range (many c)).map fun i => sw (c i)).map (·.data.toList) = (List.range (many c)).map fun i => Lib.itoa (c i) := by
    rw [List.map_map]
    exact List.map_congr_left fun i _ => rfl
  have hj := Tryd.strings_Join g 0 cap ((List.range (many c)).map fun i => sw (c i)) ⟨#[32]⟩ W (fun j x hjx => by
      have hj8 : j < many c := by
        have := (List.getElem?_eq_some_iff.1 hjx).1
        rw [hlen] at this
        exact this
      have hj8' : j < 8 := Nat.lt_of_lt_of_le hj8 mh
      have hc := hown.cellAt j (by omega)
      rw [wds_at c hj8'] at hc
      rw [Nat.zero_add, hc]
      rw [List.getElem?_map, List.getElem?_range hj8] at hjx
      simp only [Option.map_some, Option.some.injEq] at hjx
      rw [hjx]) hg (by rw [hlen]; omega) (by rw [hlen]; omega) (by
      rw [hx]
      have := join_le ((List.range (many c)).map fun i => Lib.itoa (c i)) (fun x hx => by
        obtain ⟨i, hi, rfl⟩ := List.mem_map.1 hx
        have hi' : i < 8 := Nat.lt_of_lt_of_le (List.mem_range.1 hi) mh
        exact Lib.itoa_length_le _ (hfit i hi').1 (hfit i hi').2)
      rw [List.length_map, List.length_range] at this
      have hm : many c ≤ 8 := mh
      exact Nat.le_trans this (by omega))
  rw [hlen, hx] at hj
  exact hj
theorem info9 : (Tryd.prog.info? 9).map (fun i => (i.zero, i.size, i.bytes)) = some (some (.string ⟨#[]⟩), 1, 16) := by kernel_rfl

set_option maxRecDepth 100000 in
set_option maxHeartbeats 4000000 in
theorem text_in (n : Nat) (hn : 3 ≤ n) (c : Ck) (hfit : Fit c) (w : World) (ht : Tab w) (h0 : 0 < w.heap.size) :
    CallsIn Fence.wide n Tryd.prog 16 #[.agg (cl c)] w fun e W' => e = .returned (.string (txt c)) ∧ Below w.heap.size w W' := by
  have h1 : 1 ≤ n := by omega
  have hro : Fence.wide.round = none := rfl
  have h16 : Fence.wide.fn 16 := trivial
  have h44 : Fence.wide.fn 44 := trivial
  have h62 : Fence.wide.fn 62 := trivial
  have hmx : Tryd.prog.follows .mixedOrders = true := by kernel_rfl
  obtain ⟨i0, hi, hz0, hz1, hz2⟩ := info_parts info9
  refine callsIn_of_wp_marks Tryd.func16 rfl h16 ?_ hro
  simp only [Tryd.ntmps16, List.size_toArray, List.length_cons, List.length_nil, Nat.reduceAdd, Nat.reduceSub, Array.replicate_succ, Array.replicate_zero, List.push_toArray, List.append_toArray, List.nil_append, List.cons_append]
  gi_wp2_with (gi_at_call 44; refine (parts_in Fence.wide (n - 1) h44 hro _ _).mono ?_; rintro e w' ⟨rfl, rfl⟩)
  obtain ⟨W0, hW0⟩ : ∃ W0, (((w.alloc (.cells (cl c) 23)).alloc (.cells #[.int .i64 1] 3)).alloc (.cells #[.slice none 0 0] 69)).alloc (.cells (cl c) 68) = W0 := ⟨_, rfl⟩
  have hsz : W0.heap.size = w.heap.size + 4 := by rw [← hW0]; simp
  have hmy : Boxed W0 (w.heap.size + 1) 3 (.int .i64 1) := by
    have := ((Boxed.new (w.alloc (.cells (cl c) 23)) 3 (.int .i64 1)).alloc (.cells #[.slice none 0 0] 69)).alloc (.cells (cl c) 68)
    rw [hW0] at this; simpa only [World.size_alloc] using this
  have hwd : Boxed W0 (w.heap.size + 1 + 1) 69 (.slice none 0 0) := by
    have := (Boxed.new ((w.alloc (.cells (cl c) 23)).alloc (.cells #[.int .i64 1] 3)) 69 (.slice none 0 0)).alloc (.cells (cl c) 68)
    rw [hW0] at this; simpa only [World.size_alloc] using this
  have hblk : Blk W0 (w.heap.size + 1 + 1 + 1) 68 c := by
    have := Blk.new (((w.alloc (.cells (cl c) 23)).alloc (.cells #[.int .i64 1] 3)).alloc (.cells #[.slice none 0 0] 69)) 68 c
    rw [hW0] at this; simpa only [World.size_alloc] using this
  have hB0 : Below w.heap.size w W0 := by
    rw [← hW0]
    exact ((((Below.refl _ w).alloc (Nat.le_refl _) _).alloc (by simp) _).alloc (by simp; omega) _).alloc (by simp; omega) _
  rw [hW0]
  clear hW0
  refine wpIn_rangeFunc_ownF hro h1 (gf := 62) (lb := #[.pointer (some ⟨w.heap.size + 1 + 1 + 1, 0, none⟩)]) rfl h62 (enters_of Tryd.func62 (by kernel_rfl) rfl)
    (parts_stops Fence.wide (n - 1) h62 hro (by omega) (w.heap.size + 1 + 1 + 1) 68 c _ hblk) (fun _ _ => trivial) (fun _ _ _ _ _ _ _ _ => trivial) (Below.refl _ _) (fun _ => rfl)
    (fun pre W => ((∃ v, Boxed W (w.heap.size + 1 + 1) 69 v ∧ W.ownsRow w.heap.size 9 1 v pre.length (wds c pre) ∧ True) ∧ Boxed W (w.heap.size + 1) 3 (.int .i64 (manyP c pre : Int))) ∧ Below w.heap.size w W)
    (fun _ _ _ => False)
    (OwnFrom.and (OwnFrom.and (Own.from (holdsRow_own w.heap.size (w.heap.size + 1 + 1) 69 9 1 (fun pre : List (Fin 8) => pre.length) (fun pre => wds c pre) (fun _ _ => True)) _)
      (Own.from (boxed_own (w.heap.size + 1) 3 (fun pre => .int .i64 (manyP c pre : Int))) _)) (ownFrom_below (Nat.le_refl _) (by omega)))
    (fun _ _ _ _ _ hs _ _ => hs)
    ⟨⟨⟨_, hwd, World.ownsRow_nil _ _ _ _, trivial⟩, hmy⟩, hB0⟩
    (fun x => { tmps := #[.agg (cl c), .pointer (some ⟨w.heap.size, 0, none⟩), .string ⟨#[]⟩, .pointer (some ⟨w.heap.size + 1, 0, none⟩), .pointer (some ⟨w.heap.size + 1 + 1, 0, none⟩), .int .i64 (x.val : Int), .int .i64 (c x.val), .agg (cl c), .func (.func 62) #[] #[.pointer (some ⟨w.heap.size + 1 + 1 + 1, 0, none⟩)], .int .i64 (x.val : Int), .int .i64 (c x.val), undef, undef, undef, undef, undef, undef, undef, undef, undef, undef, undef, undef, undef], defers := [] }) ?assign ?body ?done ?stop
  case assign =>
    intro l x W K hK
    gi_wp2
    exact hK
  case body =>
    rintro l pre x W ⟨⟨⟨v, hbx, hown, _⟩, hmy⟩, hB⟩ hlen
    obtain ⟨b0, b1⟩ := hfit x.val x.isLt
    have HB : Hid (-9223372036854775808 ≤ c x.val ∧ c x.val ≤ 9223372036854775807) := ⟨b0, b1⟩
    clear b0 b1
    have hlt := x.isLt
    gi_wp2
    refine wpIn_region_round [5] (fun W1 => Boxed W1 (w.heap.size + 1 + 1) 69 v) hmx (by kernel_rfl) (fun h => by obtain ⟨_, _, h⟩ := h; exact h) ?_
    refine wpX_take 0 (v := ?v0) rfl (by kernel_rfl) (by kernel_rfl) (by kernel_rfl) (by kernel_rfl) (fun _ _ _ h => h) hbx (Or.inl ⟨by rfl, ?h0⟩) ?_
    case h0 =>
      intro W1 hS1
      have s1 := hS1.cell
      go_simp
      with_reducible rfl
    refine wpX_take 1 (v := ?v1) rfl (by kernel_rfl) (by kernel_rfl) (by kernel_rfl) (by kernel_rfl) (fun _ _ _ h => h) hbx (Or.inl ⟨by rfl, ?h1⟩) ?_
    case h1 => (intro W1 hS1; go_simp; with_reducible rfl)
    refine wpX_one 2 (by kernel_rfl) rfl (fun K hK => ?_)
    go_simp
    refine (fi_any (c x.val) HB.out.1 HB.out.2 _ ((ht.below hB h0).below (Below.refl W.heap.size W).drew (by have := hB.size; omega))).mono ?_
    rintro e w' ⟨rfl, hbw⟩
    have l1 := hbx.lt
    have l2 := hmy.lt
    have hbx' : Boxed w' (w.heap.size + 1 + 1) 69 v := (hbw.block _ l1).trans hbx
    have hmy' : Boxed w' (w.heap.size + 1) 3 (.int .i64 (manyP c pre : Int)) := (hbw.block _ l2).trans hmy
    have hown' := ownsRow_blw hown.drew hbw
    have hB' : Below w.heap.size w w' := hB.drew.trans (hbw.mono hB.size)
    have hkW : KeepsOthers W w' := (KeepsOthers.drew W).trans (keeps_of_below hbw)
    clear hbw hbx hmy hown
    refine hK _ _ (fun _ => hbx') ?_
    clear hK K
    refine wpX_one 3 (by kernel_rfl) rfl (fun K hK => ?_)
    go_simp
    refine hK _ _ (fun _ => hbx'.alloc _) ?_
    clear hK K
    refine wpX_one 4 (by kernel_rfl) rfl (fun K hK => ?_)
    have hsz' := hB'.size
    refine step_append_lies _ rfl (.tmp 11) (.tmp 14) 69 rfl w.heap.size 9 i0 (.string ⟨#[]⟩) 1 16 Tryd.underlying69 hi hz0 hz1 hz2 rfl (by decide) v pre.length (wds c pre) rfl (hown'.alloc _)
      ⟨w'.heap.size, 0, none⟩ 1 1 [.string (sw (c x.val))] rfl rfl (cell_one_new _ _ _) (by simp [Value.oneCell']) (by decide) (by unfold maxLen; omega) (by omega) (by simp; omega) (w'.heap.size + 1) (by simp) ?_
    intro g cap w2 hown2 hgrow hlies hglt
    have l3 := hbx'.lt
    have l4 := hmy'.lt
    have hmne : some (w.heap.size + 1) ≠ v.ownBlock := hmy'.not_row (by decide) hown'
    obtain ⟨hv1, hv2, hr2, hk2, hb2⟩ := hbx'.appended (by decide) hown' hsz' (by omega) hown2 hgrow
    have hmy2 : Boxed w2 (w.heap.size + 1) 3 (.int .i64 (manyP c pre : Int)) := (hmy'.alloc _).kept hgrow hmne
    have hmy3 := hmy2.other (B' := w.heap.size + 1 + 1) (by omega) (.slice (some ⟨g, 0, none⟩) (pre.length + 1) cap)
    have hv1c := hv1.cell
    have hv1f := hv1.frozen
    have hB3 := hB'.trans hb2
    have hk3 := hkW.trans hk2
    clear hgrow hown2 hown' hbx' hmy' hmy2 hB' hb2 hk2 hkW hmne
    refine hK _ _ (fun _ => hv1) ?_
    clear hK K
    refine wpX_one 5 (by kernel_rfl) rfl (fun K hK => ?_)
    go_simp
    refine hK _ _ (fun h => by cases h) ?_
    clear hK K
    refine wpX_done (by kernel_rfl) ?_ _
    clear hv1c hv1f hv1
    generalize w2.setCell ⟨w.heap.size + 1 + 1, 0, none⟩ (.slice (some ⟨g, 0, none⟩) (pre.length + 1) cap) = W3 at *
    have m1 := hmy3.cell
    have m2 := hmy3.frozen
    by_cases hz : c x.val = 0
    · have hzb : (c x.val != 0) = false := by rw [hz]; rfl
      have HP : Hid (manyP c (pre ++ [x]) = manyP c pre) := by rw [manyP_snoc, if_pos hz]; exact rfl
      clear hz
      gi_wp2
      exact ⟨hk3, trivial, ⟨⟨_, hv2, by rw [List.length_append, wds_snoc]; exact hr2, trivial⟩, by rw [HP.out]; exact hmy3⟩, hB3⟩
    · have hzb : (c x.val != 0) = true := by simpa using hz
      have HP : Hid (manyP c (pre ++ [x]) = x.val + 1) := by rw [manyP_snoc, if_neg hz]; exact rfl
      clear hz
      gi_wp2
      refine ⟨hk3.trans (KeepsOthers.setCell _ _ _), trivial, ⟨⟨_, hv2.other (by omega) _, ?_, trivial⟩, ?_⟩, hB3.setCell (p := ⟨w.heap.size + 1, 0, none⟩) (by simp) _⟩
      · rw [List.length_append, wds_snoc]
        exact hr2.kept (grownBy_setCell' _ _ _) (.inr (hmy3.not_row (by decide) hr2).symm)
      · rw [HP.out]
        have := hmy3.set (.int .i64 ((x.val : Int) + 1))
        exact this
  case done =>
    rintro D ys W hD rfl ⟨⟨⟨v, hbx, hown, _⟩, hmy⟩, hB⟩ hK
    obtain ⟨g, cap, rfl⟩ := ownsRow_succ (k := 7) hown
    have b1 := hbx.cell
    have b2 := hmy.cell
    obtain ⟨ml, mh⟩ := manyP_le c (List.finRange 8)
    have hcap : 8 ≤ cap := by
      rcases hown.2 with ⟨h, _⟩ | ⟨g', cap', cur, hv, _, _, hle, _⟩
      · cases h
      · cases hv; exact hle
    have hcapm : cap ≤ 9223372036854775807 := by
      rcases hown.2 with ⟨h, _⟩ | ⟨g', cap', cur, hv, _, _, _, hle, _⟩
      · cases h
      · cases hv; exact hle
    gi_wp2_with fail
    refine ⟨trivial, ?_⟩
    refine (callsIn_wide.2 (joinW c hfit W w.heap.size g cap hown hcap)).mono ?_
    rintro e w2 ⟨rfl, hb2⟩
    have hK2 : w2.heap[D]? = some (.deferred (some [])) := (hb2.block D (Array.getElem?_eq_some_iff.1 hK).1).trans hK
    gi_wp2
    refine ⟨by simp, .inl ⟨_, _, rfl, run_takeDeferred hK2, ?_⟩⟩
    exact ⟨_, results_tmp rfl _ _ _, rfl, (hB.trans (hb2.mono hB.size)).trans (belowK_b (w := w) (Nat.le_refl _) w2 D _ _ (by omega) hK2 rfl rfl)⟩
  case stop =>
    rintro D c pre W _ _ h _
    exact h.elim

theorem text_any (c : Ck) (hfit : Fit c) (w : World) (ht : Tab w) (h0 : 0 < w.heap.size) : Calls Tryd.prog 16 #[.agg (cl c)] w fun e w' => e = .returned (.string (txt c)) ∧ Below w.heap.size w w' :=
  (callsIn_wide (n := 9)).1 (text_in 9 (by decide) c hfit w ht h0)
end Go.Proofs.YtnalpladieoegaaDoor
