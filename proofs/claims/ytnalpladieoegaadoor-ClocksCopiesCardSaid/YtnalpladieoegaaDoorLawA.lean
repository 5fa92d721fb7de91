/- The laws on one clock's text and on two clocks' join. -/
import Derived.Test.YtnalpladieoegaaDoorWorks
namespace Go.Proofs.YtnalpladieoegaaDoor
open Go.RowKit Go.Shelf

/-- The eight cells of a clock's box. -/
def Cells (w : World) (b : Nat) (c : Ck) : Prop := ∀ k, k < 8 → w.cell? ⟨b, k, none⟩ = some (.int .i64 (c k))
theorem Blk.cells {w : World} {b : Nat} {t : TypeId} {c : Ck} (h : Blk w b t c) : Cells w b c := fun _ hk => h.cell hk

set_option maxRecDepth 100000 in
set_option maxHeartbeats 1000000 in
theorem texts_any (c : Ck) (hfit : Fit c) (w : World) (ht : Tab w) (h0 : 0 < w.heap.size) : Calls Tryd.prog 4 #[.agg (cl c)] w fun e w' => e = .returned (.bool true) ∧ Below w.heap.size w w' := by
  have hB : Below w.heap.size w (w.alloc (.cells (cl c) 23)) := (Below.refl _ w).alloc (Nat.le_refl _) _
  have hk := Blk.new w 23 c
  obtain ⟨x, hx⟩ : ∃ x, txt c = x := ⟨_, rfl⟩
  have ct : ∀ w, Tab w → 0 < w.heap.size → Calls Tryd.prog 16 #[.agg (cl c)] w fun e w' => e = .returned (.string x) ∧ Below w.heap.size w w' := fun w a b => hx ▸ text_any c hfit w a b
  have cr : ∀ w, Tab w → 0 < w.heap.size → Calls Tryd.prog 17 #[.agg (cl c)] w fun e w' => e = .returned (.string x) ∧ Below w.heap.size w w' := fun w a b => hx ▸ rtext_any c hfit w a b
  clear hx
  have hmx : Tryd.prog.follows .mixedOrders = true := by kernel_rfl
  go_enter Tryd.func4, Tryd.ntmps4
  go_wp2_with fail
  refine wp_region_x [] (fun W1 => Cells W1 w.heap.size c) hmx ?_
  have HB := Lib.hid hB
  have HK := Lib.hid hk
  clear hB hk
  refine wpX_take 0 (v := ?v0) rfl (by kernel_rfl) (by kernel_rfl) (by kernel_rfl) (by kernel_rfl) (fun _ _ _ h => h) HK.out.drew.cells (Or.inl ⟨by rfl, ?h0⟩) ?_
  case h0 =>
    intro W1 s1
    have x0 := s1 0 (by decide)
    have x1 := s1 1 (by decide)
    have x2 := s1 2 (by decide)
    have x3 := s1 3 (by decide)
    have x4 := s1 4 (by decide)
    have x5 := s1 5 (by decide)
    have x6 := s1 6 (by decide)
    have x7 := s1 7 (by decide)
    clear s1
    go_simp
    with_reducible rfl
  refine wpX_take 2 (v := ?v2) rfl (by kernel_rfl) (by kernel_rfl) (by kernel_rfl) (by kernel_rfl) (fun _ _ _ h => h) HK.out.drew.cells (Or.inl ⟨by rfl, ?h2⟩) ?_
  case h2 =>
    intro W1 s1
    have x0 := s1 0 (by decide)
    have x1 := s1 1 (by decide)
    have x2 := s1 2 (by decide)
    have x3 := s1 3 (by decide)
    have x4 := s1 4 (by decide)
    have x5 := s1 5 (by decide)
    have x6 := s1 6 (by decide)
    have x7 := s1 7 (by decide)
    clear s1
    go_simp
    with_reducible rfl
  refine wpX_one 1 (by kernel_rfl) rfl (fun K hK => ?_)
  go_simp
  refine (ct _ (ht.below HB.out.drew h0) (by simp)).mono ?_
  rintro e w1 ⟨rfl, hb⟩
  have hB1 : Below w.heap.size w w1 := HB.out.drew.trans (hb.mono (by simp))
  have hk1 := HK.out.drew.below hb HK.out.lt
  refine hK _ _ (fun _ => hk1.cells) ?_
  clear hK K hb
  refine wpX_one 3 (by kernel_rfl) rfl (fun K hK => ?_)
  go_simp
  have z1 := hB1.size
  refine (cr _ (ht.below hB1 h0) (by omega)).mono ?_
  rintro e w2 ⟨rfl, hb⟩
  have hB2 : Below w.heap.size w w2 := hB1.trans (hb.mono z1)
  have hk2 := hk1.below hb hk1.lt
  refine hK _ _ (fun _ => hk2.cells) ?_
  clear hK K hb z1
  refine wpX_one 4 (by kernel_rfl) rfl (fun K hK => ?_)
  go_simp
  refine hK _ _ (fun _ => hk2.cells) ?_
  clear hK K
  refine wpX_one 5 (by kernel_rfl) rfl (fun K hK => ?_)
  go_simp
  refine hK _ _ (fun _ => hk2.cells) ?_
  clear hK K
  refine wpX_one 6 (by kernel_rfl) rfl (fun K hK => ?_)
  go_simp
  have z2 := hB2.size
  refine (works_any _ (ht.below hB2 h0) (by omega)).mono ?_
  rintro e w3 ⟨rfl, hb⟩
  have hB3 : Below w.heap.size w w3 := hB2.trans (hb.mono z2)
  have hk3 := hk2.below hb hk2.lt
  refine hK _ _ (fun _ => hk3.cells) ?_
  clear hK K hb z2
  refine wpX_one 7 (by kernel_rfl) rfl (fun K hK => ?_)
  go_simp
  refine hK _ _ (fun _ => hk3.cells) ?_
  clear hK K
  refine wpX_one 8 (by kernel_rfl) rfl (fun K hK => ?_)
  go_simp
  refine hK _ _ (fun _ => hk3.cells) ?_
  clear hK K
  refine wpX_done (by kernel_rfl) ?_ _
  go_wp2
  go_ret
  exact ⟨rfl, hB3⟩
end Go.Proofs.YtnalpladieoegaaDoor
