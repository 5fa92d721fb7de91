/- The laws' own module. No condition. -/
import Derived.Test.YtjbinejaagpleaaDoorOwn
import Derived.Test.YtjbinejaagpleaaDoorRth
namespace Go.Proofs.YtjbinejaagpleaaDoor
open Go.RowKit

def someC (s : Nat) : CodeM := ⟨⟨#[109, 97, 105, 110]⟩, 1, some ⟨s + 1 + 1 + 1 + 1, 0, none⟩, 3, [⟨26, 200, 0, 0⟩, ⟨1, 0, 0, -7⟩, ⟨34, 0, 0, 0⟩], some ⟨s + 1 + 1 + 1 + 1 + 1, 0, none⟩, 3, [4, 2, 65536]⟩
def someM (s : Nat) : ModM := ⟨some ⟨s + 1, 0, none⟩, 1, [-7], some ⟨s + 1 + 1, 0, none⟩, 1, [3], some ⟨s + 1 + 1 + 1, 0, none⟩, 1, [2], 1, 1, some ⟨s + 1 + 1 + 1 + 1 + 1 + 1, 0, none⟩, 1, [someC s]⟩
def someP : ModP := ⟨[-7], [3], [2], 1, 1, [⟨[109, 97, 105, 110], 1, [⟨26, 200, 0, 0⟩, ⟨1, 0, 0, -7⟩, ⟨34, 0, 0, 0⟩], [4, 2, 65536]⟩]⟩
theorem some_p (s : Nat) : (someM s).p = someP := rfl
theorem own_lit {W : World} {B g n cap e size : Nat} {cs : Array Value} {xs : List Value} (h : W.heap[g]? = some (.cells cs e (0, 0))) (hB : B ≤ g) (hn : n ≤ cap) (hcap : cap ≤ 65536) (hs : cs.size = cap * size) (hx : cs.toList.take (n * size) = xs) (hl : xs.length = n * size) : W.ownsRow B e size (.slice (some ⟨g, 0, none⟩) n cap) n xs :=
  ⟨hl, .inr ⟨g, cap, cs, rfl, hB, h, hn, by unfold maxLen; omega, hs, hx⟩⟩
set_option maxRecDepth 100000 in
set_option maxHeartbeats 4000000 in
theorem some_any (w : World) : Calls Tryd.prog 17 #[] w fun e w' => e = .returned (.agg (someM w.heap.size).cells) ∧ Below w.heap.size w w' ∧ OwnM w' w.heap.size (someM w.heap.size) := by
  have h0 : Held w [] := fun x hx => by cases hx
  have h7 := ((((((h0.add #[.slice (some ⟨w.heap.size + 1, 0, none⟩) 1 1, .slice (some ⟨w.heap.size + 1 + 1, 0, none⟩) 1 1, .slice (some ⟨w.heap.size + 1 + 1 + 1, 0, none⟩) 1 1, .int .i64 1, .int .i64 1, .slice (some ⟨w.heap.size + 1 + 1 + 1 + 1 + 1 + 1, 0, none⟩) 1 1] 27).add #[.int .i64 (-7)] 2).add #[.int .i64 3] 3).add #[.int .i64 2] 3).add #[.int .i64 26, .int .i64 200, .int .i64 0, .int .i64 0, .int .i64 1, .int .i64 0, .int .i64 0, .int .i64 (-7), .int .i64 34, .int .i64 0, .int .i64 0, .int .i64 0] 48).add #[.int .i64 4, .int .i64 2, .int .i64 65536] 3).add #[.string ⟨#[109, 97, 105, 110]⟩, .int .i64 1, .slice (some ⟨w.heap.size + 1 + 1 + 1 + 1, 0, none⟩) 3 3, .slice (some ⟨w.heap.size + 1 + 1 + 1 + 1 + 1, 0, none⟩) 3 3] 51
  simp only [List.nil_append, List.cons_append, World.size_alloc] at h7
  have hB : Below w.heap.size w (((((((w.alloc (.cells #[.slice (some ⟨w.heap.size + 1, 0, none⟩) 1 1, .slice (some ⟨w.heap.size + 1 + 1, 0, none⟩) 1 1, .slice (some ⟨w.heap.size + 1 + 1 + 1, 0, none⟩) 1 1, .int .i64 1, .int .i64 1, .slice (some ⟨w.heap.size + 1 + 1 + 1 + 1 + 1 + 1, 0, none⟩) 1 1] 27)).alloc (.cells #[.int .i64 (-7)] 2)).alloc (.cells #[.int .i64 3] 3)).alloc (.cells #[.int .i64 2] 3)).alloc (.cells #[.int .i64 26, .int .i64 200, .int .i64 0, .int .i64 0, .int .i64 1, .int .i64 0, .int .i64 0, .int .i64 (-7), .int .i64 34, .int .i64 0, .int .i64 0, .int .i64 0] 48)).alloc (.cells #[.int .i64 4, .int .i64 2, .int .i64 65536] 3)).alloc (.cells #[.string ⟨#[109, 97, 105, 110]⟩, .int .i64 1, .slice (some ⟨w.heap.size + 1 + 1 + 1 + 1, 0, none⟩) 3 3, .slice (some ⟨w.heap.size + 1 + 1 + 1 + 1 + 1, 0, none⟩) 3 3] 51)) := ((((((((Below.refl _ w).alloc (Nat.le_refl _) _).alloc (by simp <;> omega) _).alloc (by simp <;> omega) _).alloc (by simp <;> omega) _).alloc (by simp <;> omega) _).alloc (by simp <;> omega) _).alloc (by simp <;> omega) _)
  have HH := Lib.hid h7
  have HB := Lib.hid hB
  clear h0 h7 hB
  go_enter Tryd.func17, Tryd.ntmps17
  go_wp2
  have hown : OwnM (((((((w.alloc (.cells #[.slice (some ⟨w.heap.size + 1, 0, none⟩) 1 1, .slice (some ⟨w.heap.size + 1 + 1, 0, none⟩) 1 1, .slice (some ⟨w.heap.size + 1 + 1 + 1, 0, none⟩) 1 1, .int .i64 1, .int .i64 1, .slice (some ⟨w.heap.size + 1 + 1 + 1 + 1 + 1 + 1, 0, none⟩) 1 1] 27)).alloc (.cells #[.int .i64 (-7)] 2)).alloc (.cells #[.int .i64 3] 3)).alloc (.cells #[.int .i64 2] 3)).alloc (.cells #[.int .i64 26, .int .i64 200, .int .i64 0, .int .i64 0, .int .i64 1, .int .i64 0, .int .i64 0, .int .i64 (-7), .int .i64 34, .int .i64 0, .int .i64 0, .int .i64 0] 48)).alloc (.cells #[.int .i64 4, .int .i64 2, .int .i64 65536] 3)).alloc (.cells #[.string ⟨#[109, 97, 105, 110]⟩, .int .i64 1, .slice (some ⟨w.heap.size + 1 + 1 + 1 + 1, 0, none⟩) 3 3, .slice (some ⟨w.heap.size + 1 + 1 + 1 + 1 + 1, 0, none⟩) 3 3] 51)) w.heap.size (someM w.heap.size) := by
    refine ⟨own_lit (cs := #[.int .i64 (-7)]) (HH.out _ (List.mem_of_getElem? (i := 1) rfl)) (by omega) (by simp [someM, someC]) (by simp [someM, someC]) rfl rfl rfl, own_lit (HH.out _ (List.mem_of_getElem? (i := 2) rfl)) (by omega) (by simp [someM, someC]) (by simp [someM, someC]) rfl rfl rfl, own_lit (HH.out _ (List.mem_of_getElem? (i := 3) rfl)) (by omega) (by simp [someM, someC]) (by simp [someM, someC]) rfl rfl rfl, own_lit (HH.out _ (List.mem_of_getElem? (i := 6) rfl)) (by omega) (by simp [someM, someC]) (by simp [someM, someC]) rfl rfl rfl, fun c hc => ?_, by simp [someM], by simp [someM], by simp [someM], by simp [someM]⟩
    obtain rfl : c = someC w.heap.size := by simpa [someM] using hc
    exact ⟨own_lit (HH.out _ (List.mem_of_getElem? (i := 4) rfl)) (by omega) (by simp [someM, someC]) (by simp [someM, someC]) rfl rfl rfl, own_lit (HH.out _ (List.mem_of_getElem? (i := 5) rfl)) (by omega) (by simp [someM, someC]) (by simp [someM, someC]) rfl rfl rfl, by simp [someC, ByteArray.size], by simp [someC], by simp [someC]⟩
  have x0 := HH.out.cell 0 (k := 0) rfl rfl
  have x1 := HH.out.cell 0 (k := 1) rfl rfl
  have x2 := HH.out.cell 0 (k := 2) rfl rfl
  have x3 := HH.out.cell 0 (k := 3) rfl rfl
  have x4 := HH.out.cell 0 (k := 4) rfl rfl
  have x5 := HH.out.cell 0 (k := 5) rfl rfl
  refine bodyPost_ret (v := .agg (someM w.heap.size).cells) ?_ rfl ⟨rfl, HB.out, hown⟩
  generalize (((((((w.alloc (.cells #[.slice (some ⟨w.heap.size + 1, 0, none⟩) 1 1, .slice (some ⟨w.heap.size + 1 + 1, 0, none⟩) 1 1, .slice (some ⟨w.heap.size + 1 + 1 + 1, 0, none⟩) 1 1, .int .i64 1, .int .i64 1, .slice (some ⟨w.heap.size + 1 + 1 + 1 + 1 + 1 + 1, 0, none⟩) 1 1] 27)).alloc (.cells #[.int .i64 (-7)] 2)).alloc (.cells #[.int .i64 3] 3)).alloc (.cells #[.int .i64 2] 3)).alloc (.cells #[.int .i64 26, .int .i64 200, .int .i64 0, .int .i64 0, .int .i64 1, .int .i64 0, .int .i64 0, .int .i64 (-7), .int .i64 34, .int .i64 0, .int .i64 0, .int .i64 0] 48)).alloc (.cells #[.int .i64 4, .int .i64 2, .int .i64 65536] 3)).alloc (.cells #[.string ⟨#[109, 97, 105, 110]⟩, .int .i64 1, .slice (some ⟨w.heap.size + 1 + 1 + 1 + 1, 0, none⟩) 3 3, .slice (some ⟨w.heap.size + 1 + 1 + 1 + 1 + 1, 0, none⟩) 3 3] 51)) = W at *
  simp [results, Tryd.f17, go_sem, x0, x1, x2, x3, x4, x5, ModM.cells, someM]
end Go.Proofs.YtjbinejaagpleaaDoor
