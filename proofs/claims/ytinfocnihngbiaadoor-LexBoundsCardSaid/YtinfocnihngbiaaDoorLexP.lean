/- What the program's Lex tells of a text, as plain lists; what lies in memory while it runs. No condition. -/
import Derived.Test.YtinfocnihngbiaaDoorWordsIn
import Derived.Test.YtinfocnihngbiaaDoorRsame
import Derived.RangeFuncBox
namespace Go.Proofs.YtinfocnihngbiaaDoor
open Go.RowKit

/-- The word at byte p. -/
def tokW (s : ByteArray) (p : Nat) : Wd := ⟨wKind s p, s.extract p (wEnd s p), wNum s p, (posAt s p).1, (posAt s p).2⟩
theorem lex_dec {s : ByteArray} {k : Nat} (h : gapAt s k < s.size) (h2 : wErr s (gapAt s k) = 0) : s.size - wEnd s (gapAt s k) < s.size - k := by
  have h1 := gap_ge s k
  have h3 := wEnd_gt h h2
  omega
/-- The words from byte k on, behind acc; or the first error and its place. -/
def lexA (s : ByteArray) (k : Nat) (acc : List Wd) : List Wd × (Int × Int) × Int :=
  if _h : gapAt s k < s.size then
    if _h2 : wErr s (gapAt s k) = 0 then lexA s (wEnd s (gapAt s k)) (acc ++ [tokW s (gapAt s k)]) else ([], posAt s (gapAt s k), wErr s (gapAt s k))
  else (acc, (0, 0), 0)
termination_by s.size - k
decreasing_by exact lex_dec _h _h2
theorem lexA_end {s : ByteArray} {k : Nat} {acc : List Wd} (h : ¬ gapAt s k < s.size) : lexA s k acc = (acc, (0, 0), 0) := by
  rw [lexA.eq_def, dif_neg h]
theorem lexA_err {s : ByteArray} {k : Nat} {acc : List Wd} (h : gapAt s k < s.size) (h2 : ¬ wErr s (gapAt s k) = 0) : lexA s k acc = ([], posAt s (gapAt s k), wErr s (gapAt s k)) := by
  rw [lexA.eq_def, dif_pos h, dif_neg h2]
theorem lexA_on {s : ByteArray} {k : Nat} {acc : List Wd} (h : gapAt s k < s.size) (h2 : wErr s (gapAt s k) = 0) : lexA s (wEnd s (gapAt s k)) (acc ++ [tokW s (gapAt s k)]) = lexA s k acc := by
  rw [lexA.eq_def s k, dif_pos h, dif_pos h2]
/-- What Lex tells. -/
def lexR (s : ByteArray) : List Wd × (Int × Int) × Int := if 65536 < s.size then ([], (0, 0), 3) else lexA s 0 []

/-- While Lex runs, behind k bytes (w: as it began; B: where its result's box lies; B0: as the loop began). -/
structure Inv (w : World) (B0 : Nat) (s : ByteArray) (R : List Wd × (Int × Int) × Int) (k : Nat) (W : World) : Prop where
  ex : ∃ acc v, lexA s k acc = R ∧ acc.length ≤ k ∧ k ≤ s.size ∧ Boxed W (w.heap.size + 1) 23 v ∧ W.ownsRow B0 39 5 v acc.length (acc.flatMap Wd.cells)
  b2 : Boxed W (w.heap.size + 1 + 1) 26 (.int .i64 0)
  b3 : Ps W (w.heap.size + 1 + 1 + 1) (0, 0)
  b0 : Ps W w.heap.size (0, 0)
  bl : Below w.heap.size w W
  sz : B0 ≤ W.heap.size
/-- When it has met an error. -/
structure Ivx (w : World) (R : List Wd × (Int × Int) × Int) (W : World) : Prop where
  b1 : Boxed W (w.heap.size + 1) 23 (.slice none 0 0)
  b2 : Boxed W (w.heap.size + 1 + 1) 26 (.int .i64 R.2.2)
  b3 : Ps W (w.heap.size + 1 + 1 + 1) R.2.1
  b0 : Ps W w.heap.size (0, 0)
  bl : Below w.heap.size w W
  nl : R.1 = []
theorem Ps.kept {W W' : World} {row : Option Nat} {b : Nat} {p : Int × Int} (h : Ps W b p) (hg : W.grownBy W' row) (hne : some b ≠ row) : Ps W' b p := (hg.block b h.lt hne).trans h
theorem below_kept {w W W' : World} {B : Nat} {row : Option Nat} (h : Below B w W) (hg : W.grownBy W' row) (hr : ∀ r, row = some r → B ≤ r) (hB : B ≤ W.heap.size) : Below B w W' :=
  h.grown hg hB hr
theorem Inv.kept {w : World} {B0 : Nat} {s : ByteArray} {R : List Wd × (Int × Int) × Int} {k : Nat} {W W' : World} {row : Option Nat} (h : Inv w B0 s R k W) (hg : W.grownBy W' row)
    (hr : ∀ r, row = some r → w.heap.size + 4 ≤ r ∧ (r < B0 ∨ ∃ o : Obj, W.heap[r]? = some o ∧ o.isCells = false)) : Inv w B0 s R k W' := by
  obtain ⟨acc, v, h1, h2, h3, h4, h5⟩ := h.ex
  have ne : ∀ x, x < 4 → some (w.heap.size + x) ≠ row := fun x hx e => by
    have := (hr _ e.symm).1
    omega
  refine ⟨⟨acc, v, h1, h2, h3, h4.kept hg (ne 1 (by decide)), h5.kept hg ?_⟩, h.b2.kept hg (ne 2 (by decide)), h.b3.kept hg (ne 3 (by decide)), h.b0.kept hg (ne 0 (by decide)), h.bl.grown hg h.bl.size (fun r e => by have := (hr r e).1; omega), Nat.le_trans h.sz hg.size⟩
  rcases h5.2 with ⟨rfl, _⟩ | ⟨g, cap, cur, rfl, hb, hgb, _⟩
  · exact .inl rfl
  · refine .inr fun e' => ?_
    rcases (hr g (by simpa [Value.ownBlock] using e'.symm)).2 with hlt | ⟨o, ho, hc⟩
    · omega
    · rw [hgb] at ho
      cases ho
      cases hc
theorem Ivx.kept {w : World} {R : List Wd × (Int × Int) × Int} {W W' : World} {row : Option Nat} (h : Ivx w R W) (hg : W.grownBy W' row) (hr : ∀ r, row = some r → w.heap.size + 4 ≤ r) : Ivx w R W' := by
  have ne : ∀ x, x < 4 → some (w.heap.size + x) ≠ row := fun x hx e => by
    have := hr _ e.symm
    omega
  exact ⟨h.b1.kept hg (ne 1 (by decide)), h.b2.kept hg (ne 2 (by decide)), h.b3.kept hg (ne 3 (by decide)), h.b0.kept hg (ne 0 (by decide)), h.bl.grown hg h.bl.size (fun r e => by have := hr r e; omega), h.nl⟩
theorem Kp.to_grown {W W' : World} {b : Nat} (h : Kp W W' b b) : W.grownBy W' (some b) := ⟨h.os, h.tape, h.output, h.size, fun k hk hne => h.block k hk (fun e => hne (by rw [e])) (fun e => hne (by rw [e]))⟩
theorem drew_grown (W : World) : W.grownBy W.drew none := ⟨rfl, rfl, rfl, Nat.le_refl _, fun _ _ _ => rfl⟩
theorem drewN_grown (W : World) (n : Nat) : W.grownBy (W.drewN n) none := ⟨rfl, rfl, rfl, Nat.le_refl _, fun _ _ _ => rfl⟩

theorem row_ne {W : World} {B0 e size n b : Nat} {v : Value} {xs : List Value} (h : W.ownsRow B0 e size v n xs) (hb : b < B0) : some b ≠ v.ownBlock := by
  intro e'
  have := (h.lt b e'.symm).1
  omega
/-- A word is appended to what has been found. -/
theorem Inv.push {w : World} {B0 : Nat} {s : ByteArray} {R : List Wd × (Int × Int) × Int} {k k' : Nat} {W w1 : World} (h : Inv w B0 s R k W) (hb4 : w.heap.size + 4 ≤ B0) {acc : List Wd} {v v' : Value} {t : Wd} {o : Obj}
    (g4 : Boxed W (w.heap.size + 1) 23 v) (g5 : W.ownsRow B0 39 5 v acc.length (acc.flatMap Wd.cells)) (hown : w1.ownsRow B0 39 5 v' (acc.length + 1) (acc.flatMap Wd.cells ++ t.cells)) (hgrow : (W.alloc o).grownBy w1 v.ownBlock)
    (hR : lexA s k' (acc ++ [t]) = R) (hk : acc.length + 1 ≤ k') (hk' : k' ≤ s.size) :
    Boxed w1 (w.heap.size + 1) 23 v ∧ Inv w B0 s R k' (w1.setCell ⟨w.heap.size + 1, 0, none⟩ v') ∧ KeepsOthers W (w1.setCell ⟨w.heap.size + 1, 0, none⟩ v') ∧
      ∀ L : List Nat, (∀ j ∈ L, j < W.heap.size ∧ j ≠ w.heap.size + 1 ∧ j < B0) → SameL L W (w1.setCell ⟨w.heap.size + 1, 0, none⟩ v') := by
  have hv1 : Boxed w1 (w.heap.size + 1) 23 v := (g4.alloc o).kept hgrow (row_ne g5 (by omega))
  have hs := grownBy_setCell' w1 (w.heap.size + 1) v'
  have ne : ∀ x y, x ≠ y → some (w.heap.size + x) ≠ some (w.heap.size + y) := fun x y hxy e => by
    have := Option.some.inj e
    omega
  refine ⟨hv1, ⟨⟨acc ++ [t], v', hR, by simpa using hk, hk', hv1.set v', ?_⟩, ?_, ?_, ?_, ?_, ?_⟩, ?_, ?_⟩
  · have h2 := hown.kept hs (.inr (row_ne hown (by omega : w.heap.size + 1 < B0)).symm)
    simpa using h2
  · exact ((h.b2.alloc o).kept hgrow (row_ne g5 (by omega))).kept hs (ne 2 1 (by decide))
  · exact ((h.b3.alloc o).kept hgrow (row_ne g5 (by omega))).kept hs (ne 3 1 (by decide))
  · exact ((h.b0.alloc o).kept hgrow (row_ne g5 (by omega))).kept hs (ne 0 1 (by decide))
  · have hsz := h.bl.size
    refine ((h.bl.alloc hsz o).grown hgrow (by simp; omega) (fun r e => ?_)).setCell (p := ⟨w.heap.size + 1, 0, none⟩) (Nat.le_succ _) v'
    have := (g5.lt r e).1
    omega
  · have h1 := hgrow.size
    have h2 := hs.size
    have h3 := h.sz
    simp at h1
    omega
  · refine ((KeepsOthers.alloc W o).trans (KeepsOthers.of_grownBy hgrow fun j o' ej hj => ?_)).trans (KeepsOthers.setCell _ _ _)
    rcases (g5.alloc o).2 with ⟨rfl, _⟩ | ⟨g, cap, cur, rfl, _, hgb, _⟩
    · simp [Value.ownBlock] at ej
    · obtain rfl : g = j := by simpa [Value.ownBlock] using ej
      rw [hgb] at hj
      cases hj
      rfl
  · intro L hL j hj
    obtain ⟨h1, h2, h3⟩ := hL j hj
    exact (Below.heap_setCell w1 ⟨w.heap.size + 1, 0, none⟩ v' j h2).trans ((hgrow.block j (by simp; omega) (row_ne g5 h3)).trans (Below.heap_alloc W o j h1))

/-- What Lex leaves. -/
def LPost (w : World) (R : List Wd × (Int × Int) × Int) (e : Ending) (w' : World) : Prop :=
  ∃ v, e = .returned (.tuple #[v, .agg #[.int .i64 R.2.1.1, .int .i64 R.2.1.2], .int .i64 R.2.2]) ∧ w'.ownsRow w.heap.size 39 5 v R.1.length (R.1.flatMap Wd.cells) ∧ Below w.heap.size w w'
theorem ownsRow_base {w : World} {b b' e size n : Nat} {v : Value} {xs : List Value} (h : w.ownsRow b e size v n xs) (hb : b' ≤ b) : w.ownsRow b' e size v n xs := by
  refine ⟨h.1, ?_⟩
  rcases h.2 with hn | ⟨g, cap, cur, h1, h2, h3⟩
  · exact .inl hn
  · exact .inr ⟨g, cap, cur, h1, by omega, h3⟩
end Go.Proofs.YtinfocnihngbiaaDoor
