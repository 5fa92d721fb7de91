/- What the syntax texts share, part 33. No condition. -/
import Derived.Test.YtjmlmelcppbefaaGreatDoorT26
import Derived.Test.YtjmlmelcppbefaaGreatDoorT32
namespace Go.Proofs.YtjmlmelcppbefaaGreatDoor
open Go.RowKit Go.Maps
end Go.Proofs.YtjmlmelcppbefaaGreatDoor
namespace Go.Proofs.YtjmlmelcppbefaaGreatDoor
open Go.RowKit Go.Maps
def RestB (T : List Wd) (bad : Bool) (k f : Nat) (g : Nat) (acc : List St) (j : Nat) (bd : Bool) : Prop := (∀ x jf bf, Out bd j (pSs T g acc j) x jf bf → Out bad k (pB T f k) x jf bf) ∧ (bd = false → pSs T g acc j ≠ none)
theorem Out.bad {α : Type} {k j : Nat} {R : PR α} {x : α} {bf : Bool} (h : Out true k R x j bf) : bf = true ∧ j = k := by
 rcases h with ⟨-, h1, h2⟩ | ⟨h, -⟩ | ⟨h, -⟩
 ·exact ⟨h1, h2⟩
 ·cases h
 ·cases h
theorem Out.good {α : Type} {k j : Nat} {bad : Bool} {R : PR α} {x : α} (h : Out bad k R x j false) : bad = false ∧ R = some (.ok (x, j)) := by
 rcases h with ⟨-, h1, h2⟩ | ⟨h, -, h2⟩ | ⟨h, h2, -⟩
 ·cases h1
 ·exact ⟨h, h2⟩
 ·cases h2
theorem RestB.next {T : List Wd} {bad bd : Bool} {k f g j j2 : Nat} {acc : List St} {st : St} (h : RestB T bad k f (g + 1) acc j false) (hs : isT T j sBlS = false) (ho : Out false j (pS T g j) st j2 bd) : RestB T bad k f g (acc ++ [st]) j2 bd := by
 have hp : pSs T (g + 1) acc j = andT (pS T g j) fun s j => pSs T g (acc ++ [s]) j := by
  rw [pSs, if_neg (by rw [hs]; exact Bool.false_ne_true)]
 refine ⟨fun x jf bf hx => ?_, fun e => ?_⟩
 ·refine h.1 x jf bf ?_
  rw [hp]
  exact ho.bind (R2 := fun s j => pSs T g (acc ++ [s]) j) hx
 ·subst e
  have h3 := h.2 rfl
  rw [hp, ho.good.2, andT_ok] at h3
  exact h3
theorem RestB.pos {T : List Wd} {bad : Bool} {k f g j : Nat} {acc : List St} (h : RestB T bad k f g acc j false) : ∃ g', g = g' + 1 ∧ (isT T j sBlS = false → pS T g' j ≠ none) := by
 have h2 := h.2 rfl
 cases g with
 | zero => exact absurd (pSs_zero T acc j) h2
 | succ g =>
  refine ⟨g, rfl, fun hs e => h2 ?_⟩
  rw [pSs, if_neg (by rw [hs]; exact Bool.false_ne_true), e]
  rfl
theorem RestB.stop {T : List Wd} {bad bd bf : Bool} {k f g j jf : Nat} {acc : List St} {u : Unit} (h : RestB T bad k f g acc j bd) (hs : bd = false → isT T j sBlS = true) (ho : Out bd j (want T sBlS j) u jf bf) : Out bad k (pB T f k) acc jf bf := by
 refine h.1 acc jf bf ?_
 cases bd
 ·obtain ⟨g, rfl, -⟩ := h.pos
  rw [pSs, if_pos (hs rfl)]
  unfold want at ho
  rw [if_pos (hs rfl)] at ho
  rcases ho with ⟨h1, -⟩ | ⟨-, rfl, h2⟩ | ⟨-, -, h2⟩
  ·cases h1
  ·cases h2
   exact .inr (.inl ⟨rfl, rfl, rfl⟩)
  ·cases h2
 ·obtain ⟨rfl, rfl⟩ := ho.bad
  exact .inl ⟨rfl, rfl, rfl⟩
end Go.Proofs.YtjmlmelcppbefaaGreatDoor
namespace Go.Proofs.YtjmlmelcppbefaaGreatDoor
open Go.RowKit Go.Maps
def stV : List Value := stW.map .string
set_option maxRecDepth 100000 in
theorem rkinds_any (w : World) : Calls Tryz.prog 138 #[] w fun e w' => ∃ g, e = .returned (.slice (some ⟨g, 0, none⟩) 16 16) ∧ w.heap.size ≤ g ∧ Blk w' g 9 stV ∧ Below w.heap.size w w' := by
 go_enter Tryz.func138, Tryz.ntmps138
 go_wp2_with fail
 go_ret
 refine ⟨_, rfl, Nat.le_refl _, World.alloc_heap_new _ _, (Below.refl _ w).alloc (Nat.le_refl _) _⟩
end Go.Proofs.YtjmlmelcppbefaaGreatDoor
namespace Go.Proofs.YtjmlmelcppbefaaGreatDoor
open Go.RowKit Go.Maps
structure Ds (w : World) (b sb : Nat) (S : Src) (V : World) (j : Nat) (bd : Bool) (st : St) : Prop where
 s : Sb (w.heap.size + 1) V sb st
 r : Dr V b S j bd
 p : Kp w V b b
 z : Blk V w.heap.size 64 zSt.toList
 o : ∃ k0 b0, Dr w b S k0 b0
 B : w.heap.size + 1 ≤ sb
section
variable {w V V' : World} {b sb j j' : Nat} {S : Src} {bd bd' : Bool} {st : St}
theorem Ds.blt (h : Ds w b sb S V j bd st) : b < w.heap.size := by
 obtain ⟨k0, b0, h0⟩ := h.o
 exact h0.lt
theorem Ds.call (h : Ds w b sb S V j bd st) (hk : Kp V V' b b) (hr : Dr V' b S j' bd') : Ds w b sb S V' j' bd' st :=
 ⟨h.s.kp hk (by have := h.blt; omega) h.B, hr, h.p.trans hk, h.z.kp hk (by have := h.blt; omega) (by have := h.blt; omega), h.o, h.B⟩
theorem Ds.write {st' : St} (h : Ds w b sb S V j bd st) (hs : Sb (w.heap.size + 1) V' sb st') (hk : Kp w V' b b) (hw : ∀ c, c ≠ sb → V'.heap[c]? = V.heap[c]?) : Ds w b sb S V' j bd st' := by
 obtain ⟨k0, b0, h0⟩ := h.o
 have h1 := h0.lt
 have h2 := h.B
 exact ⟨hs, h0.fin h.r hk (hw b (by omega)), hk, h.z.of (hw _ (by omega)), h.o, h.B⟩
theorem Ds.cell1 {st' : St} (h : Ds w b sb S V j bd st) (n : Nat) (u : Value) (hs : Sb (w.heap.size + 1) (V.setCell ⟨sb, n, none⟩ u) sb st') : Ds w b sb S (V.setCell ⟨sb, n, none⟩ u) j bd st' :=
 h.write hs (h.p.setNew (by have := h.B; omega) n u) (fun c hc => Below.heap_setCell V ⟨sb, n, none⟩ u c hc)
theorem Ds.cellN {st' : St} (h : Ds w b sb S V j bd st) (n : Nat) (cz : List Value) (hs : Sb (w.heap.size + 1) (V.setCells sb n cz) sb st') : Ds w b sb S (V.setCells sb n cz) j bd st' :=
 h.write hs (Kp.setCellsNew (by have := h.B; omega) cz n h.p) (fun c hc => heap_setCells hc cz n V)
theorem Ds.kind (h : Ds w b sb S V j bd st) (q : Int) : Ds w b sb S (V.setCell ⟨sb, 0, none⟩ (.int .i64 q)) j bd (st.setKind q) := h.cell1 0 _ (h.s.kind q)
theorem Ds.name (h : Ds w b sb S V j bd st) (q : ByteArray) : Ds w b sb S (V.setCell ⟨sb, 3, none⟩ (.string q)) j bd (st.setName q) := h.cell1 3 _ (h.s.name q)
theorem Ds.wth (h : Ds w b sb S V j bd st) (q : ByteArray) : Ds w b sb S (V.setCell ⟨sb, 4, none⟩ (.string q)) j bd (st.setWith q) := h.cell1 4 _ (h.s.wth q)
theorem Ds.expr (h : Ds w b sb S V j bd st) {cz : List Value} {x : Ex} (hx : ExL (fun c => w.heap.size + 1 ≤ c ∧ c ≠ sb) V cz x) : Ds w b sb S (V.setCells sb 5 cz) j bd (st.setExpr x) := h.cellN 5 cz (h.s.expr hx)
theorem Ds.index (h : Ds w b sb S V j bd st) {cz : List Value} {x : Ex} (hx : ExL (fun c => w.heap.size + 1 ≤ c ∧ c ≠ sb) V cz x) : Ds w b sb S (V.setCells sb 12 cz) j bd (st.setIndex x) := h.cellN 12 cz (h.s.index hx)
theorem Ds.body (h : Ds w b sb S V j bd st) {a0 : Option Addr} {l0 : List St} {cap0 : Nat} (hl : Roomy l0.length cap0) (hz : StsL (fun c => w.heap.size + 1 ≤ c ∧ c ≠ sb) V a0 0 l0) : Ds w b sb S (V.setCell ⟨sb, 19, none⟩ (.slice a0 l0.length cap0)) j bd (st.setBody l0) := h.cell1 19 _ (h.s.body hl hz)
theorem Ds.els (h : Ds w b sb S V j bd st) {a0 : Option Addr} {l0 : List St} {cap0 : Nat} (hl : Roomy l0.length cap0) (hz : StsL (fun c => w.heap.size + 1 ≤ c ∧ c ≠ sb) V a0 0 l0) : Ds w b sb S (V.setCell ⟨sb, 20, none⟩ (.slice a0 l0.length cap0)) j bd (st.setEls l0) := h.cell1 20 _ (h.s.els hl hz)
theorem Ds.step (h : Ds w b sb S V j bd st) (hj : j < S.T.length) : Ds w b sb S (V.setCell ⟨b, 1, none⟩ (.int .i64 ((j : Int) + 1))) (j + 1) bd st :=
 h.call ((Kp.refl V b b).setA 1 _) (h.r.step hj)
theorem Ds.part {cs : List Value} {x : Ex} (h : Ds w b sb S V j bd st) (hX : ExL (V.heap.size ≤ ·) V' cs x) : ExL (fun c => w.heap.size + 1 ≤ c ∧ c ≠ sb) V' cs x :=
 ExL.weak (fun c hc => by have h1 := h.B; have h2 := h.s.lt; have h3 : V.heap.size ≤ c := hc; exact ⟨by omega, by omega⟩) hX
theorem Ds.parts {a : Option Addr} {l : List St} (h : Ds w b sb S V j bd st) (hX : StsL (V.heap.size ≤ ·) V' a 0 l) : StsL (fun c => w.heap.size + 1 ≤ c ∧ c ≠ sb) V' a 0 l :=
 StsL.weak (fun c hc => by have h1 := h.B; have h2 := h.s.lt; have h3 : V.heap.size ≤ c := hc; exact ⟨by omega, by omega⟩) hX
def St.kd : St → Int
 | .mk k _ _ _ _ _ _ _ _ _ _ _ _ => k
theorem St.kind_cell {ok : Nat → Prop} {W : World} {cs : List Value} : ∀ {s : St}, StL ok W cs s → cs[0]? = some (.int .i64 s.kd)
 | .mk k l c s t x y b e i sl ot lo, h => by
  unfold StL at h
  obtain ⟨cx, cy, a, a', cap, cap', rfl, -⟩ := h
  rfl
theorem Ds.c0 (h : Ds w b sb S V j bd st) : V.cell? ⟨sb, 0, none⟩ = some (.int .i64 st.kd) := by
 obtain ⟨cs, h1, h2⟩ := h.s
 exact (h1.cell 0).trans (St.kind_cell h2)
end
theorem Out.from {α : Type} {k k' j : Nat} {R : PR α} {x : α} {bf : Bool} (h : Out false k R x j bf) : Out false k' R x j bf := by
 rcases h with ⟨h, -⟩ | h | h
 ·cases h
 ·exact .inr (.inl h)
 ·exact .inr (.inr h)
end Go.Proofs.YtjmlmelcppbefaaGreatDoor
namespace Go.Proofs.YtjmlmelcppbefaaGreatDoor
open Go.RowKit Go.Maps
def dropS : Nat → Code → Code
 | 0, c => c
 | n + 1, .seq _ c => dropS n c
 | _, c => c
end Go.Proofs.YtjmlmelcppbefaaGreatDoor
