/- A range over an iterator that writes one block which lay before, and new memory. Asked: the iterator's own run, and the body's. -/
import Derived.Test.YtinfocnihngbiaaDoorWrds
import Derived.RangeFuncFrom
namespace Go.Proofs.YtinfocnihngbiaaDoor
open Go.RowKit

/-- The blocks of the list are as they were. -/
def SameL (L : List Nat) (W W' : World) : Prop := ∀ j ∈ L, W'.heap[j]? = W.heap[j]?
theorem SameL.trans {L : List Nat} {A B C : World} (h : SameL L A B) (h' : SameL L B C) : SameL L A C := fun j hj => (h' j hj).trans (h j hj)
theorem SameL.put {L : List Nat} {W : World} {l : Nat} (o : Obj) (hl : ∀ j ∈ L, j < l) : SameL L W (W.putObj l o) := fun j hj => World.putObj_heap_other (by have := hl j hj; omega)
/-- How the body of a round may be left. -/
def rdPost (L : List Nat) (ok : Nat → Prop) (nxt : Nat → Nat) (I : Nat → World → Prop) (Ix : Code → World → Prop) (k : Nat) (W : World) : Exit → Act → World → Prop
  | .normal, _, W' => KeepsOthers W W' ∧ SameL L W W' ∧ ok k ∧ I (nxt k) W'
  | .ret, _, W' => KeepsOthers W W' ∧ Ix .ret W'
  | .exit id, _, W' => KeepsOthers W W' ∧ Ix (.exit id) W'
  | .goto t, _, W' => KeepsOthers W W' ∧ Ix (.goto t) W'
  | .panic _, _, _ => False
  | .outgrown, _, _ => False

/-- What the iterator's run is to show. -/
def ItRun (F : Fence) (n : Nat) (P : Program) (gf : Nat) (lb : Array Value) (encs : Nat → Array Value) (b : Nat) (L : List Nat) (bd ok fin : Nat → Prop) (nxt : Nat → Nat) (k0 : Nat) (w : World) : Prop :=
  ∀ (l : Nat) (J : Nat → World → Prop) (Jx : World → Prop) (W : World), SameL L w W →
    (∀ k A B, J k A → Kp A B b b → J k B) → (∀ A B, Jx A → Kp A B b b → Jx B) →
    (∀ k A, J k A → bd k → YieldAt F (n - 1) P l (encs k) A fun e B => (e = .returned (.bool true) ∧ J (nxt k) B ∧ SameL L A B ∧ A.heap.size ≤ B.heap.size ∧ ok k) ∨ (e = .returned (.bool false) ∧ Jx B)) →
    J k0 W → CallsIn F n P gf (#[.func (.yield l) #[] #[]] ++ lb) W fun e B => (∃ v, e = .returned v) ∧ ((∃ k, fin k ∧ J k B) ∨ Jx B)

theorem wpIn_rangeFunc_rd {F : Fence} {n : Nat} {P : Program} {g : Operand} {ps : Array Tmp} {assign body : Code} {Q : Exit → Act → World → Prop} {a : Act} {w : World}
    (hro : F.round = none) (h1 : 1 ≤ n) {gf : Nat} {lb : Array Value} (hg : a.eval g = .func (.func gf) #[] lb) (hFg : F.fn gf) (eg : ∀ args w, (callFunc gf args).run P w = .ok (.enter gf args) w)
    {encs : Nat → Array Value} {b : Nat} {L : List Nat} {bd ok fin : Nat → Prop} {nxt : Nat → Nat} {k0 : Nat}
    (hseq : ItRun F (n - 1) P gf lb encs b L bd ok fin nxt k0 w) (hb : b < w.heap.size) (hL : ∀ j ∈ L, j < w.heap.size) (hps : ∀ x, (encs x).size = ps.size)
    (I : Nat → World → Prop) (Ix : Code → World → Prop) (hI : OwnFrom w.heap.size I) (hIx : ∀ c, OwnFrom w.heap.size (fun (_ : Unit) => Ix c))
    (hIb : ∀ k A B, I k A → Kp A B b b → I k B) (hIxb : ∀ c A B, Ix c A → Kp A B b b → Ix c B) (h0 : I k0 w)
    (hround : ∀ (l : Nat) (k : Nat) (W : World), I k W → bd k →
      assign.wpIn (F.inRound l) (n - 1 - 1) P (Exit.then (fun a' W' => KeepsOthers W W' ∧ SameL L W W' ∧ ∃ M : World → Prop, OwnFrom w.heap.size (fun (_ : Unit) => M) ∧ M W' ∧ ∀ W2, M W2 → body.wpIn (F.inRound l) (n - 1 - 1) P (rdPost L ok nxt I Ix k W2) a' W2) (fun _ _ _ => False))
        { tmps := (ps.zip (encs k)).foldl (fun t (p, v) => t.setIfInBounds p v) a.tmps, defers := [] } W)
    (hdone : ∀ (D : Nat) (k : Nat) (W : World), w.heap.size ≤ D → fin k → I k W → W.heap[D]? = some (.deferred (some [])) → Q .normal { a with defers := { target := .collected D, args := #[] } :: a.defers } W)
    (hstop : ∀ (D : Nat) (c : Code) (W : World), w.heap.size ≤ D → Ix c W → W.heap[D]? = some (.deferred (some [])) → c.wpIn F n P Q { a with defers := { target := .collected D, args := #[] } :: a.defers } W) :
    (Code.rangeFunc g ps assign body).wpIn F n P Q a w := by
  refine wpIn_rangeFunc ?_
  intro fn hfn
  rw [hro]
  obtain ⟨rec, hrec⟩ : ∃ rec : LoopState → Option Code → Loop, rec = fun st pe => { state := st, pending := pe, fn, tmps := a.tmps, params := ps, assign, body, defers := w.heap.size } := ⟨_, rfl⟩
  obtain ⟨W1, hW1⟩ : ∃ W1, (w.alloc (.deferred (some []))).alloc (.loop (rec .ready none)) = W1 := ⟨_, rfl⟩
  have hL1 : W1.heap[w.heap.size + 1]? = some (.loop (rec .ready none)) := by
    rw [← hW1]; have := World.alloc_heap_new (w.alloc (.deferred (some []))) (.loop (rec .ready none)); rwa [World.size_alloc] at this
  have hK1 : W1.heap[w.heap.size]? = some (.deferred (some [])) := by
    rw [← hW1]; exact (Below.heap_alloc _ _ _ (by simp)).trans (World.alloc_heap_new w _)
  have hI1 : I k0 W1 := by rw [← hW1]; exact hI.alloc _ (hI.alloc _ h0)
  have hS1 : SameL L w W1 := by
    rw [← hW1]
    intro j hj
    have := hL j hj
    exact (Below.heap_alloc _ _ _ (by simp; omega)).trans (Below.heap_alloc _ _ _ this)
  refine ⟨w.heap.size + 1, [{ target := .collected w.heap.size, args := #[] }], W1, { target := .fn (.func gf) lb, args := #[.func (.yield (w.heap.size + 1)) #[] #[]] }, W1, gf,
    #[.func (.yield (w.heap.size + 1)) #[] #[]] ++ lb, W1, ?_, ?_, ?_, ?_, fun _ => h1, ?_⟩
  · rw [← hW1, hrec]; exact run_enterLoop_outer _ _ _ _ _
  · simp only [resolve, hg]
    simp [go_sem]
  · intro f' hf'; simp [Target.leads] at hf'; subst hf'; exact hFg
  · simp [invoke, go_sem, eg]
  · have kpb : ∀ {A B : World} {r : Nat} {o : Obj}, Kp A B b b → w.heap.size ≤ r → A.heap[r]? = some o → B.heap[r]? = some o := fun hk hr ho =>
      (hk.block _ (Array.getElem?_eq_some_iff.1 ho).1 (by omega) (by omega)).trans ho
    refine (hseq (w.heap.size + 1)
      (fun k W => I k W ∧ W.heap[w.heap.size + 1]? = some (.loop (rec .ready none)) ∧ W.heap[w.heap.size]? = some (.deferred (some [])))
      (fun W => ∃ c, Ix c W ∧ W.heap[w.heap.size + 1]? = some (.loop (rec .done (some c))) ∧ W.heap[w.heap.size]? = some (.deferred (some [])))
      W1 hS1
      (fun k A B hs hk => ⟨hIb k A B hs.1 hk, kpb hk (Nat.le_succ _) hs.2.1, kpb hk (Nat.le_refl _) hs.2.2⟩)
      (fun A B hs hk => by
        obtain ⟨c, hc, hl, hkk⟩ := hs
        exact ⟨c, hIxb c A B hc hk, kpb hk (Nat.le_succ _) hl, kpb hk (Nat.le_refl _) hkk⟩)
      ?_ ⟨hI1, hL1, hK1⟩).mono ?_
    · -- one round
      rintro x W ⟨hi, hl, hk⟩ hbd
      have hy := run_yield (P := P) (args := encs x) hl (by rw [hrec]; exact hps x)
      rw [hrec] at hy
      refine ⟨fn, _, assign, body, hy, roundIn_of_wpIn hfn (wpIn_mono (hround _ x W hi hbd) ?_)⟩
      rintro e0 a0 W0 hp0
      cases e0 <;> first | exact hp0.elim | skip
      obtain ⟨hk0, hs0, M, hM, hm, hB⟩ := hp0
      have hl0 := hk0.same _ _ hl rfl
      have hkk0 := hk0.same _ _ hk rfl
      have hlt : w.heap.size + 1 < W0.heap.size := (Array.getElem?_eq_some_iff.1 hl0).1
      refine ⟨_, run_beginRound hl0 (by rw [hrec]), ?_⟩
      have hl2 : (W0.putObj (w.heap.size + 1) (.loop { rec .ready none with state := .busy })).heap[w.heap.size + 1]? = some (.loop { rec .ready none with state := .busy }) := World.putObj_heap_same hlt
      have hk2 : (W0.putObj (w.heap.size + 1) (.loop { rec .ready none with state := .busy })).heap[w.heap.size]? = some (.deferred (some [])) := (World.putObj_heap_other (by omega)).trans hkk0
      have hw2 : SameL L W (W0.putObj (w.heap.size + 1) (.loop { rec .ready none with state := .busy })) := hs0.trans (SameL.put _ (fun j hj => by have := hL j hj; omega))
      refine wpIn_mono (hB _ (hM.putObj (s := ()) _ hm (Nat.le_succ _) hl0 rfl)) ?_
      have fin : ∀ (jump : Option Code) (W3 : World), KeepsOthers (W0.putObj (w.heap.size + 1) (.loop { rec .ready none with state := .busy })) W3 →
          (Instr.endRound (w.heap.size + 1) jump).run P W3 = .ok (.bool jump.isNone) (W3.putObj (w.heap.size + 1) (.loop (rec (if jump.isNone then .ready else .done) jump))) ∧
          W3.heap[w.heap.size + 1]? = some (.loop { rec .ready none with state := .busy }) ∧
          (W3.putObj (w.heap.size + 1) (.loop (rec (if jump.isNone then .ready else .done) jump))).heap[w.heap.size + 1]? = some (.loop (rec (if jump.isNone then .ready else .done) jump)) ∧
          (W3.putObj (w.heap.size + 1) (.loop (rec (if jump.isNone then .ready else .done) jump))).heap[w.heap.size]? = some (.deferred (some [])) := fun jump W3 hk3 => by
        have hl3 := hk3.same _ _ hl2 rfl
        have := run_endRound (P := P) jump hl3
        rw [hrec] at this ⊢
        exact ⟨this, by rw [hrec] at hl3; exact hl3, World.putObj_heap_same (Array.getElem?_eq_some_iff.1 hl3).1, (World.putObj_heap_other (by omega)).trans (hk3.same _ _ hk2 rfl)⟩
      rintro e a3 W3 hp
      cases e with
      | normal =>
        obtain ⟨hk3, hkp3, hok3, hi3⟩ := hp
        obtain ⟨hr, hl3, hl4, hk4⟩ := fin none W3 hk3
        refine ⟨_, _, hr, .inl ⟨rfl, ⟨hI.putObj _ hi3 (Nat.le_succ _) hl3 rfl, hl4, hk4⟩, (hw2.trans hkp3).trans (SameL.put _ (fun j hj => by have := hL j hj; omega)), ?_, hok3⟩⟩
        have := hk3.size
        have := hk0.size
        simp at *
        omega
      | ret =>
        obtain ⟨hk3, hi3⟩ := hp
        obtain ⟨hr, hl3, hl4, hk4⟩ := fin (some .ret) W3 hk3
        exact ⟨_, _, hr, .inr ⟨rfl, .ret, (hIx _).putObj (s := ()) _ hi3 (Nat.le_succ _) hl3 rfl, hl4, hk4⟩⟩
      | exit id =>
        obtain ⟨hk3, hi3⟩ := hp
        obtain ⟨hr, hl3, hl4, hk4⟩ := fin (some (.exit id)) W3 hk3
        exact ⟨_, _, hr, .inr ⟨rfl, .exit id, (hIx _).putObj (s := ()) _ hi3 (Nat.le_succ _) hl3 rfl, hl4, hk4⟩⟩
      | goto t =>
        obtain ⟨hk3, hi3⟩ := hp
        obtain ⟨hr, hl3, hl4, hk4⟩ := fin (some (.goto t)) W3 hk3
        exact ⟨_, _, hr, .inr ⟨rfl, .goto t, (hIx _).putObj (s := ()) _ hi3 (Nat.le_succ _) hl3 rfl, hl4, hk4⟩⟩
      | panic ch => exact hp.elim
      | outgrown => exact hp.elim
    · -- behind the iterator
      rintro e W2 ⟨⟨v, rfl⟩, (⟨k, hS, hi, hl, hk⟩ | ⟨c, hi, hl, hk⟩)⟩
      · exact ⟨none, _, by have := run_endLoop (P := P) hl (by rw [hrec]; simp); rw [hrec] at this; exact this, hdone _ k _ (Nat.le_refl _) hS (hI.putObj _ hi (Nat.le_succ _) hl rfl) ((World.putObj_heap_other (by omega)).trans hk)⟩
      · exact ⟨some c, _, by have := run_endLoop (P := P) hl (by rw [hrec]; simp); rw [hrec] at this; exact this, hstop _ c _ (Nat.le_refl _) ((hIx c).putObj (s := ()) _ hi (Nat.le_succ _) hl rfl) ((World.putObj_heap_other (by omega)).trans hk)⟩
end Go.Proofs.YtinfocnihngbiaaDoor
