/- What the syntax texts share, part 18. No condition. -/
import Derived.RangeFuncFrom
import Derived.RangeFuncBox
import Derived.WalkMore
import Derived.Test.YtjmlmelcppbefaaGreatDoorT09
import Derived.Test.YtjmlmelcppbefaaGreatDoorT14
import Derived.IntWalk
import Derived.Test.YtjmlmelcppbefaaGreatDoorT16
namespace Go.Proofs.YtjmlmelcppbefaaGreatDoor
open Go.RowKit
set_option maxHeartbeats 400000 in
theorem words_any (b : Nat) (w : World) : Calls Tryz.prog 63 #[.pointer (some ⟨b, 0, none⟩)] w fun e w' => e = .returned (.func (.func 110) #[] #[.pointer (some ⟨w.heap.size, 0, none⟩)]) ∧ w' = w.alloc (.cells #[.pointer (some ⟨b, 0, none⟩)] 121) := by
 go_enter Tryz.func63, Tryz.ntmps63
 go_wp2
 go_ret
 exact ⟨rfl, rfl⟩
end Go.Proofs.YtjmlmelcppbefaaGreatDoor
namespace Go.Proofs.YtjmlmelcppbefaaGreatDoor
open Go.RowKit
def SameL (L : List Nat) (W W' : World) : Prop := ∀ j ∈ L, W'.heap[j]? = W.heap[j]?
theorem SameL.trans {L : List Nat} {A B C : World} (h : SameL L A B) (h' : SameL L B C) : SameL L A C := fun j hj => (h' j hj).trans (h j hj)
theorem SameL.put {L : List Nat} {W : World} {l : Nat} (o : Obj) (hl : ∀ j ∈ L, j < l) : SameL L W (W.putObj l o) := fun j hj => World.putObj_heap_other (by have := hl j hj; omega)
def rdPost (L : List Nat) (ok : Nat → Prop) (nxt : Nat → Nat) (I : Nat → World → Prop) (Ix : Code → World → Prop) (k : Nat) (W : World) : Exit → Act → World → Prop
 | .normal, _, W' => KeepsOthers W W' ∧ SameL L W W' ∧ ok k ∧ I (nxt k) W'
 | .ret, _, W' => KeepsOthers W W' ∧ Ix .ret W'
 | .exit id, _, W' => KeepsOthers W W' ∧ Ix (.exit id) W'
 | .goto t, _, W' => KeepsOthers W W' ∧ Ix (.goto t) W'
 | .panic _, _, _ => False
 | .outgrown, _, _ => False
def ItRun (F : Fence) (n : Nat) (P : Program) (gf : Nat) (lb : Array Value) (encs : Nat → Array Value) (b : Nat) (L : List Nat) (bd ok fin : Nat → Prop) (nxt : Nat → Nat) (k0 : Nat) (w : World) : Prop :=
 ∀ (l : Nat) (J : Nat → World → Prop) (Jx : World → Prop) (W : World), SameL L w W →
  (∀ k A B, J k A → Kp A B b b → J k B) → (∀ A B, Jx A → Kp A B b b → Jx B) →
  (∀ k A, J k A → bd k → YieldAt F (n - 1) P l (encs k) A fun e B => (e = .returned (.bool true) ∧ J (nxt k) B ∧ SameL L A B ∧ A.heap.size ≤ B.heap.size ∧ ok k) ∨ (e = .returned (.bool false) ∧ Jx B)) →
  J k0 W → CallsIn F n P gf (#[.func (.yield l) #[] #[]] ++ lb) W fun e B => (∃ v, e = .returned v) ∧ ((∃ k, fin k ∧ J k B) ∨ Jx B)
theorem wpIn_rangeFunc_rd {F : Fence} {n : Nat} {P : Program} {g : Operand} {ps : Array Tmp} {assign body : Code} {Q : Exit → Act → World → Prop} {a : Act} {w : World}
  (hro : F.round = none) (h1 : 1 ≤ n) {gf : Nat} {lb : Array Value} (hg : a.eval g = .func (.func gf) #[] lb) (hFg : F.fn gf) (eg : ∀ args w, (callFunc gf args).run P w = .ok (.enter gf args) w)
  {encs : Nat → Array Value} {b : Nat} {L : List Nat} {bd ok fin : Nat → Prop} {nxt : Nat → Nat} {k0 : Nat}
  (hseq : ItRun F (n - 1) P gf lb encs b L bd ok fin nxt k0 w) (hb : b < w.heap.size) (hL : ∀ j ∈ L, j < w.heap.size) (hps : ∀ x, (encs x).size = ps.size)
  (I : Nat → World → Prop) (Ix : Code → World → Prop) (hI : OwnFrom w.heap.size I) (hIx : ∀ c, OwnFrom w.heap.size (fun (_ : Unit) => Ix c))
  (hIb : ∀ k A B, I k A → Kp A B b b → I k B) (hIxb : ∀ c A B, Ix c A → Kp A B b b → Ix c B) (h0 : I k0 w)
  (hround : ∀ (l : Nat) (k : Nat) (W : World), I k W → bd k →
   assign.wpIn (F.inRound l) (n - 1 - 1) P (Exit.then (fun a' W' => KeepsOthers W W' ∧ SameL L W W' ∧ ∃ M : World → Prop, OwnFrom w.heap.size (fun (_ : Unit) => M) ∧ M W' ∧ ∀ W2, M W2 → body.wpIn (F.inRound l) (n - 1 - 1) P (rdPost L ok nxt I Ix k W2) a' W2) (fun _ _ _ => False))
    { tmps := (ps.zip (encs k)).foldl (fun t (p, v) => t.setIfInBounds p v) a.tmps, defers := [] } W)
  (hdone : ∀ (D : Nat) (k : Nat) (W : World), w.heap.size ≤ D → fin k → I k W → W.heap[D]? = some (.deferred (some [])) → Q .normal { a with defers := { target := .collected D, args := #[] } :: a.defers } W)
  (hstop : ∀ (D : Nat) (c : Code) (W : World), w.heap.size ≤ D → Ix c W → W.heap[D]? = some (.deferred (some [])) → c.wpIn F n P Q { a with defers := { target := .collected D, args := #[] } :: a.defers } W) :
  (Code.rangeFunc g ps assign body).wpIn F n P Q a w := by
 refine wpIn_rangeFunc ?_
 intro fn hfn
 rw [hro]
 obtain ⟨rec, hrec⟩ : ∃ rec : LoopState → Option Code → Loop, rec = fun st pe => { state := st, pending := pe, fn, tmps := a.tmps, params := ps, assign, body, defers := w.heap.size } := ⟨_, rfl⟩
 obtain ⟨W1, hW1⟩ : ∃ W1, (w.alloc (.deferred (some []))).alloc (.loop (rec .ready none)) = W1 := ⟨_, rfl⟩
 have hL1 : W1.heap[w.heap.size + 1]? = some (.loop (rec .ready none)) := by
  rw [← hW1]; have := World.alloc_heap_new (w.alloc (.deferred (some []))) (.loop (rec .ready none)); rwa [World.size_alloc] at this
 have hK1 : W1.heap[w.heap.size]? = some (.deferred (some [])) := by
  rw [← hW1]; exact (Below.heap_alloc _ _ _ (by simp)).trans (World.alloc_heap_new w _)
 have hI1 : I k0 W1 := by rw [← hW1]; exact hI.alloc _ (hI.alloc _ h0)
 have hS1 : SameL L w W1 := by
  rw [← hW1]
  intro j hj
  have := hL j hj
  exact (Below.heap_alloc _ _ _ (by simp; omega)).trans (Below.heap_alloc _ _ _ this)
 refine ⟨w.heap.size + 1, [{ target := .collected w.heap.size, args := #[] }], W1, { target := .fn (.func gf) lb, args := #[.func (.yield (w.heap.size + 1)) #[] #[]] }, W1, gf,
  #[.func (.yield (w.heap.size + 1)) #[] #[]] ++ lb, W1, ?_, ?_, ?_, ?_, fun _ => h1, ?_⟩
 ·rw [← hW1, hrec]; exact run_enterLoop_outer _ _ _ _ _
 ·simp only [resolve, hg]
  simp [go_sem]
 ·intro f' hf'; simp [Target.leads] at hf'; subst hf'; exact hFg
 ·simp [invoke, go_sem, eg]
 ·have kpb : ∀ {A B : World} {r : Nat} {o : Obj}, Kp A B b b → w.heap.size ≤ r → A.heap[r]? = some o → B.heap[r]? = some o := fun hk hr ho =>
   (hk.block _ (Array.getElem?_eq_some_iff.1 ho).1 (by omega) (by omega)).trans ho
  refine (hseq (w.heap.size + 1)
   (fun k W => I k W ∧ W.heap[w.heap.size + 1]? = some (.loop (rec .ready none)) ∧ W.heap[w.heap.size]? = some (.deferred (some [])))
   (fun W => ∃ c, Ix c W ∧ W.heap[w.heap.size + 1]? = some (.loop (rec .done (some c))) ∧ W.heap[w.heap.size]? = some (.deferred (some [])))
   W1 hS1
   (fun k A B hs hk => ⟨hIb k A B hs.1 hk, kpb hk (Nat.le_succ _) hs.2.1, kpb hk (Nat.le_refl _) hs.2.2⟩)
   (fun A B hs hk => by
    obtain ⟨c, hc, hl, hkk⟩ := hs
    exact ⟨c, hIxb c A B hc hk, kpb hk (Nat.le_succ _) hl, kpb hk (Nat.le_refl _) hkk⟩)
   ?_ ⟨hI1, hL1, hK1⟩).mono ?_
  ·
   rintro x W ⟨hi, hl, hk⟩ hbd
   have hy := run_yield (P := P) (args := encs x) hl (by rw [hrec]; exact hps x)
   rw [hrec] at hy
   refine ⟨fn, _, assign, body, hy, roundIn_of_wpIn hfn (wpIn_mono (hround _ x W hi hbd) ?_)⟩
   rintro e0 a0 W0 hp0
   cases e0 <;> first | exact hp0.elim | skip
   obtain ⟨hk0, hs0, M, hM, hm, hB⟩ := hp0
   have hl0 := hk0.same _ _ hl rfl
   have hkk0 := hk0.same _ _ hk rfl
   have hlt : w.heap.size + 1 < W0.heap.size := (Array.getElem?_eq_some_iff.1 hl0).1
   refine ⟨_, run_beginRound hl0 (by rw [hrec]), ?_⟩
   have hl2 : (W0.putObj (w.heap.size + 1) (.loop { rec .ready none with state := .busy })).heap[w.heap.size + 1]? = some (.loop { rec .ready none with state := .busy }) := World.putObj_heap_same hlt
   have hk2 : (W0.putObj (w.heap.size + 1) (.loop { rec .ready none with state := .busy })).heap[w.heap.size]? = some (.deferred (some [])) := (World.putObj_heap_other (by omega)).trans hkk0
   have hw2 : SameL L W (W0.putObj (w.heap.size + 1) (.loop { rec .ready none with state := .busy })) := hs0.trans (SameL.put _ (fun j hj => by have := hL j hj; omega))
   refine wpIn_mono (hB _ (hM.putObj (s := ()) _ hm (Nat.le_succ _) hl0 rfl)) ?_
   have fin : ∀ (jump : Option Code) (W3 : World), KeepsOthers (W0.putObj (w.heap.size + 1) (.loop { rec .ready none with state := .busy })) W3 →
     (Instr.endRound (w.heap.size + 1) jump).run P W3 = .ok (.bool jump.isNone) (W3.putObj (w.heap.size + 1) (.loop (rec (if jump.isNone then .ready else .done) jump))) ∧
     W3.heap[w.heap.size + 1]? = some (.loop { rec .ready none with state := .busy }) ∧
     (W3.putObj (w.heap.size + 1) (.loop (rec (if jump.isNone then .ready else .done) jump))).heap[w.heap.size + 1]? = some (.loop (rec (if jump.isNone then .ready else .done) jump)) ∧
     (W3.putObj (w.heap.size + 1) (.loop (rec (if jump.isNone then .ready else .done) jump))).heap[w.heap.size]? = some (.deferred (some [])) := fun jump W3 hk3 => by
    have hl3 := hk3.same _ _ hl2 rfl
    have := run_endRound (P := P) jump hl3
    rw [hrec] at this ⊢
    exact ⟨this, by rw [hrec] at hl3; exact hl3, World.putObj_heap_same (Array.getElem?_eq_some_iff.1 hl3).1, (World.putObj_heap_other (by omega)).trans (hk3.same _ _ hk2 rfl)⟩
   rintro e a3 W3 hp
   cases e with
   | normal =>
    obtain ⟨hk3, hkp3, hok3, hi3⟩ := hp
    obtain ⟨hr, hl3, hl4, hk4⟩ := fin none W3 hk3
    refine ⟨_, _, hr, .inl ⟨rfl, ⟨hI.putObj _ hi3 (Nat.le_succ _) hl3 rfl, hl4, hk4⟩, (hw2.trans hkp3).trans (SameL.put _ (fun j hj => by have := hL j hj; omega)), ?_, hok3⟩⟩
    have := hk3.size
    have := hk0.size
    simp at *
    omega
   | ret =>
    obtain ⟨hk3, hi3⟩ := hp
    obtain ⟨hr, hl3, hl4, hk4⟩ := fin (some .ret) W3 hk3
    exact ⟨_, _, hr, .inr ⟨rfl, .ret, (hIx _).putObj (s := ()) _ hi3 (Nat.le_succ _) hl3 rfl, hl4, hk4⟩⟩
   | exit id =>
    obtain ⟨hk3, hi3⟩ := hp
    obtain ⟨hr, hl3, hl4, hk4⟩ := fin (some (.exit id)) W3 hk3
    exact ⟨_, _, hr, .inr ⟨rfl, .exit id, (hIx _).putObj (s := ()) _ hi3 (Nat.le_succ _) hl3 rfl, hl4, hk4⟩⟩
   | goto t =>
    obtain ⟨hk3, hi3⟩ := hp
    obtain ⟨hr, hl3, hl4, hk4⟩ := fin (some (.goto t)) W3 hk3
    exact ⟨_, _, hr, .inr ⟨rfl, .goto t, (hIx _).putObj (s := ()) _ hi3 (Nat.le_succ _) hl3 rfl, hl4, hk4⟩⟩
   | panic ch => exact hp.elim
   | outgrown => exact hp.elim
  ·
   rintro e W2 ⟨⟨v, rfl⟩, (⟨k, hS, hi, hl, hk⟩ | ⟨c, hi, hl, hk⟩)⟩
   ·exact ⟨none, _, by have := run_endLoop (P := P) hl (by rw [hrec]; simp); rw [hrec] at this; exact this, hdone _ k _ (Nat.le_refl _) hS (hI.putObj _ hi (Nat.le_succ _) hl rfl) ((World.putObj_heap_other (by omega)).trans hk)⟩
   ·exact ⟨some c, _, by have := run_endLoop (P := P) hl (by rw [hrec]; simp); rw [hrec] at this; exact this, hstop _ c _ (Nat.le_refl _) ((hIx c).putObj (s := ()) _ hi (Nat.le_succ _) hl rfl) ((World.putObj_heap_other (by omega)).trans hk)⟩
end Go.Proofs.YtjmlmelcppbefaaGreatDoor
namespace Go.Proofs.YtjmlmelcppbefaaGreatDoor
open Go.RowKit Go.Maps
attribute [local go_sem] Oper.semAt_some
def tokV (s : ByteArray) (p : Nat) : Value := .agg #[.int .i64 (wKind s p), .string (s.extract p (wEnd s p)), .int .i64 (wNum s p), .int .i64 (posAt s p).1, .int .i64 (posAt s p).2]
abbrev encT (s : ByteArray) (k : Nat) : Array Value := #[tokV s (gapAt s k), .int .i64 (wErr s (gapAt s k))]
def posOf (w : World) (b : Nat) : Nat := match w.cell? ⟨b, 3, none⟩ with
 | some (.int _ k) => k.toNat
 | _ => 0
theorem posOf_rd {w : World} {b k : Nat} {s : ByteArray} {kw sg : Value} (h : Rd w b s k kw sg) : posOf w b = k := by unfold posOf; rw [h.c3]; simp
structure Rdy (w : World) (b gk gs c : Nat) (s : ByteArray) (k : Nat) : Prop where
 rd : Rd w b s k (.map (some gk)) (.map (some gs))
 okw : w.ownsMap Tryz.prog 9 (plainElem Tryz.prog 3) gk 20 (Lst kwL 20)
 osg : w.ownsMap Tryz.prog 9 (plainElem Tryz.prog 3) gs 20 (Lst sgL 20)
 er : ErrR w
 bx : w.heap[c]? = some (.cells #[.pointer (some ⟨b, 0, none⟩)] 121 (0, 0))
 n1 : gk ≠ b
 n2 : gs ≠ b
 n3 : c ≠ b
 n4 : b ≠ 7
theorem ErrR.same {A B : World} (h : ErrR A) (he : B.heap[7]? = A.heap[7]?) : ErrR B := by
 obtain ⟨h1, te, pe, hc⟩ := h
 have h2 : B.heap[7]? ≠ none := by rw [he, Array.getElem?_eq_getElem h1]; simp
 refine ⟨?_, te, pe, ?_⟩
 ·rcases Nat.lt_or_ge 7 B.heap.size with h | h
  ·exact h
  ·exact absurd (Array.getElem?_eq_none h) h2
 ·unfold World.cell? at hc ⊢
  simp only [he]
  exact hc
theorem owns_same {w w' : World} {g n : Nat} {D : DataW Unit} (h : w.ownsMap Tryz.prog 9 (plainElem Tryz.prog 3) g n D) (he : w'.heap[g]? = w.heap[g]?) : w'.ownsMap Tryz.prog 9 (plainElem Tryz.prog 3) g n D := by
 obtain ⟨es, clock, h1, h2⟩ := h
 exact ⟨es, clock, he.trans h1, h2⟩
theorem Rdy.same {A B : World} {b gk gs c k : Nat} {s : ByteArray} (h : Rdy A b gk gs c s k) (hs : SameL [b, gk, gs, c, 7] A B) : Rdy B b gk gs c s k :=
 ⟨h.rd.of (hs b (by simp)), owns_same h.okw (hs gk (by simp)), owns_same h.osg (hs gs (by simp)), h.er.same (hs 7 (by simp)), (hs c (by simp)).trans h.bx, h.n1, h.n2, h.n3, h.n4⟩
theorem Rdy.kp {A B : World} {b gk gs c k k' : Nat} {s : ByteArray} (h : Rdy A b gk gs c s k) (hk : Kp A B b b) (hr : Rd B b s k' (.map (some gk)) (.map (some gs))) : Rdy B b gk gs c s k' :=
 ⟨hr, owns_keep h.okw hk h.n1 h.n1, owns_keep h.osg hk h.n2 h.n2, h.er.same (hk.block 7 h.er.1 (Ne.symm h.n4) (Ne.symm h.n4)), (hk.block c (Array.getElem?_eq_some_iff.1 h.bx).1 h.n3 h.n3).trans h.bx, h.n1, h.n2, h.n3, h.n4⟩
theorem gap_ge (s : ByteArray) (k : Nat) : k ≤ gapAt s k := by
 suffices H : ∀ n k, s.size - k ≤ n → k ≤ gapAt s k from H _ k (Nat.le_refl _)
 intro n
 induction n with
 | zero =>
  intro k hk
  have h2 := endOf_ge isBl s k
  rw [gap_stop (fun h => by have := h.1; omega)]
  exact h2
 | succ n ih =>
  intro k hk
  have h2 := endOf_ge isBl s k
  by_cases h : endOf isBl s k < s.size ∧ (byte s (endOf isBl s k)).toNat = 35
  ·have h1 := hash_on h.1 h.2
   have h3 := ih (endOf isNoNl s (endOf isBl s k)) (by omega)
   rw [gap_hash h.1 h.2] at h3
   omega
  ·rw [gap_stop h]
   exact h2
set_option maxRecDepth 100000 in
set_option maxHeartbeats 2000000 in
theorem words1_in (n : Nat) (hn : 1 ≤ n) {w : World} {b gk gs c k0 : Nat} {s : ByteArray} (hR : Rdy w b gk gs c s k0) (hk0 : k0 ≤ s.size) (hs : s.size ≤ 4294967296) :
  ItRun Fence.wide n Tryz.prog 110 #[.pointer (some ⟨c, 0, none⟩)] (encT s) b [b, gk, gs, c, 7] (fun k => gapAt s k < s.size) (fun k => wErr s (gapAt s k) = 0) (fun k => ¬ gapAt s k < s.size) (fun k => wEnd s (gapAt s k)) k0 w := by
 intro l J Jx W hS hJ hJx hY h0
 have hRW := hR.same hS
 clear hR hS
 refine callsIn_of_wp Tryz.func110 rfl trivial ?_ rfl
 simp only [Tryz.ntmps110, List.size_toArray, List.length_cons, List.length_nil, Nat.reduceAdd, Nat.reduceSub, Array.replicate_succ, Array.replicate_zero, List.push_toArray, List.append_toArray, List.nil_append, List.cons_append]
 gi_wp2_with fail
 gi_loopw [] (fun wr => ∃ k : Nat, k ≤ s.size ∧ J k wr ∧ Rdy wr b gk gs c s k) (fun wr => s.size + 1 - posOf wr b)
 case atStart => exact ⟨k0, hk0, h0, hRW⟩
 case round =>
  clear hRW h0
  obtain ⟨k, hk, hj, hr⟩ := hrel
  have c0 : wr.cell? ⟨c, 0, none⟩ = some (.pointer (some ⟨b, 0, none⟩)) := by simp [World.cell?, hr.bx]
  have hpos := posOf_rd hr.rd
  have HP := Lib.hid hpos
  clear hpos
  gi_wp2_with fail
  refine ⟨trivial, CallsIn.mono (callsIn_wide.2 (gap_any hr.rd hk hs)) ?_⟩
  rintro e W1 ⟨rfl, hR1, hK1, hle⟩
  have hr1 := hr.kp hK1 hR1
  have hj1 := hJ _ _ _ hj hK1
  obtain ⟨p, hp⟩ : ∃ p, gapAt s k = p := ⟨_, rfl⟩
  have HPP := Lib.hid hp
  have hge := gap_ge s k
  have hYk := hY k
  dsimp only [encT] at hYk
  rw [hp] at hr1 hle hge hYk ⊢
  clear hp hR1 hK1 hj hr
  have c1 : W1.cell? ⟨c, 0, none⟩ = some (.pointer (some ⟨b, 0, none⟩)) := by simp [World.cell?, hr1.bx]
  by_cases hps : p < s.size
  ·have hd : decide (p < s.size) = true := decide_eq_true hps
   rw [hd]
   clear hd
   gi_wp2_with fail
   refine ⟨trivial, CallsIn.mono (callsIn_wide.2 (word_any hr1.rd hr1.okw hr1.osg hr1.n1 hr1.n2 hps hs hr1.er hr1.n4)) ?_⟩
   rintro e W2 ⟨rfl, hR2, hK2⟩
   have hr2 := hr1.kp hK2 hR2
   have hj2 := hJ _ _ _ hj1 hK2
   clear hR2 hK2 hj1 hr1
   obtain ⟨fn, tmps, assign, body, hy, hRR⟩ := hYk W2 hj2 hps
   unfold tokV at hy
   gi_wp2
   refine hRR.mono ?_
   rintro e W3 (⟨rfl, hJ3, hS3, hz3, hok⟩ | ⟨rfl, hJx3⟩)
   ·have hr3 := hr2.same hS3
    have hgt := wEnd_gt hps hok
    have hle2 := wEnd_le hps
    have hpos3 := posOf_rd hr3.rd
    have HP3 := Lib.hid hpos3
    clear hpos3
    gi_wp2
    go_roundw
    case rel => exact ⟨wEnd s p, hle2, hJ3, hr3⟩
    case measure =>
     rw [HP.out, HP3.out]
     omega
   ·gi_wp2
    refine bodyPost_ret (results_none rfl _ _ _) rfl ?_
    exact ⟨⟨_, rfl⟩, .inr hJx3⟩
  ·have hd : decide (p < s.size) = false := decide_eq_false hps
   rw [hd]
   clear hd
   gi_wp2
   go_end0
   exact ⟨⟨_, rfl⟩, .inl ⟨k, by rw [HPP.out]; exact hps, hj1⟩⟩
end Go.Proofs.YtjmlmelcppbefaaGreatDoor
namespace Go.Proofs.YtjmlmelcppbefaaGreatDoor
open Go.RowKit
def tokW (s : ByteArray) (p : Nat) : Wd := ⟨wKind s p, s.extract p (wEnd s p), wNum s p, (posAt s p).1, (posAt s p).2⟩
theorem lex_dec {s : ByteArray} {k : Nat} (h : gapAt s k < s.size) (h2 : wErr s (gapAt s k) = 0) : s.size - wEnd s (gapAt s k) < s.size - k := by
 have h1 := gap_ge s k
 have h3 := wEnd_gt h h2
 omega
def lexA (s : ByteArray) (k : Nat) (acc : List Wd) : List Wd × (Int × Int) × Int :=
 if _h : gapAt s k < s.size then
  if _h2 : wErr s (gapAt s k) = 0 then lexA s (wEnd s (gapAt s k)) (acc ++ [tokW s (gapAt s k)]) else ([], posAt s (gapAt s k), wErr s (gapAt s k))
 else (acc, (0, 0), 0)
termination_by s.size - k
decreasing_by exact lex_dec _h _h2
theorem lexA_end {s : ByteArray} {k : Nat} {acc : List Wd} (h : ¬ gapAt s k < s.size) : lexA s k acc = (acc, (0, 0), 0) := by
 rw [lexA.eq_def, dif_neg h]
theorem lexA_err {s : ByteArray} {k : Nat} {acc : List Wd} (h : gapAt s k < s.size) (h2 : ¬ wErr s (gapAt s k) = 0) : lexA s k acc = ([], posAt s (gapAt s k), wErr s (gapAt s k)) := by
 rw [lexA.eq_def, dif_pos h, dif_neg h2]
theorem lexA_on {s : ByteArray} {k : Nat} {acc : List Wd} (h : gapAt s k < s.size) (h2 : wErr s (gapAt s k) = 0) : lexA s (wEnd s (gapAt s k)) (acc ++ [tokW s (gapAt s k)]) = lexA s k acc := by
 rw [lexA.eq_def s k, dif_pos h, dif_pos h2]
def lexR (s : ByteArray) : List Wd × (Int × Int) × Int := if 65536 < s.size then ([], (0, 0), 3) else lexA s 0 []
structure Inv (w : World) (B0 : Nat) (s : ByteArray) (R : List Wd × (Int × Int) × Int) (k : Nat) (W : World) : Prop where
 ex : ∃ acc v, lexA s k acc = R ∧ acc.length ≤ k ∧ k ≤ s.size ∧ Boxed W (w.heap.size + 1) 69 v ∧ W.ownsRow B0 91 5 v acc.length (acc.flatMap Wd.cells)
 b2 : Boxed W (w.heap.size + 1 + 1) 26 (.int .i64 0)
 b3 : Ps W (w.heap.size + 1 + 1 + 1) (0, 0)
 b0 : Ps W w.heap.size (0, 0)
 bl : Below w.heap.size w W
 sz : B0 ≤ W.heap.size
structure Ivx (w : World) (R : List Wd × (Int × Int) × Int) (W : World) : Prop where
 b1 : Boxed W (w.heap.size + 1) 69 (.slice none 0 0)
 b2 : Boxed W (w.heap.size + 1 + 1) 26 (.int .i64 R.2.2)
 b3 : Ps W (w.heap.size + 1 + 1 + 1) R.2.1
 b0 : Ps W w.heap.size (0, 0)
 bl : Below w.heap.size w W
 nl : R.1 = []
theorem Ps.kept {W W' : World} {row : Option Nat} {b : Nat} {p : Int × Int} (h : Ps W b p) (hg : W.grownBy W' row) (hne : some b ≠ row) : Ps W' b p := (hg.block b h.lt hne).trans h
theorem Inv.kept {w : World} {B0 : Nat} {s : ByteArray} {R : List Wd × (Int × Int) × Int} {k : Nat} {W W' : World} {row : Option Nat} (h : Inv w B0 s R k W) (hg : W.grownBy W' row)
  (hr : ∀ r, row = some r → w.heap.size + 4 ≤ r ∧ (r < B0 ∨ ∃ o : Obj, W.heap[r]? = some o ∧ o.isCells = false)) : Inv w B0 s R k W' := by
 obtain ⟨acc, v, h1, h2, h3, h4, h5⟩ := h.ex
 have ne : ∀ x, x < 4 → some (w.heap.size + x) ≠ row := fun x hx e => by
  have := (hr _ e.symm).1
  omega
 refine ⟨⟨acc, v, h1, h2, h3, h4.kept hg (ne 1 (by decide)), h5.kept hg ?_⟩, h.b2.kept hg (ne 2 (by decide)), h.b3.kept hg (ne 3 (by decide)), h.b0.kept hg (ne 0 (by decide)), h.bl.grown hg h.bl.size (fun r e => by have := (hr r e).1; omega), Nat.le_trans h.sz hg.size⟩
 rcases h5.2 with ⟨rfl, _⟩ | ⟨g, cap, cur, rfl, hb, hgb, _⟩
 ·exact .inl rfl
 ·refine .inr fun e' => ?_
  rcases (hr g (by simpa [Value.ownBlock] using e'.symm)).2 with hlt | ⟨o, ho, hc⟩
  ·omega
  ·rw [hgb] at ho
   cases ho
   cases hc
theorem Ivx.kept {w : World} {R : List Wd × (Int × Int) × Int} {W W' : World} {row : Option Nat} (h : Ivx w R W) (hg : W.grownBy W' row) (hr : ∀ r, row = some r → w.heap.size + 4 ≤ r) : Ivx w R W' := by
 have ne : ∀ x, x < 4 → some (w.heap.size + x) ≠ row := fun x hx e => by
  have := hr _ e.symm
  omega
 exact ⟨h.b1.kept hg (ne 1 (by decide)), h.b2.kept hg (ne 2 (by decide)), h.b3.kept hg (ne 3 (by decide)), h.b0.kept hg (ne 0 (by decide)), h.bl.grown hg h.bl.size (fun r e => by have := hr r e; omega), h.nl⟩
theorem Kp.to_grown {W W' : World} {b : Nat} (h : Kp W W' b b) : W.grownBy W' (some b) := ⟨h.os, h.tape, h.output, h.size, fun k hk hne => h.block k hk (fun e => hne (by rw [e])) (fun e => hne (by rw [e]))⟩
theorem row_ne {W : World} {B0 e size n b : Nat} {v : Value} {xs : List Value} (h : W.ownsRow B0 e size v n xs) (hb : b < B0) : some b ≠ v.ownBlock := by
 intro e'
 have := (h.lt b e'.symm).1
 omega
theorem Inv.push {w : World} {B0 : Nat} {s : ByteArray} {R : List Wd × (Int × Int) × Int} {k k' : Nat} {W w1 : World} (h : Inv w B0 s R k W) (hb4 : w.heap.size + 4 ≤ B0) {acc : List Wd} {v v' : Value} {t : Wd} {o : Obj}
  (g4 : Boxed W (w.heap.size + 1) 69 v) (g5 : W.ownsRow B0 91 5 v acc.length (acc.flatMap Wd.cells)) (hown : w1.ownsRow B0 91 5 v' (acc.length + 1) (acc.flatMap Wd.cells ++ t.cells)) (hgrow : (W.alloc o).grownBy w1 v.ownBlock)
  (hR : lexA s k' (acc ++ [t]) = R) (hk : acc.length + 1 ≤ k') (hk' : k' ≤ s.size) :
  Boxed w1 (w.heap.size + 1) 69 v ∧ Inv w B0 s R k' (w1.setCell ⟨w.heap.size + 1, 0, none⟩ v') ∧ KeepsOthers W (w1.setCell ⟨w.heap.size + 1, 0, none⟩ v') ∧
   ∀ L : List Nat, (∀ j ∈ L, j < W.heap.size ∧ j ≠ w.heap.size + 1 ∧ j < B0) → SameL L W (w1.setCell ⟨w.heap.size + 1, 0, none⟩ v') := by
 have hv1 : Boxed w1 (w.heap.size + 1) 69 v := (g4.alloc o).kept hgrow (row_ne g5 (by omega))
 have hs := grownBy_setCell' w1 (w.heap.size + 1) v'
 have ne : ∀ x y, x ≠ y → some (w.heap.size + x) ≠ some (w.heap.size + y) := fun x y hxy e => by
  have := Option.some.inj e
  omega
 refine ⟨hv1, ⟨⟨acc ++ [t], v', hR, by simpa using hk, hk', hv1.set v', ?_⟩, ?_, ?_, ?_, ?_, ?_⟩, ?_, ?_⟩
 ·have h2 := hown.kept hs (.inr (row_ne hown (by omega : w.heap.size + 1 < B0)).symm)
  simpa using h2
 ·exact ((h.b2.alloc o).kept hgrow (row_ne g5 (by omega))).kept hs (ne 2 1 (by decide))
 ·exact ((h.b3.alloc o).kept hgrow (row_ne g5 (by omega))).kept hs (ne 3 1 (by decide))
 ·exact ((h.b0.alloc o).kept hgrow (row_ne g5 (by omega))).kept hs (ne 0 1 (by decide))
 ·have hsz := h.bl.size
  refine ((h.bl.alloc hsz o).grown hgrow (by simp; omega) (fun r e => ?_)).setCell (p := ⟨w.heap.size + 1, 0, none⟩) (Nat.le_succ _) v'
  have := (g5.lt r e).1
  omega
 ·have h1 := hgrow.size
  have h2 := hs.size
  have h3 := h.sz
  simp at h1
  omega
 ·refine ((KeepsOthers.alloc W o).trans (KeepsOthers.of_grownBy hgrow fun j o' ej hj => ?_)).trans (KeepsOthers.setCell _ _ _)
  rcases (g5.alloc o).2 with ⟨rfl, _⟩ | ⟨g, cap, cur, rfl, _, hgb, _⟩
  ·simp [Value.ownBlock] at ej
  ·obtain rfl : g = j := by simpa [Value.ownBlock] using ej
   rw [hgb] at hj
   cases hj
   rfl
 ·intro L hL j hj
  obtain ⟨h1, h2, h3⟩ := hL j hj
  exact (Below.heap_setCell w1 ⟨w.heap.size + 1, 0, none⟩ v' j h2).trans ((hgrow.block j (by simp; omega) (row_ne g5 h3)).trans (Below.heap_alloc W o j h1))
def LPost (w : World) (R : List Wd × (Int × Int) × Int) (e : Ending) (w' : World) : Prop :=
 ∃ v, e = .returned (.tuple #[v, .agg #[.int .i64 R.2.1.1, .int .i64 R.2.1.2], .int .i64 R.2.2]) ∧ w'.ownsRow w.heap.size 91 5 v R.1.length (R.1.flatMap Wd.cells) ∧ Below w.heap.size w w'
theorem ownsRow_base {w : World} {b b' e size n : Nat} {v : Value} {xs : List Value} (h : w.ownsRow b e size v n xs) (hb : b' ≤ b) : w.ownsRow b' e size v n xs := by
 refine ⟨h.1, ?_⟩
 rcases h.2 with hn | ⟨g, cap, cur, h1, h2, h3⟩
 ·exact .inl hn
 ·exact .inr ⟨g, cap, cur, h1, by omega, h3⟩
end Go.Proofs.YtjmlmelcppbefaaGreatDoor
namespace Go.Proofs.YtjmlmelcppbefaaGreatDoor
open Go.RowKit
theorem gap_bl {s : ByteArray} {k : Nat} (hk : k < s.size) (hb : isBl (byte s k) = true) : gapAt s (k + 1) = gapAt s k := by
 rw [gapAt.eq_def s k, gapAt.eq_def s (k + 1), endOf_yes hk hb]
theorem gap_at {s : ByteArray} {k : Nat} (hk : k < s.size) (hb : isBl (byte s k) = false) (h35 : ¬ (byte s k).toNat = 35) : gapAt s k = k := by
 have e : endOf isBl s k = k := endOf_no hk hb
 rw [gap_stop (by rw [e]; exact fun h => h35 h.2), e]
theorem gap_out {s : ByteArray} {k : Nat} (hk : s.size ≤ k) : gapAt s k = k := by
 have e : endOf isBl s k = k := endOf_end hk
 rw [gap_stop (by rw [e]; exact fun h => by have := h.1; omega), e]
end Go.Proofs.YtjmlmelcppbefaaGreatDoor
namespace Go.Proofs.YtjmlmelcppbefaaGreatDoor
open Go.RowKit Go.Shelf
attribute [local go_sem] Oper.semAt_some
theorem under23 : Tryz.prog.underlying 69 = some (.slice 91) := by kernel_rfl
theorem info39 : (Tryz.prog.info? 91).map (fun i => (i.zero, i.size, i.bytes)) = some (some (.agg #[.int .i64 0, .string ⟨#[]⟩, .int .i64 0, .int .i64 0, .int .i64 0]), 5, 48) := by kernel_rfl
theorem bxo {W : World} {B r k : Nat} {t : TypeId} {v u : Value} (h : Boxed W B t v) (hne : B ≠ r) : Boxed (W.setCell ⟨r, k, none⟩ u) B t v := (Below.heap_setCell W ⟨r, k, none⟩ u B hne).trans h
set_option maxRecDepth 100000 in
set_option maxHeartbeats 4000000 in
theorem lex_in (n : Nat) (hn : 4 ≤ n) (s : ByteArray) (w : World) (hs : s.size ≤ 65536) (hE : ErrR w) :
  CallsIn Fence.wide n Tryz.prog 34 #[.string s] w (LPost w (lexA s 0 [])) := by
 have h1 : 1 ≤ n := by omega
 have hsi : ¬ (65536 : Int) < (s.size : Int) := by omega
 obtain ⟨R, hR⟩ : ∃ R, lexA s 0 [] = R := ⟨_, rfl⟩
 have HR := Lib.hid hR
 rw [hR]
 clear hR
 refine callsIn_of_wp_marks Tryz.func34 rfl trivial ?_ rfl
 simp only [Tryz.ntmps34, List.size_toArray, List.length_cons, List.length_nil, Nat.reduceAdd, Nat.reduceSub, Array.replicate_succ, Array.replicate_zero, List.push_toArray, List.append_toArray, List.nil_append, List.cons_append]
 refine wpIn_wide.2 ?_
 go_wp2_with fail
 apply wp_scope_straight
 go_wp2_with fail
 obtain ⟨W0, hW0⟩ : ∃ W0, (((w.alloc (.cells #[.int .i64 0, .int .i64 0] 25)).alloc (.cells #[.slice none 0 0] 69)).alloc (.cells #[.int .i64 0] 26)).alloc (.cells #[.int .i64 0, .int .i64 0] 25) = W0 := ⟨_, rfl⟩
 have hsz : W0.heap.size = w.heap.size + 4 := by rw [← hW0]; simp
 have hb0 : Ps W0 w.heap.size (0, 0) := by
  have h : Ps (w.alloc (.cells #[.int .i64 0, .int .i64 0] 25)) w.heap.size (0, 0) := World.alloc_heap_new _ _
  rw [← hW0]
  exact ((h.alloc _).alloc _).alloc _
 have hb1 : Boxed W0 (w.heap.size + 1) 69 (.slice none 0 0) := by
  have := ((Boxed.new (w.alloc (.cells #[.int .i64 0, .int .i64 0] 25)) 69 (.slice none 0 0)).alloc (.cells #[.int .i64 0] 26)).alloc (.cells #[.int .i64 0, .int .i64 0] 25)
  rw [hW0] at this; simpa only [World.size_alloc] using this
 have hb2 : Boxed W0 (w.heap.size + 1 + 1) 26 (.int .i64 0) := by
  have := (Boxed.new ((w.alloc (.cells #[.int .i64 0, .int .i64 0] 25)).alloc (.cells #[.slice none 0 0] 69)) 26 (.int .i64 0)).alloc (.cells #[.int .i64 0, .int .i64 0] 25)
  rw [hW0] at this; simpa only [World.size_alloc] using this
 have hb3 : Ps W0 (w.heap.size + 1 + 1 + 1) (0, 0) := by
  have h : Ps ((((w.alloc (.cells #[.int .i64 0, .int .i64 0] 25)).alloc (.cells #[.slice none 0 0] 69)).alloc (.cells #[.int .i64 0] 26)).alloc (.cells #[.int .i64 0, .int .i64 0] 25)) _ (0, 0) := World.alloc_heap_new _ _
  rw [hW0] at h; simpa only [World.size_alloc] using h
 have hB0 : Below w.heap.size w W0 := by
  rw [← hW0]
  exact ((((Below.refl _ w).alloc (Nat.le_refl _) _).alloc (by simp) _).alloc (by simp; omega) _).alloc (by simp; omega) _
 rw [hW0]
 clear hW0
 have hlt1 := hE.1
 have hE0 := hE.below hB0 hlt1
 apply wp_label
 go_wp2_with fail
 refine (read_any s W0).mono ?_
 rintro e W1 ⟨b, gk, gs, rfl, hRd, hok, hos, hBl, hbge, hn1, hn2⟩
 have hE1 := hE0.below hBl hE0.1
 go_wp2_with fail
 refine (words_any b W1).mono ?_
 rintro e W2 ⟨rfl, rfl⟩
 have hBX : Below W1.heap.size W1 (W1.alloc (.cells #[.pointer (some ⟨b, 0, none⟩)] 121)) := (Below.refl _ _).alloc (Nat.le_refl _) _
 have hRd2 := hRd.alloc (.cells #[.pointer (some ⟨b, 0, none⟩)] 121)
 have hbx : (W1.alloc (.cells #[.pointer (some ⟨b, 0, none⟩)] 121)).heap[W1.heap.size]? = some (.cells #[.pointer (some ⟨b, 0, none⟩)] 121 (0, 0)) := World.alloc_heap_new _ _
 have hlb := hRd.lt
 have hrdy : Rdy (W1.alloc (.cells #[.pointer (some ⟨b, 0, none⟩)] 121)) b gk gs W1.heap.size s 0 :=
  ⟨hRd2, owns_below hok hBX hok.lt, owns_below hos hBX hos.lt, hE1.below hBX hE1.1, hbx, Ne.symm hn1, Ne.symm hn2, by omega, by omega⟩
 have hsz1 := hBl.size
 have hlk := hok.lt
 have hls := hos.lt
 have hBL : Below W0.heap.size W0 (W1.alloc (.cells #[.pointer (some ⟨b, 0, none⟩)] 121)) := hBl.trans (hBX.mono hsz1)
 have hsz2 : (W1.alloc (.cells #[.pointer (some ⟨b, 0, none⟩)] 121)).heap.size = W1.heap.size + 1 := by simp
 have hInv : Inv w (W1.alloc (.cells #[.pointer (some ⟨b, 0, none⟩)] 121)).heap.size s R 0 (W1.alloc (.cells #[.pointer (some ⟨b, 0, none⟩)] 121)) :=
  ⟨⟨[], _, HR.out, Nat.le_refl _, Nat.zero_le _, (hBL.block _ hb1.lt).trans hb1, World.ownsRow_nil _ _ _ _⟩, (hBL.block _ hb2.lt).trans hb2, hb3.below hBL hb3.lt, hb0.below hBL hb0.lt, hB0.trans (hBL.mono (by omega)), Nat.le_refl _⟩
 clear hRd hok hos hBl hE0 hE1 hBX hRd2 hbx hb0 hb1 hb2 hb3 hB0 hBL HR
 generalize hWL : W1.alloc (.cells #[.pointer (some ⟨b, 0, none⟩)] 121) = WL at *
 clear hWL
 have hsz3 : W1.heap.size < WL.heap.size := by omega
 clear hsz2
 go_wp2_with fail
 rename_i hx K hK
 have hT : ∀ (D : Nat) (W : World) (v : Value), WL.heap.size ≤ D → W.heap[D]? = some (.deferred (some [])) → Boxed W (w.heap.size + 1) 69 v → Boxed W (w.heap.size + 1 + 1) 26 (.int .i64 R.2.2) → Ps W (w.heap.size + 1 + 1 + 1) R.2.1 → Ps W w.heap.size (0, 0) →
   W.ownsRow WL.heap.size 91 5 v R.1.length (R.1.flatMap Wd.cells) → Below w.heap.size w W →
   K { tmps := #[.string s, undef, .slice none 0 0, .pointer (some ⟨w.heap.size, 0, none⟩), .int .i64 0, .pointer (some ⟨w.heap.size + 1, 0, none⟩), .pointer (some ⟨w.heap.size + 1 + 1, 0, none⟩), .pointer (some ⟨w.heap.size + 1 + 1 + 1, 0, none⟩), undef, undef, .string s, .int .i64 s.size, .bool (decide ((65536 : Int) < s.size)), undef, .string s, .pointer (some ⟨b, 0, none⟩), .func (.func 110) #[] #[.pointer (some ⟨W1.heap.size, 0, none⟩)], undef, undef, undef, undef, undef, undef, undef, undef, undef, undef, undef, undef, undef, undef], defers := [{ target := .collected D, args := #[] }] } W := by
  intro D W v hD hKD q1 q2 q3 q0 hown hbl
  refine hK _ _ ?_
  clear hK K
  have c1 := q1.cell
  have c2 := q2.cell
  have c30 := q3.c0
  have c31 := q3.c1
  have c00 := q0.c0
  have c01 := q0.c1
  have f0 := q0.frozen 0
  have f1 := q0.frozen 1
  go_wp2_with fail
  go_region
  go_wp2_with fail
  rw [Exit.noGoto_ret]
  have hne : D ≠ w.heap.size := by omega
  have Q0 : Ps (((W.setCell ⟨w.heap.size, 0, none⟩ (.int .i64 R.2.1.1)).setCell ⟨w.heap.size, 1, none⟩ (.int .i64 R.2.1.2)).drew) w.heap.size (R.2.1.1, R.2.1.2) := (q0.set0 R.2.1.1).set1 R.2.1.2
  have hK2 : (((W.setCell ⟨w.heap.size, 0, none⟩ (.int .i64 R.2.1.1)).setCell ⟨w.heap.size, 1, none⟩ (.int .i64 R.2.1.2)).drew).heap[D]? = some (.deferred (some [])) :=
   (Below.heap_setCell _ ⟨w.heap.size, 1, none⟩ _ D hne).trans ((Below.heap_setCell _ ⟨w.heap.size, 0, none⟩ _ D hne).trans hKD)
  have hB2 : Below w.heap.size w (((W.setCell ⟨w.heap.size, 0, none⟩ (.int .i64 R.2.1.1)).setCell ⟨w.heap.size, 1, none⟩ (.int .i64 R.2.1.2)).drew) :=
   ((hbl.setCell (p := ⟨w.heap.size, 0, none⟩) (Nat.le_refl _) _).setCell (p := ⟨w.heap.size, 1, none⟩) (Nat.le_refl _) _).drew
  have hG : W.grownBy (((W.setCell ⟨w.heap.size, 0, none⟩ (.int .i64 R.2.1.1)).setCell ⟨w.heap.size, 1, none⟩ (.int .i64 R.2.1.2)).drew) (some w.heap.size) :=
   ⟨rfl, rfl, rfl, by simp [World.setCell, World.drew], fun k hk hne => (Below.heap_setCell _ ⟨w.heap.size, 1, none⟩ _ k (fun e => hne (by rw [e]))).trans (Below.heap_setCell _ ⟨w.heap.size, 0, none⟩ _ k (fun e => hne (by rw [e])))⟩
  have hO2 := hown.kept hG (by
   rcases hown.2 with ⟨rfl, _⟩ | ⟨g, cap, cur, rfl, hb, hgb, _⟩
   ·exact .inl rfl
   ·refine .inr fun e' => ?_
    have : g = w.heap.size := by simpa [Value.ownBlock] using e'
    omega)
  generalize ((W.setCell ⟨w.heap.size, 0, none⟩ (.int .i64 R.2.1.1)).setCell ⟨w.heap.size, 1, none⟩ (.int .i64 R.2.1.2)).drew = Wf at *
  refine ⟨by simp, .inl ⟨_, _, rfl, run_takeDeferred hK2, ?_⟩⟩
  have Q1 : Ps (Wf.putObj D (.deferred none)) w.heap.size (R.2.1.1, R.2.1.2) := (World.putObj_heap_other (Ne.symm hne)).trans Q0
  have e0 := Q1.c0
  have e1 := Q1.c1
  refine ⟨_, by simp [results, Tryz.f34, go_sem, e0, e1], ⟨v, rfl, ?_, ?_⟩⟩
  ·exact ownsRow_base (ownsRow_putObj hO2 _ hK2 rfl) (by omega)
  ·exact hB2.trans (belowK_b (w := w) (Nat.le_refl _) Wf D _ _ (by omega) hK2 rfl rfl)
 clear hK
 have hszL : w.heap.size + 4 ≤ WL.heap.size := by omega
 have hLL : ∀ j ∈ [b, gk, gs, W1.heap.size, 7], j < WL.heap.size := by
  intro j hj
  have h1 := hrdy.er.1
  simp only [List.mem_cons, List.not_mem_nil, or_false] at hj
  omega
 have kne : ∀ (g n : Nat) (D : DataW Unit), WL.ownsMap Tryz.prog 9 (plainElem Tryz.prog 3) g n D → g ≠ w.heap.size + 1 := fun g n D hg e => by
  obtain ⟨acc, v, _, _, _, hx, _⟩ := hInv.ex
  obtain ⟨es, clock, h2, _⟩ := hg
  rw [e, show WL.heap[w.heap.size + 1]? = _ from hx] at h2
  cases h2
 have hLB : ∀ j ∈ [b, gk, gs, W1.heap.size, 7], j ≠ w.heap.size + 1 := by
  intro j hj
  have k1 := kne _ _ _ hrdy.okw
  have k2 := kne _ _ _ hrdy.osg
  simp only [List.mem_cons, List.not_mem_nil, or_false] at hj
  omega
 clear kne
 obtain ⟨i0, hi0, hz0, hz1, hz2⟩ := info_parts info39
 refine (wpIn_wide (n := n)).1 ?_
 refine wpIn_rangeFunc_rd (F := Fence.wide) rfl h1 (gf := 110) (lb := #[.pointer (some ⟨W1.heap.size, 0, none⟩)]) rfl trivial (enters_of Tryz.func110 (by kernel_rfl) rfl)
  (words1_in (n - 1) (by omega) hrdy (Nat.zero_le _) (by omega)) (by omega) ?hL (fun _ => rfl)
  (Inv w WL.heap.size s R) (fun c W => c = .exit 0 ∧ Ivx w R W) ?hI ?hIx ?hIb ?hIxb hInv ?round ?done ?stop
 case hL => exact hLL
 case hI => exact fun s' A B row hs hg hr => hs.kept hg (fun r e => ⟨by have := (hr r e).1; omega, .inr (hr r e).2⟩)
 case hIx => exact fun c s' A B row hs hg hr => ⟨hs.1, hs.2.kept hg (fun r e => by have := (hr r e).1; omega)⟩
 case hIb => exact fun k A B hs hk => hs.kept hk.to_grown (fun r e => by cases e; exact ⟨by omega, .inl (by omega)⟩)
 case hIxb => exact fun c A B hs hk => ⟨hs.1, hs.2.kept hk.to_grown (fun r e => by cases e; omega)⟩
 case round =>
  clear hT hInv
  intro l k W hi hbd
  rw [show encT s k = #[.agg #[.int .i64 (tokW s (gapAt s k)).kind, .string (tokW s (gapAt s k)).text, .int .i64 (tokW s (gapAt s k)).num, .int .i64 (tokW s (gapAt s k)).line, .int .i64 (tokW s (gapAt s k)).col], .int .i64 (wErr s (gapAt s k))] from rfl]
  generalize ht : tokW s (gapAt s k) = t
  generalize her : wErr s (gapAt s k) = er
  have HT := Lib.hid ht
  have HER := Lib.hid her
  clear ht her
  gi_wp2
  refine ⟨KeepsOthers.alloc _ _, fun j hj => Below.heap_alloc _ _ _ ?_, fun W2 => Inv w WL.heap.size s R k W2 ∧ Tk W2 W.heap.size t.kind t.text t.num (t.line, t.col), ?_, ⟨?_, ?_⟩, ?_⟩
  ·exact Nat.lt_of_lt_of_le (hLL j hj) hi.sz
  ·intro s' A B row hs hg hr
   refine ⟨hs.1.kept hg (fun r e => ⟨by have := (hr r e).1; omega, .inr (hr r e).2⟩), hs.2.of (hg.block _ hs.2.lt (fun e => ?_))⟩
   obtain ⟨_, o, ho, hc⟩ := hr _ e.symm
   rw [hs.2] at ho
   cases ho
   cases hc
  ·exact hi.kept (World.grownBy_alloc _ _ none) (fun r e => by cases e)
  ·exact World.alloc_heap_new _ _
  rintro W2 ⟨hi2, htk⟩
  obtain ⟨acc, v, g1, g2, g3, g4, g5⟩ := hi2.ex
  have hge := gap_ge s k
  have t0 := htk.c0
  have t1 := htk.c1
  have t2 := htk.c2
  have t3 := htk.c3
  have t4 := htk.c4
  have c1 := g4.cell
  have f1 := g4.frozen
  by_cases he : er = 0
  ·subst he
   have hgt := wEnd_gt hbd HER.out
   have hle := wEnd_le hbd
   have hRR : lexA s (wEnd s (gapAt s k)) (acc ++ [t]) = R := by
    rw [← HT.out]
    exact (lexA_on hbd HER.out).trans g1
   have HRR := Lib.hid hRR
   have hpush := fun w1 v' o hown hgrow => hi2.push (w1 := w1) (v' := v') (o := o) hszL g4 g5 hown hgrow hRR (by omega) hle
   have HPU := Lib.hid hpush
   have HL := Lib.hid (And.intro g2 g3)
   clear hRR hpush g1 g2 g3
   gi_wp2_with (gi_at_builtin; refine wpListIn_append_own _ rfl (.tmp 24) (.tmp 26) 69 rfl WL.heap.size 91 i0 (.agg #[.int .i64 0, .string ⟨#[]⟩, .int .i64 0, .int .i64 0, .int .i64 0]) 5 48 under23 hi0 hz0 hz1 hz2 rfl (by decide) v acc.length (acc.flatMap Wd.cells) rfl (g5.alloc _) ⟨W2.heap.size, 0, none⟩ 1 1 t.cells rfl rfl ?c2 ?c3 ?c4 ?c5 ?c6 ?_)
   case c2 => exact fun j u h => h
   case c3 => simp [Wd.cells, Value.oneCell']
   case c4 => have := HL.out; unfold maxLen; omega
   case c5 => have := HL.out; omega
   case c6 =>
    have := hi2.sz
    simp
    omega
   intro v' w1 hown' hgrow _
   obtain ⟨g, cap, rfl⟩ := ownsRow_succ hown'
   obtain ⟨hv1, hI3, hK3, hS3⟩ := HPU.out _ _ _ hown' hgrow
   have d1 := hv1.cell
   have e1 := hv1.frozen
   gi_wp2
   refine ⟨hK3, hS3 _ (fun j hj => ⟨Nat.lt_of_lt_of_le (hLL j hj) hi2.sz, hLB j hj, hLL j hj⟩), HER.out, hI3⟩
  ·have hne : (er == 0) = false := by rw [beq_eq_false_iff_ne]; exact he
   have hne2 : (er != 0) = true := by rw [bne_iff_ne]; exact he
   have hRR : R = ([], (t.line, t.col), er) := by
    have h2 := lexA_err (s := s) (k := k) (acc := acc) hbd (by rw [HER.out]; exact he)
    rw [g1] at h2
    rw [h2, ← HT.out, HER.out]
    rfl
   have HRR := Lib.hid hRR
   clear hRR g1 g2 g3 he
   gi_wp2_with fail
   have b2c := hi2.b2.cell
   have b2f := hi2.b2.frozen
   have b30 := hi2.b3.c0
   have b31 := hi2.b3.c1
   have b3f0 := hi2.b3.frozen 0
   have b3f1 := hi2.b3.frozen 1
   have hmx : Tryz.prog.follows .mixedOrders = true := by kernel_rfl
   have hszt := Nat.le_trans hszL hi.sz
   refine wpIn_region_round [5] (fun W1 => Tk W1 W.heap.size t.kind t.text t.num (t.line, t.col)) hmx (by kernel_rfl) (fun h => by obtain ⟨_, _, h⟩ := h; exact h) ?_
   refine wpX_take 0 (v := ?v0) rfl (by kernel_rfl) (by kernel_rfl) (by kernel_rfl) (by kernel_rfl) (fun _ _ _ h => h) htk (Or.inl ⟨by rfl, ?h0⟩) ?_
   case h0 => (intro W1 hS1; go_simp; with_reducible rfl)
   refine wpX_take 1 (v := ?v1) rfl (by kernel_rfl) (by kernel_rfl) (by kernel_rfl) (by kernel_rfl) (fun _ _ _ h => h) htk (Or.inl ⟨by rfl, ?h1⟩) ?_
   case h1 => (intro W1 hS1; have s3 := hS1.c3; have s4 := hS1.c4; go_simp; with_reducible rfl)
   refine wpX_take 2 (v := ?v2) rfl (by kernel_rfl) (by kernel_rfl) (by kernel_rfl) (by kernel_rfl) (fun _ _ _ h => h) htk (Or.inl ⟨by rfl, ?h2⟩) ?_
   case h2 => (intro W1 hS1; go_simp; with_reducible rfl)
   refine wpX_one 3 (by kernel_rfl) rfl (fun K hK => ?_)
   go_simp
   refine hK _ _ (fun _ => htk.other (by omega) _ _) ?_
   clear hK K
   refine wpX_one 4 (by kernel_rfl) rfl (fun K hK => ?_)
   go_simp
   refine hK _ _ (fun _ => ((htk.other (r := w.heap.size + 1) (by omega) 0 (.slice none 0 0)).other (r := w.heap.size + 1 + 1 + 1) (by omega) 0 (.int .i64 t.line)).other (r := w.heap.size + 1 + 1 + 1) (by omega) 1 (.int .i64 t.col)) ?_
   clear hK K
   refine wpX_one 5 (by kernel_rfl) rfl (fun K hK => ?_)
   go_simp
   refine hK _ _ (fun h => by cases h) ?_
   clear hK K
   refine wpX_done (by kernel_rfl) ?_ _
   gi_wp2
   have hR2 := HRR.out
   subst hR2
   have B1 := (bxo (k := 0) (u := .int .i64 er) (bxo (k := 1) (u := .int .i64 t.col) (bxo (k := 0) (u := .int .i64 t.line) (g4.set (.slice none 0 0)) (r := w.heap.size + 1 + 1 + 1) (by omega)) (r := w.heap.size + 1 + 1 + 1) (by omega)) (r := w.heap.size + 1 + 1) (by omega))
   have B2 := (bxo (k := 1) (u := .int .i64 t.col) (bxo (k := 0) (u := .int .i64 t.line) (bxo (k := 0) (u := .slice none 0 0) hi2.b2 (r := w.heap.size + 1) (by omega)) (r := w.heap.size + 1 + 1 + 1) (by omega)) (r := w.heap.size + 1 + 1 + 1) (by omega)).set (.int .i64 er)
   have B3 := (((hi2.b3.other (b' := w.heap.size + 1) (by omega) 0 (.slice none 0 0)).set0 t.line).set1 t.col).other (b' := w.heap.size + 1 + 1) (by omega) 0 (.int .i64 er)
   have B0 := (((hi2.b0.other (b' := w.heap.size + 1) (by omega) 0 (.slice none 0 0)).other (b' := w.heap.size + 1 + 1 + 1) (by omega) 0 (.int .i64 t.line)).other (b' := w.heap.size + 1 + 1 + 1) (by omega) 1 (.int .i64 t.col)).other (b' := w.heap.size + 1 + 1) (by omega) 0 (.int .i64 er)
   have BL := (((hi2.bl.setCell (p := ⟨w.heap.size + 1, 0, none⟩) (by simp) (.slice none 0 0)).setCell (p := ⟨w.heap.size + 1 + 1 + 1, 0, none⟩) (by simp; omega) (.int .i64 t.line)).setCell (p := ⟨w.heap.size + 1 + 1 + 1, 1, none⟩) (by simp; omega) (.int .i64 t.col)).setCell (p := ⟨w.heap.size + 1 + 1, 0, none⟩) (by simp; omega) (.int .i64 er)
   refine ⟨((((KeepsOthers.setCell _ _ _).trans (KeepsOthers.setCell _ _ _)).trans (KeepsOthers.setCell _ _ _)).trans (KeepsOthers.setCell _ _ _)).trans (KeepsOthers.drew _), rfl, ⟨B1, B2, B3, B0, BL.drew, rfl⟩⟩
 case done =>
  intro D k W hD hfin hi hKD
  obtain ⟨acc, v, h1, h2, h3, h4, h5⟩ := hi.ex
  have hR1 := (lexA_end hfin).symm.trans h1
  subst hR1
  exact hT D W v hD hKD h4 hi.b2 hi.b3 hi.b0 h5 hi.bl
 case stop =>
  rintro D c W hD ⟨rfl, hi⟩ hKD
  refine wpIn_exit ?_
  refine hT D W _ hD hKD hi.b1 hi.b2 hi.b3 hi.b0 ?_ hi.bl
  rw [hi.nl]
  exact World.ownsRow_nil _ _ _ _
set_option maxRecDepth 100000 in
set_option maxHeartbeats 1000000 in
theorem lex_long (s : ByteArray) (w : World) (hs : 65536 < s.size) : Calls Tryz.prog 34 #[.string s] w (LPost w ([], (0, 0), 3)) := by
 have hsi : (65536 : Int) < (s.size : Int) := by omega
 have hA : Ps (w.alloc (.cells #[.int .i64 0, .int .i64 0] 25)) w.heap.size (0, 0) := World.alloc_heap_new _ _
 have hB : Below w.heap.size w (w.alloc (.cells #[.int .i64 0, .int .i64 0] 25)) := (Below.refl _ w).alloc (Nat.le_refl _) _
 go_enter Tryz.func34, Tryz.ntmps34
 go_wp2_with fail
 apply wp_scope_straight
 go_wp2_with fail
 have e0 := hA.c0
 have e1 := hA.c1
 refine bodyPost_ret (v := .tuple #[.slice none 0 0, .agg #[.int .i64 0, .int .i64 0], .int .i64 3]) (by simp [results, Tryz.f34, go_sem, e0, e1]) rfl ⟨_, rfl, World.ownsRow_nil _ _ _ _, ?_⟩
 exact hB
theorem lex_any (s : ByteArray) (w : World) (hE : ErrR w) : Calls Tryz.prog 34 #[.string s] w (LPost w (lexR s)) := by
 unfold lexR
 by_cases h : 65536 < s.size
 ·rw [if_pos h]
  exact lex_long s w h
 ·rw [if_neg h]
  exact (callsIn_wide (n := 9)).1 (lex_in 9 (by decide) s w (by omega) hE)
end Go.Proofs.YtjmlmelcppbefaaGreatDoor
