/- The iterator over a text's words: it hands each word with its error to the loop's body, in order, till the body says stop. Asked: the reader lies, its maps, its box; ErrRange is laid. -/
import Derived.Test.YtinfocnihngbiaaDoorIter
namespace Go.Proofs.YtinfocnihngbiaaDoor
open Go.RowKit Go.Maps
attribute [local go_sem] Oper.semAt_some

/-- The word at byte p, as a value; what a round gets. -/
def tokV (s : ByteArray) (p : Nat) : Value := .agg #[.int .i64 (wKind s p), .string (s.extract p (wEnd s p)), .int .i64 (wNum s p), .int .i64 (posAt s p).1, .int .i64 (posAt s p).2]
abbrev encT (s : ByteArray) (k : Nat) : Array Value := #[tokV s (gapAt s k), .int .i64 (wErr s (gapAt s k))]
/-- How far the reader in block b is. -/
def posOf (w : World) (b : Nat) : Nat := match w.cell? ⟨b, 3, none⟩ with
  | some (.int _ k) => k.toNat
  | _ => 0
theorem posOf_rd {w : World} {b k : Nat} {s : ByteArray} {kw sg : Value} (h : Rd w b s k kw sg) : posOf w b = k := by unfold posOf; rw [h.c3]; simp

/-- The reader with all that it needs: its maps, its box (block c), ErrRange. -/
structure Rdy (w : World) (b gk gs c : Nat) (s : ByteArray) (k : Nat) : Prop where
  rd : Rd w b s k (.map (some gk)) (.map (some gs))
  okw : w.ownsMap Tryd.prog 9 (plainElem Tryd.prog 3) gk 20 (Lst kwL 20)
  osg : w.ownsMap Tryd.prog 9 (plainElem Tryd.prog 3) gs 20 (Lst sgL 20)
  er : ErrR w
  bx : w.heap[c]? = some (.cells #[.pointer (some ⟨b, 0, none⟩)] 45 (0, 0))
  n1 : gk ≠ b
  n2 : gs ≠ b
  n3 : c ≠ b
  n4 : b ≠ 1
theorem ErrR.same {A B : World} (h : ErrR A) (he : B.heap[1]? = A.heap[1]?) : ErrR B := by
  obtain ⟨h1, te, pe, hc⟩ := h
  have h2 : B.heap[1]? ≠ none := by rw [he, Array.getElem?_eq_getElem h1]; simp
  refine ⟨?_, te, pe, ?_⟩
  · rcases Nat.lt_or_ge 1 B.heap.size with h | h
    · exact h
    · exact absurd (Array.getElem?_eq_none h) h2
  · unfold World.cell? at hc ⊢
    simp only [he]
    exact hc
theorem owns_same {w w' : World} {g n : Nat} {D : DataW Unit} (h : w.ownsMap Tryd.prog 9 (plainElem Tryd.prog 3) g n D) (he : w'.heap[g]? = w.heap[g]?) : w'.ownsMap Tryd.prog 9 (plainElem Tryd.prog 3) g n D := by
  obtain ⟨es, clock, h1, h2⟩ := h
  exact ⟨es, clock, he.trans h1, h2⟩
theorem Rdy.same {A B : World} {b gk gs c k : Nat} {s : ByteArray} (h : Rdy A b gk gs c s k) (hs : SameL [b, gk, gs, c, 1] A B) : Rdy B b gk gs c s k :=
  ⟨h.rd.of (hs b (by simp)), owns_same h.okw (hs gk (by simp)), owns_same h.osg (hs gs (by simp)), h.er.same (hs 1 (by simp)), (hs c (by simp)).trans h.bx, h.n1, h.n2, h.n3, h.n4⟩
theorem Rdy.kp {A B : World} {b gk gs c k k' : Nat} {s : ByteArray} (h : Rdy A b gk gs c s k) (hk : Kp A B b b) (hr : Rd B b s k' (.map (some gk)) (.map (some gs))) : Rdy B b gk gs c s k' :=
  ⟨hr, owns_keep h.okw hk h.n1 h.n1, owns_keep h.osg hk h.n2 h.n2, h.er.same (hk.block 1 h.er.1 (Ne.symm h.n4) (Ne.symm h.n4)), (hk.block c (Array.getElem?_eq_some_iff.1 h.bx).1 h.n3 h.n3).trans h.bx, h.n1, h.n2, h.n3, h.n4⟩

theorem gap_ge (s : ByteArray) (k : Nat) : k ≤ gapAt s k := by
  suffices H : ∀ n k, s.size - k ≤ n → k ≤ gapAt s k from H _ k (Nat.le_refl _)
  intro n
  induction n with
  | zero =>
    intro k hk
    have h2 := endOf_ge isBl s k
    rw [gap_stop (fun h => by have := h.1; omega)]
    exact h2
  | succ n ih =>
    intro k hk
    have h2 := endOf_ge isBl s k
    by_cases h : endOf isBl s k < s.size ∧ (byte s (endOf isBl s k)).toNat = 35
    · have h1 := hash_on h.1 h.2
      have h3 := ih (endOf isNoNl s (endOf isBl s k)) (by omega)
      rw [gap_hash h.1 h.2] at h3
      omega
    · rw [gap_stop h]
      exact h2

set_option maxRecDepth 100000 in
set_option maxHeartbeats 2000000 in
theorem words1_in (n : Nat) (hn : 1 ≤ n) {w : World} {b gk gs c k0 : Nat} {s : ByteArray} (hR : Rdy w b gk gs c s k0) (hk0 : k0 ≤ s.size) (hs : s.size ≤ 4294967296) :
    ItRun Fence.wide n Tryd.prog 35 #[.pointer (some ⟨c, 0, none⟩)] (encT s) b [b, gk, gs, c, 1] (fun k => gapAt s k < s.size) (fun k => wErr s (gapAt s k) = 0) (fun k => ¬ gapAt s k < s.size) (fun k => wEnd s (gapAt s k)) k0 w := by
  intro l J Jx W hS hJ hJx hY h0
  have hRW := hR.same hS
  clear hR hS
  refine callsIn_of_wp Tryd.func35 rfl trivial ?_ rfl
  simp only [Tryd.ntmps35, List.size_toArray, List.length_cons, List.length_nil, Nat.reduceAdd, Nat.reduceSub, Array.replicate_succ, Array.replicate_zero, List.push_toArray, List.append_toArray, List.nil_append, List.cons_append]
  gi_wp2_with fail
  gi_loopw [] (fun wr => ∃ k : Nat, k ≤ s.size ∧ J k wr ∧ Rdy wr b gk gs c s k) (fun wr => s.size + 1 - posOf wr b)
  case atStart => exact ⟨k0, hk0, h0, hRW⟩
  case round =>
    clear hRW h0
    obtain ⟨k, hk, hj, hr⟩ := hrel
    have c0 : wr.cell? ⟨c, 0, none⟩ = some (.pointer (some ⟨b, 0, none⟩)) := by simp [World.cell?, hr.bx]
    have hpos := posOf_rd hr.rd
    have HP := Lib.hid hpos
    clear hpos
    gi_wp2_with fail
    refine ⟨trivial, CallsIn.mono (callsIn_wide.2 (gap_any hr.rd hk hs)) ?_⟩
    rintro e W1 ⟨rfl, hR1, hK1, hle⟩
    have hr1 := hr.kp hK1 hR1
    have hj1 := hJ _ _ _ hj hK1
    obtain ⟨p, hp⟩ : ∃ p, gapAt s k = p := ⟨_, rfl⟩
    have HPP := Lib.hid hp
    have hge := gap_ge s k
    have hYk := hY k
    dsimp only [encT] at hYk
    rw [hp] at hr1 hle hge hYk ⊢
    clear hp hR1 hK1 hj hr
    have c1 : W1.cell? ⟨c, 0, none⟩ = some (.pointer (some ⟨b, 0, none⟩)) := by simp [World.cell?, hr1.bx]
    by_cases hps : p < s.size
    · have hd : decide (p < s.size) = true := decide_eq_true hps
      rw [hd]
      clear hd
      gi_wp2_with fail
      refine ⟨trivial, CallsIn.mono (callsIn_wide.2 (word_any hr1.rd hr1.okw hr1.osg hr1.n1 hr1.n2 hps hs hr1.er hr1.n4)) ?_⟩
      rintro e W2 ⟨rfl, hR2, hK2⟩
      have hr2 := hr1.kp hK2 hR2
      have hj2 := hJ _ _ _ hj1 hK2
      clear hR2 hK2 hj1 hr1
      obtain ⟨fn, tmps, assign, body, hy, hRR⟩ := hYk W2 hj2 hps
      unfold tokV at hy
      gi_wp2
      refine hRR.mono ?_
      rintro e W3 (⟨rfl, hJ3, hS3, hz3, hok⟩ | ⟨rfl, hJx3⟩)
      · have hr3 := hr2.same hS3
        have hgt := wEnd_gt hps hok
        have hle2 := wEnd_le hps
        have hpos3 := posOf_rd hr3.rd
        have HP3 := Lib.hid hpos3
        clear hpos3
        gi_wp2
        go_roundw
        case rel => exact ⟨wEnd s p, hle2, hJ3, hr3⟩
        case measure =>
          rw [HP.out, HP3.out]
          omega
      · gi_wp2
        refine bodyPost_ret (results_none rfl _ _ _) rfl ?_
        exact ⟨⟨_, rfl⟩, .inr hJx3⟩
    · have hd : decide (p < s.size) = false := decide_eq_false hps
      rw [hd]
      clear hd
      gi_wp2
      go_end0
      exact ⟨⟨_, rfl⟩, .inl ⟨k, by rw [HPP.out]; exact hps, hj1⟩⟩
end Go.Proofs.YtinfocnihngbiaaDoor
