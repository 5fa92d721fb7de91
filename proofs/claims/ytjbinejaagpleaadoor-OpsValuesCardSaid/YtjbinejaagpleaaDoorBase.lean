/- Laws that speak of no function: regions that draw, in a round; what is kept of memory; a range over an iterator. No condition. -/
import Derived.RangeFuncNested
import Derived.RangeFuncBound
import Derived.RangeFuncCalls
import Derived.RangeFuncLeaves
import Derived.RangeFuncFrom
import Derived.RangeFuncBox
import Derived.Shelf.Abstract
import Derived.Shelf.RegionOpen
import Derived.WalkKit
import Derived.OwnWalkIn
import Derived.TacticsInMore
import Derived.LoopNIn
import Derived.LoopIn
import Derived.Lib.Hide
import Derived.Deep.QuietTactic
import Derived.BigQuiet
import Derived.Deep.RegionHeld3
import Derived.Outline
import Derived.WalkSmall
import Derived.Test.YtjbinejaagpleaaDoorProg
import Derived.Handy
import Derived.Below
import Derived.OrdersHeld
import Derived.OrdersIn
import Derived.IntWalk
import Derived.OwnWalk
import Derived.WalkMore
import Derived.StillTailTactics
import Derived.Recover
import Derived.Defers
namespace Go.Proofs.YtjbinejaagpleaaDoor
open Go.RowKit


def isDefer : Op → Bool
  | .defer _ => true
  | _ => false

theorem rowsIn_of {n : Nat} {P : Program} {l : Nat} {row : String} {args : Array Value} {w : World} {R : Value → World → Prop} (h : Rows P row args w R) : RowsIn (Fence.wide.inRound l) n P row args w R :=
  fun c cs _ => let ⟨v, w', r, s⟩ := h c cs; ⟨v, w', r, stepsIn_wide.2 s⟩

theorem callsIn_of {n : Nat} {P : Program} {l : Nat} {f : FuncId} {args : Array Value} {w : World} {R : Ending → World → Prop} (h : Calls P f args w R) : CallsIn (Fence.wide.inRound l) n P f args w R :=
  CallsIn.inRound l (callsIn_wide.2 h)

theorem wpOpIn_of {n : Nat} {P : Program} {l : Nat} {ops : Array Oper} {Q : Exit → Act → World → Prop} (hd : ∀ (i : Nat) (o : Oper), ops[i]? = some o → isDefer o.op = false) (hno : ¬ LetsOut Q)
    {i : Nat} {K : Act → World → Prop} {a : Act} {w : World} (h : wpOp P ops Q i K a w) : wpOpIn (Fence.wide.inRound l) n P ops Q i K a w := by
  unfold wpOp at h
  unfold wpOpIn
  cases hi : ops[i]? with
  | none => simpa [hi] using h
  | some o =>
    simp only [hi] at h ⊢
    split
    · rename_i hw
      simp only [hw, if_true] at h
      rcases h with h | ⟨_, h⟩
      · refine ⟨fun _ _ => trivial, ?_⟩
        have hsem : o.semAt (Fence.wide.inRound l).round a.eval = execOp a.eval o := Oper.semAt_some l _ _ (fun c hc => by
          have := hd i o hi
          rw [hc] at this
          cases this)
        rw [hsem]
        unfold Oper.wp at h
        generalize (execOp a.eval o).run P w = r at *
        cases r with
        | ok x w' =>
          cases x <;> simp only [Oper.upon, Oper.uponIn] at h ⊢ <;>
            first
              | exact h
              | exact ⟨fun hs => by simp [Fence.wide, Fence.inRound] at hs, callsIn_of h⟩
              | exact ⟨fun hs => by simp [Fence.wide, Fence.inRound] at hs, rowsIn_of h⟩
        | halt x w' => cases x <;> simp only [Oper.upon, Oper.uponIn] at h ⊢ <;> exact h
      · exact absurd h hno
    · rename_i hw
      simp only [hw] at h
      exact ⟨fun _ _ => trivial, h⟩

theorem wpAnyIn_of {n : Nat} {P : Program} {l : Nat} {ops : Array Oper} {Q : Exit → Act → World → Prop} {md : Region.Mode} (hd : ∀ (i : Nat) (o : Oper), ops[i]? = some o → isDefer o.op = false) (hno : ¬ LetsOut Q) :
    ∀ (fuel : Nat) (listed : Array Bool) (a : Act) (w : World), wpAny P md ops Q fuel listed a w → wpAnyIn (Fence.wide.inRound l) n P md ops Q fuel listed a w
  | 0, _, _, _, h => h
  | fuel + 1, _, _, _, h => ⟨h.1, fun i hi => wpOpIn_of hd hno (wpOp_mono (fun a' w' h' => wpAnyIn_of hd hno fuel _ a' w' h') (h.2 i hi))⟩

/-! ### Whatever order is picked: a condition S on the world is kept by each operation but the late ones, which wait for all that is taken first -/
def wpX (P : Program) (md : Region.Mode) (ops : Array Oper) (Q : Exit → Act → World → Prop) (late : List Nat) (S : World → Prop) : Nat → Array Bool → Act → World → Prop
  | 0, listed, a, w => Region.ready md ops listed = [] ∧ Q .normal a w
  | fuel + 1, listed, a, w =>
    (Region.ready md ops listed = [] → Q .normal a w) ∧
    ∀ i ∈ Region.ready md ops listed, wpOp P ops Q i (fun a' w' => (late.contains i = false → S w') ∧ wpX P md ops Q late S fuel (listed.setIfInBounds i true) a' w') a w

/-- Each late operation waits for operation i. -/
def waits (md : Region.Mode) (ops : Array Oper) (late : List Nat) (i : Nat) : Bool :=
  late.all fun j => match ops[j]? with
    | some o => o.after.any fun e => Region.binds md e && e.on == i
    | none => true

section
variable {P : Program} {ops : Array Oper} {Q : Exit → Act → World → Prop} {md : Region.Mode} {late : List Nat} {S : World → Prop}
theorem wpAny_of_X : ∀ (fuel : Nat) (listed : Array Bool) (a : Act) (w : World), wpX P md ops Q late S fuel listed a w → wpAny P md ops Q fuel listed a w
  | 0, _, _, _, h => h
  | fuel + 1, _, _, _, h => ⟨h.1, fun i hi => wpOp_mono (fun a' w' h' => wpAny_of_X fuel _ a' w' h'.2) (h.2 i hi)⟩

theorem not_both {listed : Array Bool} {i : Nat} (h0 : listed.getD i true = false) (h1 : listed.getD i false = true) : False := by
  rcases Nat.lt_or_ge i listed.size with h' | h'
  · simp [h'] at h0 h1
    rw [h0] at h1
    cases h1
  · simp [Array.getElem?_eq_none h'] at h1

/-- What yields its value in every world that meets S, and is apart from whatever may come before it, may be taken first. -/
theorem wpX_first {i : Nat} {oi : Oper} {v : Value} (hi : ops[i]? = some oi) (hsel : ∀ (j : Nat) (o : Oper) cs b, ops[j]? = some o → o.op ≠ .select cs b)
    (hQ : ∀ c a w, Q (.panic c) (a.put oi.dst v) w → Q (.panic c) a w) (hl : waits md ops late i = true) (fuel : Nat) : ∀ (listed : Array Bool) (a : Act) (w : World),
      (∀ j oj, ops[j]? = some oj → j ≠ i → listed.getD j true = false → (∀ e ∈ oj.after, Region.binds md e = true → e.on ≠ i) → oi.apart ops oj = true) →
      i ∈ Region.ready md ops listed → YieldsIf P ops S oi v a → S w →
      wpX P md ops Q late S fuel (listed.setIfInBounds i true) (a.put oi.dst v) w → wpX P md ops Q late S (fuel + 1) listed a w := by
  induction fuel with
  | zero =>
    intro listed a w _ hr hy hS H
    refine ⟨fun h => absurd hr (by rw [h]; simp), fun j hj => ?_⟩
    have hji : j = i := Classical.byContradiction fun hne => by
      have h0 := ready_mono hj hne
      rw [H.1] at h0
      simp at h0
    subst hji
    exact hy.wpOp hi hS ⟨fun _ => hS, H⟩
  | succ fuel ih =>
    intro listed a w hfree hr hy hS H
    refine ⟨fun h => absurd hr (by rw [h]; simp), fun j hj => ?_⟩
    rcases Decidable.em (j = i) with hji | hji
    · subst hji
      exact hy.wpOp hi hS ⟨fun _ => hS, H⟩
    · obtain ⟨hjun, oj, hoj, hall⟩ := mem_ready.1 hj
      have hnot : ∀ e ∈ oj.after, Region.binds md e = true → e.on ≠ i := fun e he hb heq => by
        have h1 := hall e he hb
        rw [heq] at h1
        exact not_both (mem_ready.1 hr).1 h1
      have hnl : late.contains j = false := by
        cases hc : late.contains j with
        | false => rfl
        | true =>
          have hw := List.all_eq_true.1 hl j (by simpa using hc)
          rw [hoj] at hw
          simp only [Array.any_eq_true', Bool.and_eq_true, beq_iff_eq] at hw
          obtain ⟨e, he, hb, heq⟩ := hw
          exact absurd heq (hnot e he hb)
      have h2 := wpOp_putIf hoj (hfree j oj hoj hji hjun hnot) (fun cs b => hsel i oi cs b hi) (fun cs b => hsel j oj cs b hoj) hQ hy (H.2 j (ready_mono hj hji))
      refine wpOp_mono (fun a' w' h3 => ⟨h3.2.1, ih (listed.setIfInBounds j true) a' w' ?_ (ready_mono hr (Ne.symm hji)) h3.1 (h3.2.1 hnl) ?_⟩) h2
      · intro k ok hk hki hun hno
        refine hfree k ok hk hki ?_ hno
        rcases Decidable.em (j = k) with hjk | hjk
        · subst hjk; exact hjun
        · rw [getD_set_ne true hjk] at hun; exact hun
      · rw [Array.setIfInBounds_comm _ _ hji]
        exact h3.2.2

/-- Take number i first. -/
theorem wpX_take (i : Nat) {oi : Oper} {v : Value} {fuel : Nat} {listed : Array Bool} {a : Act} {w : World} (hi : ops[i]? = some oi)
    (hs : Region.noSelect ops = true) (hf : Region.free md ops listed i = true) (hr : (Region.ready md ops listed).contains i = true) (hl : waits md ops late i = true)
    (hQ : ∀ c a w, Q (.panic c) (a.put oi.dst v) w → Q (.panic c) a w) (hS : S w) (hy : YieldsIf P ops S oi v a)
    (h : wpX P md ops Q late S fuel (listed.setIfInBounds i true) (a.put oi.dst v) w) : wpX P md ops Q late S (fuel + 1) listed a w :=
  wpX_first hi (Region.noSelect_spec hs) hQ hl fuel listed a w (Region.free_spec hi hf) (by simpa using hr) hy hS h

/-- All have come up. -/
theorem wpX_done {listed : Array Bool} {a : Act} {w : World} (hr : Region.ready md ops listed = []) (h : Q .normal a w) : ∀ fuel, wpX P md ops Q late S fuel listed a w
  | 0 => ⟨hr, h⟩
  | _ + 1 => ⟨fun _ => h, by rw [hr]; simp⟩

/-- One operation that may come up alone. -/
theorem wpX_one {fuel : Nat} {listed : Array Bool} {a : Act} {w : World} (i : Nat) {o : Oper} (hr : Region.ready md ops listed = [i]) (ho : ops[i]? = some o)
    (h : ∀ K : Act → World → Prop, (∀ a' w', (late.contains i = false → S w') → wpX P md ops Q late S fuel (listed.setIfInBounds i true) a' w' → K a' w') →
      if Region.wanted o (yielded ops a.tmps) then o.wp P a w K Q else K (a.put o.dst undef) w) :
    wpX P md ops Q late S (fuel + 1) listed a w := by
  refine ⟨fun h0 => absurd (hr.symm.trans h0) (by simp), fun j hj => ?_⟩
  obtain rfl : j = i := by rw [hr] at hj; simpa using hj
  exact wpOp_step ho (fun K' hK' => h K' (fun a' w' hx hy => hK' a' w' ⟨hx, hy⟩))
end

/-- THE BEGINNING of such a walk in a round. -/
theorem wpIn_region_round {n : Nat} {P : Program} {l : Nat} {ops : Array Oper} {Q : Exit → Act → World → Prop} (late : List Nat) (S : World → Prop) {id : Nat} {a : Act} {w : World} (hm : P.follows .mixedOrders = true)
    (hd : ops.all (fun o => !isDefer o.op) = true) (hno : ¬ LetsOut Q)
    (h : wpX P .any ops Q late S ops.size (Array.replicate ops.size false) a w.drew) : (Code.region id ops true).wpIn (Fence.wide.inRound l) n P Q a w :=
  wpIn_region_any hm (wpAnyIn_of (fun i o hi => by
    have := Array.all_eq_true'.1 hd o (Array.mem_of_getElem? hi)
    simpa using this) hno _ _ _ _ (wpAny_of_X _ _ _ _ h))
/-- .. and outside of one. -/
theorem wp_region_x {P : Program} {ops : Array Oper} {Q : Exit → Act → World → Prop} (late : List Nat) (S : World → Prop) {id : Nat} {a : Act} {w : World} (hm : P.follows .mixedOrders = true)
    (h : wpX P .any ops Q late S ops.size (Array.replicate ops.size false) a w.drew) : (Code.region id ops true).wp P Q a w :=
  wp_region_any hm (wpAny_of_X _ _ _ _ h)

/-- What is listed has all that it waits for listed. -/
def Closed (md : Region.Mode) (ops : Array Oper) (listed : Array Bool) : Prop :=
  ∀ (k : Nat) (o : Oper), ops[k]? = some o → listed.getD k false = true → ∀ e ∈ o.after, Region.binds md e = true → listed.getD e.on false = true
def closedB (md : Region.Mode) (ops : Array Oper) (listed : Array Bool) : Bool :=
  (List.range ops.size).all fun k => match ops[k]? with
    | some o => !listed.getD k false || o.after.all fun e => !Region.binds md e || listed.getD e.on false
    | none => true
theorem closed_of {md : Region.Mode} {ops : Array Oper} {listed : Array Bool} (h : closedB md ops listed = true) : Closed md ops listed := by
  intro k o hk hl e he hb
  have h1 := List.all_eq_true.1 h k (List.mem_range.2 (Array.getElem?_eq_some_iff.1 hk).1)
  simp only [hk, hl, Bool.not_true, Bool.false_or] at h1
  have h2 := Array.all_eq_true'.1 h1 e he
  simpa [hb] using h2
theorem getD_set {listed : Array Bool} {j k : Nat} (h : listed.getD k false = true) : (listed.setIfInBounds j true).getD k false = true := by
  have hk : k < listed.size := by
    rcases Nat.lt_or_ge k listed.size with h' | h'
    · exact h'
    · simp [Array.getElem?_eq_none h'] at h
  simp only [Array.getD_eq_getD_getElem?, Array.getElem?_setIfInBounds] at h ⊢
  split
  · simp_all
  · exact h
theorem Closed.add {md : Region.Mode} {ops : Array Oper} {listed : Array Bool} (h : Closed md ops listed) {j : Nat} (hj : j ∈ Region.ready md ops listed) : Closed md ops (listed.setIfInBounds j true) := by
  intro k o hk hl e he hb
  obtain ⟨_, oj, hoj, hall⟩ := mem_ready.1 hj
  by_cases hkj : k = j
  · subst hkj
    rw [hoj] at hk
    cases hk
    exact getD_set (hall e he hb)
  · refine getD_set (h k o hk ?_ e he hb)
    simp only [Array.getD_eq_getD_getElem?, Array.getElem?_setIfInBounds] at hl ⊢
    rw [if_neg (by omega)] at hl
    exact hl
/-- k waits for i, through at most n others. -/
def waitsN (md : Region.Mode) (ops : Array Oper) (i : Nat) : Nat → Nat → Bool
  | 0, _ => false
  | n + 1, k => match ops[k]? with
    | some o => o.after.any fun e => Region.binds md e && (e.on == i || waitsN md ops i n e.on)
    | none => false
theorem waitsN_not {md : Region.Mode} {ops : Array Oper} {listed : Array Bool} (hc : Closed md ops listed) {i : Nat} (hi : listed.getD i false = false) : ∀ (n k : Nat), waitsN md ops i n k = true → listed.getD k false = false
  | 0, _, h => by cases h
  | n + 1, k, h => by
    cases hl : listed.getD k false with
    | false => rfl
    | true =>
      unfold waitsN at h
      cases hk : ops[k]? with
      | none => simp [hk] at h
      | some o =>
        simp only [hk, Array.any_eq_true', Bool.and_eq_true, Bool.or_eq_true, beq_iff_eq] at h
        obtain ⟨e, he, hb, h⟩ := h
        have h1 := hc k o hk hl e he hb
        rcases h with rfl | h
        · rw [hi] at h1; cases h1
        · rw [waitsN_not hc hi n e.on h] at h1; cases h1
/-- Each late operation waits for operation i, or for one that does. -/
def waits2 (md : Region.Mode) (ops : Array Oper) (late : List Nat) (i : Nat) : Bool := late.all fun j => waitsN md ops i (ops.size + 1) j

section
variable {P : Program} {ops : Array Oper} {Q : Exit → Act → World → Prop} {md : Region.Mode} {late : List Nat} {S : World → Prop}
theorem wpX_first2 {i : Nat} {oi : Oper} {v : Value} (hi : ops[i]? = some oi) (hsel : ∀ (j : Nat) (o : Oper) cs b, ops[j]? = some o → o.op ≠ .select cs b)
    (hQ : ∀ c a w, Q (.panic c) (a.put oi.dst v) w → Q (.panic c) a w) (hl : waits2 md ops late i = true) (fuel : Nat) : ∀ (listed : Array Bool) (a : Act) (w : World),
      Closed md ops listed →
      (∀ j oj, ops[j]? = some oj → j ≠ i → listed.getD j true = false → (∀ e ∈ oj.after, Region.binds md e = true → e.on ≠ i) → oi.apart ops oj = true) →
      i ∈ Region.ready md ops listed → YieldsIf P ops S oi v a → S w →
      wpX P md ops Q late S fuel (listed.setIfInBounds i true) (a.put oi.dst v) w → wpX P md ops Q late S (fuel + 1) listed a w := by
  induction fuel with
  | zero =>
    intro listed a w _ _ hr hy hS H
    refine ⟨fun h => absurd hr (by rw [h]; simp), fun j hj => ?_⟩
    have hji : j = i := Classical.byContradiction fun hne => by
      have h0 := ready_mono hj hne
      rw [H.1] at h0
      simp at h0
    subst hji
    exact hy.wpOp hi hS ⟨fun _ => hS, H⟩
  | succ fuel ih =>
    intro listed a w hcl hfree hr hy hS H
    refine ⟨fun h => absurd hr (by rw [h]; simp), fun j hj => ?_⟩
    rcases Decidable.em (j = i) with hji | hji
    · subst hji
      exact hy.wpOp hi hS ⟨fun _ => hS, H⟩
    · obtain ⟨hjun, oj, hoj, hall⟩ := mem_ready.1 hj
      have hiu : listed.getD i false = false := by
        cases h : listed.getD i false with
        | false => rfl
        | true => exact (not_both (mem_ready.1 hr).1 h).elim
      have hnot : ∀ e ∈ oj.after, Region.binds md e = true → e.on ≠ i := fun e he hb heq => by
        have h1 := hall e he hb
        rw [heq] at h1
        exact not_both (mem_ready.1 hr).1 h1
      have hnl : late.contains j = false := by
        cases hc : late.contains j with
        | false => rfl
        | true =>
          have hw := List.all_eq_true.1 hl j (by simpa using hc)
          simp only [waitsN, hoj, Array.any_eq_true', Bool.and_eq_true, Bool.or_eq_true, beq_iff_eq] at hw
          obtain ⟨e, he, hb, h⟩ := hw
          rcases h with h | h
          · exact absurd h (hnot e he hb)
          · have h1 := hall e he hb
            rw [waitsN_not hcl hiu _ _ h] at h1
            cases h1
      have h2 := wpOp_putIf hoj (hfree j oj hoj hji hjun hnot) (fun cs b => hsel i oi cs b hi) (fun cs b => hsel j oj cs b hoj) hQ hy (H.2 j (ready_mono hj hji))
      refine wpOp_mono (fun a' w' h3 => ⟨h3.2.1, ih (listed.setIfInBounds j true) a' w' (hcl.add hj) ?_ (ready_mono hr (Ne.symm hji)) h3.1 (h3.2.1 hnl) ?_⟩) h2
      · intro k ok hk hki hun hno
        refine hfree k ok hk hki ?_ hno
        rcases Decidable.em (j = k) with hjk | hjk
        · subst hjk; exact hjun
        · rw [getD_set_ne true hjk] at hun; exact hun
      · rw [Array.setIfInBounds_comm _ _ hji]
        exact h3.2.2
/-- Take number i first. -/
theorem wpX_take2 (i : Nat) {oi : Oper} {v : Value} {fuel : Nat} {listed : Array Bool} {a : Act} {w : World} (hi : ops[i]? = some oi)
    (hs : Region.noSelect ops = true) (hf : Region.free md ops listed i = true) (hr : (Region.ready md ops listed).contains i = true) (hl : waits2 md ops late i = true) (hc : closedB md ops listed = true)
    (hQ : ∀ c a w, Q (.panic c) (a.put oi.dst v) w → Q (.panic c) a w) (hS : S w) (hy : YieldsIf P ops S oi v a)
    (h : wpX P md ops Q late S fuel (listed.setIfInBounds i true) (a.put oi.dst v) w) : wpX P md ops Q late S (fuel + 1) listed a w :=
  wpX_first2 hi (Region.noSelect_spec hs) hQ hl fuel listed a w (closed_of hc) (Region.free_spec hi hf) (by simpa using hr) hy hS h
/-- Two operations that may come up. -/
theorem wpX_two {fuel : Nat} {listed : Array Bool} {a : Act} {w : World} (i k : Nat) {o o2 : Oper} (hr : Region.ready md ops listed = [i, k]) (ho : ops[i]? = some o) (ho2 : ops[k]? = some o2)
    (h : ∀ K : Act → World → Prop, (∀ a' w', (late.contains i = false → S w') → wpX P md ops Q late S fuel (listed.setIfInBounds i true) a' w' → K a' w') →
      if Region.wanted o (yielded ops a.tmps) then o.wp P a w K Q else K (a.put o.dst undef) w)
    (h2 : ∀ K : Act → World → Prop, (∀ a' w', (late.contains k = false → S w') → wpX P md ops Q late S fuel (listed.setIfInBounds k true) a' w' → K a' w') →
      if Region.wanted o2 (yielded ops a.tmps) then o2.wp P a w K Q else K (a.put o2.dst undef) w) :
    wpX P md ops Q late S (fuel + 1) listed a w := by
  refine ⟨fun h0 => absurd (hr.symm.trans h0) (by simp), fun j hj => ?_⟩
  rw [hr] at hj
  rcases List.mem_cons.1 hj with rfl | hj
  · exact wpOp_step ho (fun K' hK' => h K' (fun a' w' hx hy => hK' a' w' ⟨hx, hy⟩))
  · obtain rfl : j = k := by simpa using hj
    exact wpOp_step ho2 (fun K' hK' => h2 K' (fun a' w' hx hy => hK' a' w' ⟨hx, hy⟩))
end
theorem nesome {a b : Nat} (h : a ≠ b) : some a ≠ some b := fun e => h (Option.some.inj e)
/-- Of what was there nothing is written but blocks a and b. -/
structure Kp (w w' : World) (a b : Nat) : Prop where
  os : w'.os = w.os
  tape : w'.tape = w.tape
  output : w'.output = w.output
  size : w.heap.size ≤ w'.heap.size
  block : ∀ k, k < w.heap.size → k ≠ a → k ≠ b → w'.heap[k]? = w.heap[k]?
theorem Kp.refl (w : World) (a b : Nat) : Kp w w a b := ⟨rfl, rfl, rfl, Nat.le_refl _, fun _ _ _ _ => rfl⟩
theorem Kp.trans {w w1 w2 : World} {a b : Nat} (h : Kp w w1 a b) (h' : Kp w1 w2 a b) : Kp w w2 a b :=
  ⟨h'.os.trans h.os, h'.tape.trans h.tape, h'.output.trans h.output, Nat.le_trans h.size h'.size, fun k hk h1 h2 => (h'.block k (Nat.lt_of_lt_of_le hk h.size) h1 h2).trans (h.block k hk h1 h2)⟩
theorem Kp.drew {w w' : World} {a b : Nat} (h : Kp w w' a b) : Kp w w'.drew a b := ⟨h.os, h.tape, h.output, h.size, h.block⟩
theorem Kp.setA {w w' : World} {a b : Nat} (h : Kp w w' a b) (k : Nat) (u : Value) : Kp w (w'.setCell ⟨a, k, none⟩ u) a b :=
  ⟨h.os, h.tape, h.output, by simpa [World.setCell] using h.size, fun j hj h1 h2 => (Below.heap_setCell w' ⟨a, k, none⟩ u j h1).trans (h.block j hj h1 h2)⟩
theorem Kp.below {w w' : World} {a b : Nat} (h : Below w.heap.size w w') : Kp w w' a b := ⟨h.os, h.tape, h.output, h.size, fun k hk _ _ => h.block k hk⟩
theorem Kp.to_below {w0 w w' : World} {B a b : Nat} (h : Kp w w' a b) (h0 : Below B w0 w) (hB : B ≤ w.heap.size) (h1 : B ≤ a) (h2 : B ≤ b) : Below B w0 w' :=
  h0.trans ⟨h.os, h.tape, h.output, h.size, fun k hk => h.block k (by omega) (by omega) (by omega)⟩

theorem heap_set {w : World} {b j : Nat} {cs : Array Value} {t : TypeId} (h : w.heap[b]? = some (.cells cs t (0, 0))) (u : Value) : (w.setCell ⟨b, j, none⟩ u).heap[b]? = some (.cells (cs.setIfInBounds j u) t (0, 0)) := by
  have hlt := (Array.getElem?_eq_some_iff.1 h).1
  have h' : w.heap[b] = .cells cs t (0, 0) := by simpa [Array.getElem?_eq_getElem hlt] using h
  show (w.heap.modify b _)[b]? = _
  rw [Array.getElem?_eq_getElem (by simpa using hlt), Array.getElem_modify_self, h']
  simp
theorem Kp.alloc {w w' : World} {a b : Nat} (h : Kp w w' a b) (o : Obj) : Kp w (w'.alloc o) a b :=
  h.trans (Kp.below ((Below.refl _ w').alloc (Nat.le_refl _) o))
theorem Kp.setNew {w w' : World} {a b r : Nat} (h : Kp w w' a b) (hr : w.heap.size ≤ r) (k : Nat) (u : Value) : Kp w (w'.setCell ⟨r, k, none⟩ u) a b :=
  ⟨h.os, h.tape, h.output, by simpa [World.setCell] using h.size, fun j hj h1 h2 => (Below.heap_setCell w' ⟨r, k, none⟩ u j (by show j ≠ r; omega)).trans (h.block j hj h1 h2)⟩
theorem Kp.drewN {w w' : World} {a b : Nat} (h : Kp w w' a b) (n : Nat) : Kp w (w'.drewN n) a b := ⟨h.os, h.tape, h.output, h.size, h.block⟩

theorem Kp.setB {w w' : World} {a b : Nat} (h : Kp w w' a b) (k : Nat) (u : Value) : Kp w (w'.setCell ⟨b, k, none⟩ u) a b :=
  ⟨h.os, h.tape, h.output, by simpa [World.setCell] using h.size, fun j hj h1 h2 => (Below.heap_setCell w' ⟨b, k, none⟩ u j h2).trans (h.block j hj h1 h2)⟩

theorem below_kept {w W W' : World} {B : Nat} {row : Option Nat} (h : Below B w W) (hg : W.grownBy W' row) (hr : ∀ r, row = some r → B ≤ r) (hB : B ≤ W.heap.size) : Below B w W' :=
  h.grown hg hB hr
theorem Kp.to_grown {W W' : World} {b : Nat} (h : Kp W W' b b) : W.grownBy W' (some b) := ⟨h.os, h.tape, h.output, h.size, fun k hk hne => h.block k hk (fun e => hne (by rw [e])) (fun e => hne (by rw [e]))⟩
theorem drew_grown (W : World) : W.grownBy W.drew none := ⟨rfl, rfl, rfl, Nat.le_refl _, fun _ _ _ => rfl⟩
theorem drewN_grown (W : World) (n : Nat) : W.grownBy (W.drewN n) none := ⟨rfl, rfl, rfl, Nat.le_refl _, fun _ _ _ => rfl⟩

theorem row_ne {W : World} {B0 e size n b : Nat} {v : Value} {xs : List Value} (h : W.ownsRow B0 e size v n xs) (hb : b < B0) : some b ≠ v.ownBlock := by
  intro e'
  have := (h.lt b e'.symm).1
  omega
theorem ownsRow_base {w : World} {b b' e size n : Nat} {v : Value} {xs : List Value} (h : w.ownsRow b e size v n xs) (hb : b' ≤ b) : w.ownsRow b' e size v n xs := by
  refine ⟨h.1, ?_⟩
  rcases h.2 with hn | ⟨g, cap, cur, h1, h2, h3⟩
  · exact .inl hn
  · exact .inr ⟨g, cap, cur, h1, by omega, h3⟩
theorem own_set1 {W : World} {B e size n b j : Nat} {v u : Value} {xs : List Value} (h : W.ownsRow B e size v n xs) (hb : b < B) : (W.setCell ⟨b, j, none⟩ u).ownsRow B e size v n xs :=
  h.kept (row := some b) ⟨rfl, rfl, rfl, by simp [World.setCell], fun k _ hk => Below.heap_setCell W ⟨b, j, none⟩ u k (fun e => hk (by rw [e]))⟩ (.inr (row_ne h hb).symm)

theorem ownsRow_blw {w w' : World} {B e size n : Nat} {v : Value} {xs : List Value} (h : w.ownsRow B e size v n xs) (hb : Below w.heap.size w w') : w'.ownsRow B e size v n xs := by
  have hg : w.grownBy w' none := ⟨hb.os, hb.tape, hb.output, hb.size, fun k hk _ => hb.block k hk⟩
  exact h.kept hg (by cases hv : v.ownBlock <;> simp)
theorem cells_new (W : World) (l : List Value) (e : TypeId) (j : Nat) (u : Value) (h : l[j]? = some u) : (W.alloc (.cells l.toArray e)).cell? ((⟨W.heap.size, 0, none⟩ : Addr).add j) = some u := by
  have hadd : (⟨W.heap.size, 0, none⟩ : Addr).add j = ⟨W.heap.size, j, none⟩ := by unfold Addr.add; split <;> simp_all
  rw [hadd, cell_of_row _ W.heap.size j l.toArray e (0, 0) (World.alloc_heap_new _ _)]
  simpa using h
theorem bxo {W : World} {B r k : Nat} {t : TypeId} {v u : Value} (h : Boxed W B t v) (hne : B ≠ r) : Boxed (W.setCell ⟨r, k, none⟩ u) B t v := (Below.heap_setCell W ⟨r, k, none⟩ u B hne).trans h

/-- The blocks of the list are as they were. -/
def SameL (L : List Nat) (W W' : World) : Prop := ∀ j ∈ L, W'.heap[j]? = W.heap[j]?
theorem SameL.trans {L : List Nat} {A B C : World} (h : SameL L A B) (h' : SameL L B C) : SameL L A C := fun j hj => (h' j hj).trans (h j hj)
theorem SameL.put {L : List Nat} {W : World} {l : Nat} (o : Obj) (hl : ∀ j ∈ L, j < l) : SameL L W (W.putObj l o) := fun j hj => World.putObj_heap_other (by have := hl j hj; omega)
/-- How the body of a round may be left. -/
def rdPost (L : List Nat) (ok : Nat → Prop) (nxt : Nat → Nat) (I : Nat → World → Prop) (Ix : Code → World → Prop) (k : Nat) (W : World) : Exit → Act → World → Prop
  | .normal, _, W' => KeepsOthers W W' ∧ SameL L W W' ∧ ok k ∧ I (nxt k) W'
  | .ret, _, W' => KeepsOthers W W' ∧ Ix .ret W'
  | .exit id, _, W' => KeepsOthers W W' ∧ Ix (.exit id) W'
  | .goto t, _, W' => KeepsOthers W W' ∧ Ix (.goto t) W'
  | .panic _, _, _ => False
  | .outgrown, _, _ => False

/-- What the iterator's run is to show. -/
def ItRun (F : Fence) (n : Nat) (P : Program) (gf : Nat) (lb : Array Value) (encs : Nat → Array Value) (b : Nat) (L : List Nat) (bd ok fin : Nat → Prop) (nxt : Nat → Nat) (k0 : Nat) (w : World) : Prop :=
  ∀ (l : Nat) (J : Nat → World → Prop) (Jx : World → Prop) (W : World), SameL L w W →
    (∀ k A B, J k A → Kp A B b b → J k B) → (∀ A B, Jx A → Kp A B b b → Jx B) →
    (∀ k A, J k A → bd k → YieldAt F (n - 1) P l (encs k) A fun e B => (e = .returned (.bool true) ∧ J (nxt k) B ∧ SameL L A B ∧ A.heap.size ≤ B.heap.size ∧ ok k) ∨ (e = .returned (.bool false) ∧ Jx B)) →
    J k0 W → CallsIn F n P gf (#[.func (.yield l) #[] #[]] ++ lb) W fun e B => (∃ v, e = .returned v) ∧ ((∃ k, fin k ∧ J k B) ∨ Jx B)

theorem wpIn_rangeFunc_rd {F : Fence} {n : Nat} {P : Program} {g : Operand} {ps : Array Tmp} {assign body : Code} {Q : Exit → Act → World → Prop} {a : Act} {w : World}
    (hro : F.round = none) (h1 : 1 ≤ n) {gf : Nat} {lb : Array Value} (hg : a.eval g = .func (.func gf) #[] lb) (hFg : F.fn gf) (eg : ∀ args w, (callFunc gf args).run P w = .ok (.enter gf args) w)
    {encs : Nat → Array Value} {b : Nat} {L : List Nat} {bd ok fin : Nat → Prop} {nxt : Nat → Nat} {k0 : Nat}
    (hseq : ItRun F (n - 1) P gf lb encs b L bd ok fin nxt k0 w) (hb : b < w.heap.size) (hL : ∀ j ∈ L, j < w.heap.size) (hps : ∀ x, (encs x).size = ps.size)
    (I : Nat → World → Prop) (Ix : Code → World → Prop) (hI : OwnFrom w.heap.size I) (hIx : ∀ c, OwnFrom w.heap.size (fun (_ : Unit) => Ix c))
    (hIb : ∀ k A B, I k A → Kp A B b b → I k B) (hIxb : ∀ c A B, Ix c A → Kp A B b b → Ix c B) (h0 : I k0 w)
    (hround : ∀ (l : Nat) (k : Nat) (W : World), I k W → bd k →
      assign.wpIn (F.inRound l) (n - 1 - 1) P (Exit.then (fun a' W' => KeepsOthers W W' ∧ SameL L W W' ∧ ∃ M : World → Prop, OwnFrom w.heap.size (fun (_ : Unit) => M) ∧ M W' ∧ ∀ W2, M W2 → body.wpIn (F.inRound l) (n - 1 - 1) P (rdPost L ok nxt I Ix k W2) a' W2) (fun _ _ _ => False))
        { tmps := (ps.zip (encs k)).foldl (fun t (p, v) => t.setIfInBounds p v) a.tmps, defers := [] } W)
    (hdone : ∀ (D : Nat) (k : Nat) (W : World), w.heap.size ≤ D → fin k → I k W → W.heap[D]? = some (.deferred (some [])) → Q .normal { a with defers := { target := .collected D, args := #[] } :: a.defers } W)
    (hstop : ∀ (D : Nat) (c : Code) (W : World), w.heap.size ≤ D → Ix c W → W.heap[D]? = some (.deferred (some [])) → c.wpIn F n P Q { a with defers := { target := .collected D, args := #[] } :: a.defers } W) :
    (Code.rangeFunc g ps assign body).wpIn F n P Q a w := by
  refine wpIn_rangeFunc ?_
  intro fn hfn
  rw [hro]
  obtain ⟨rec, hrec⟩ : ∃ rec : LoopState → Option Code → Loop, rec = fun st pe => { state := st, pending := pe, fn, tmps := a.tmps, params := ps, assign, body, defers := w.heap.size } := ⟨_, rfl⟩
  obtain ⟨W1, hW1⟩ : ∃ W1, (w.alloc (.deferred (some []))).alloc (.loop (rec .ready none)) = W1 := ⟨_, rfl⟩
  have hL1 : W1.heap[w.heap.size + 1]? = some (.loop (rec .ready none)) := by
    rw [← hW1]; have := World.alloc_heap_new (w.alloc (.deferred (some []))) (.loop (rec .ready none)); rwa [World.size_alloc] at this
  have hK1 : W1.heap[w.heap.size]? = some (.deferred (some [])) := by
    rw [← hW1]; exact (Below.heap_alloc _ _ _ (by simp)).trans (World.alloc_heap_new w _)
  have hI1 : I k0 W1 := by rw [← hW1]; exact hI.alloc _ (hI.alloc _ h0)
  have hS1 : SameL L w W1 := by
    rw [← hW1]
    intro j hj
    have := hL j hj
    exact (Below.heap_alloc _ _ _ (by simp; omega)).trans (Below.heap_alloc _ _ _ this)
  refine ⟨w.heap.size + 1, [{ target := .collected w.heap.size, args := #[] }], W1, { target := .fn (.func gf) lb, args := #[.func (.yield (w.heap.size + 1)) #[] #[]] }, W1, gf,
    #[.func (.yield (w.heap.size + 1)) #[] #[]] ++ lb, W1, ?_, ?_, ?_, ?_, fun _ => h1, ?_⟩
  · rw [← hW1, hrec]; exact run_enterLoop_outer _ _ _ _ _
  · simp only [resolve, hg]
    simp [go_sem]
  · intro f' hf'; simp [Target.leads] at hf'; subst hf'; exact hFg
  · simp [invoke, go_sem, eg]
  · have kpb : ∀ {A B : World} {r : Nat} {o : Obj}, Kp A B b b → w.heap.size ≤ r → A.heap[r]? = some o → B.heap[r]? = some o := fun hk hr ho =>
      (hk.block _ (Array.getElem?_eq_some_iff.1 ho).1 (by omega) (by omega)).trans ho
    refine (hseq (w.heap.size + 1)
      (fun k W => I k W ∧ W.heap[w.heap.size + 1]? = some (.loop (rec .ready none)) ∧ W.heap[w.heap.size]? = some (.deferred (some [])))
      (fun W => ∃ c, Ix c W ∧ W.heap[w.heap.size + 1]? = some (.loop (rec .done (some c))) ∧ W.heap[w.heap.size]? = some (.deferred (some [])))
      W1 hS1
      (fun k A B hs hk => ⟨hIb k A B hs.1 hk, kpb hk (Nat.le_succ _) hs.2.1, kpb hk (Nat.le_refl _) hs.2.2⟩)
      (fun A B hs hk => by
        obtain ⟨c, hc, hl, hkk⟩ := hs
        exact ⟨c, hIxb c A B hc hk, kpb hk (Nat.le_succ _) hl, kpb hk (Nat.le_refl _) hkk⟩)
      ?_ ⟨hI1, hL1, hK1⟩).mono ?_
    · -- one round
      rintro x W ⟨hi, hl, hk⟩ hbd
      have hy := run_yield (P := P) (args := encs x) hl (by rw [hrec]; exact hps x)
      rw [hrec] at hy
      refine ⟨fn, _, assign, body, hy, roundIn_of_wpIn hfn (wpIn_mono (hround _ x W hi hbd) ?_)⟩
      rintro e0 a0 W0 hp0
      cases e0 <;> first | exact hp0.elim | skip
      obtain ⟨hk0, hs0, M, hM, hm, hB⟩ := hp0
      have hl0 := hk0.same _ _ hl rfl
      have hkk0 := hk0.same _ _ hk rfl
      have hlt : w.heap.size + 1 < W0.heap.size := (Array.getElem?_eq_some_iff.1 hl0).1
      refine ⟨_, run_beginRound hl0 (by rw [hrec]), ?_⟩
      have hl2 : (W0.putObj (w.heap.size + 1) (.loop { rec .ready none with state := .busy })).heap[w.heap.size + 1]? = some (.loop { rec .ready none with state := .busy }) := World.putObj_heap_same hlt
      have hk2 : (W0.putObj (w.heap.size + 1) (.loop { rec .ready none with state := .busy })).heap[w.heap.size]? = some (.deferred (some [])) := (World.putObj_heap_other (by omega)).trans hkk0
      have hw2 : SameL L W (W0.putObj (w.heap.size + 1) (.loop { rec .ready none with state := .busy })) := hs0.trans (SameL.put _ (fun j hj => by have := hL j hj; omega))
      refine wpIn_mono (hB _ (hM.putObj (s := ()) _ hm (Nat.le_succ _) hl0 rfl)) ?_
      have fin : ∀ (jump : Option Code) (W3 : World), KeepsOthers (W0.putObj (w.heap.size + 1) (.loop { rec .ready none with state := .busy })) W3 →
          (Instr.endRound (w.heap.size + 1) jump).run P W3 = .ok (.bool jump.isNone) (W3.putObj (w.heap.size + 1) (.loop (rec (if jump.isNone then .ready else .done) jump))) ∧
          W3.heap[w.heap.size + 1]? = some (.loop { rec .ready none with state := .busy }) ∧
          (W3.putObj (w.heap.size + 1) (.loop (rec (if jump.isNone then .ready else .done) jump))).heap[w.heap.size + 1]? = some (.loop (rec (if jump.isNone then .ready else .done) jump)) ∧
          (W3.putObj (w.heap.size + 1) (.loop (rec (if jump.isNone then .ready else .done) jump))).heap[w.heap.size]? = some (.deferred (some [])) := fun jump W3 hk3 => by
        have hl3 := hk3.same _ _ hl2 rfl
        have := run_endRound (P := P) jump hl3
        rw [hrec] at this ⊢
        exact ⟨this, by rw [hrec] at hl3; exact hl3, World.putObj_heap_same (Array.getElem?_eq_some_iff.1 hl3).1, (World.putObj_heap_other (by omega)).trans (hk3.same _ _ hk2 rfl)⟩
      rintro e a3 W3 hp
      cases e with
      | normal =>
        obtain ⟨hk3, hkp3, hok3, hi3⟩ := hp
        obtain ⟨hr, hl3, hl4, hk4⟩ := fin none W3 hk3
        refine ⟨_, _, hr, .inl ⟨rfl, ⟨hI.putObj _ hi3 (Nat.le_succ _) hl3 rfl, hl4, hk4⟩, (hw2.trans hkp3).trans (SameL.put _ (fun j hj => by have := hL j hj; omega)), ?_, hok3⟩⟩
        have := hk3.size
        have := hk0.size
        simp at *
        omega
      | ret =>
        obtain ⟨hk3, hi3⟩ := hp
        obtain ⟨hr, hl3, hl4, hk4⟩ := fin (some .ret) W3 hk3
        exact ⟨_, _, hr, .inr ⟨rfl, .ret, (hIx _).putObj (s := ()) _ hi3 (Nat.le_succ _) hl3 rfl, hl4, hk4⟩⟩
      | exit id =>
        obtain ⟨hk3, hi3⟩ := hp
        obtain ⟨hr, hl3, hl4, hk4⟩ := fin (some (.exit id)) W3 hk3
        exact ⟨_, _, hr, .inr ⟨rfl, .exit id, (hIx _).putObj (s := ()) _ hi3 (Nat.le_succ _) hl3 rfl, hl4, hk4⟩⟩
      | goto t =>
        obtain ⟨hk3, hi3⟩ := hp
        obtain ⟨hr, hl3, hl4, hk4⟩ := fin (some (.goto t)) W3 hk3
        exact ⟨_, _, hr, .inr ⟨rfl, .goto t, (hIx _).putObj (s := ()) _ hi3 (Nat.le_succ _) hl3 rfl, hl4, hk4⟩⟩
      | panic ch => exact hp.elim
      | outgrown => exact hp.elim
    · -- behind the iterator
      rintro e W2 ⟨⟨v, rfl⟩, (⟨k, hS, hi, hl, hk⟩ | ⟨c, hi, hl, hk⟩)⟩
      · exact ⟨none, _, by have := run_endLoop (P := P) hl (by rw [hrec]; simp); rw [hrec] at this; exact this, hdone _ k _ (Nat.le_refl _) hS (hI.putObj _ hi (Nat.le_succ _) hl rfl) ((World.putObj_heap_other (by omega)).trans hk)⟩
      · exact ⟨some c, _, by have := run_endLoop (P := P) hl (by rw [hrec]; simp); rw [hrec] at this; exact this, hstop _ c _ (Nat.le_refl _) ((hIx c).putObj (s := ()) _ hi (Nat.le_succ _) hl rfl) ((World.putObj_heap_other (by omega)).trans hk)⟩
end Go.Proofs.YtjbinejaagpleaaDoor
