/- A region that draws its order, where an operation that breaks the condition waits for the taken ones through others. No condition. -/
import Derived.Test.YtinfocnihngbiaaDoorRound
namespace Go.Proofs.YtinfocnihngbiaaDoor
open Go.RowKit

/-- What is listed has all that it waits for listed. -/
def Closed (md : Region.Mode) (ops : Array Oper) (listed : Array Bool) : Prop :=
  ∀ (k : Nat) (o : Oper), ops[k]? = some o → listed.getD k false = true → ∀ e ∈ o.after, Region.binds md e = true → listed.getD e.on false = true
def closedB (md : Region.Mode) (ops : Array Oper) (listed : Array Bool) : Bool :=
  (List.range ops.size).all fun k => match ops[k]? with
    | some o => !listed.getD k false || o.after.all fun e => !Region.binds md e || listed.getD e.on false
    | none => true
theorem closed_of {md : Region.Mode} {ops : Array Oper} {listed : Array Bool} (h : closedB md ops listed = true) : Closed md ops listed := by
  intro k o hk hl e he hb
  have h1 := List.all_eq_true.1 h k (List.mem_range.2 (Array.getElem?_eq_some_iff.1 hk).1)
  simp only [hk, hl, Bool.not_true, Bool.false_or] at h1
  have h2 := Array.all_eq_true'.1 h1 e he
  simpa [hb] using h2
theorem getD_set {listed : Array Bool} {j k : Nat} (h : listed.getD k false = true) : (listed.setIfInBounds j true).getD k false = true := by
  have hk : k < listed.size := by
    rcases Nat.lt_or_ge k listed.size with h' | h'
    · exact h'
    · simp [Array.getElem?_eq_none h'] at h
  simp only [Array.getD_eq_getD_getElem?, Array.getElem?_setIfInBounds] at h ⊢
  split
  · simp_all
  · exact h
theorem Closed.add {md : Region.Mode} {ops : Array Oper} {listed : Array Bool} (h : Closed md ops listed) {j : Nat} (hj : j ∈ Region.ready md ops listed) : Closed md ops (listed.setIfInBounds j true) := by
  intro k o hk hl e he hb
  obtain ⟨_, oj, hoj, hall⟩ := mem_ready.1 hj
  by_cases hkj : k = j
  · subst hkj
    rw [hoj] at hk
    cases hk
    exact getD_set (hall e he hb)
  · refine getD_set (h k o hk ?_ e he hb)
    simp only [Array.getD_eq_getD_getElem?, Array.getElem?_setIfInBounds] at hl ⊢
    rw [if_neg (by omega)] at hl
    exact hl
/-- k waits for i, through at most n others. -/
def waitsN (md : Region.Mode) (ops : Array Oper) (i : Nat) : Nat → Nat → Bool
  | 0, _ => false
  | n + 1, k => match ops[k]? with
    | some o => o.after.any fun e => Region.binds md e && (e.on == i || waitsN md ops i n e.on)
    | none => false
theorem waitsN_not {md : Region.Mode} {ops : Array Oper} {listed : Array Bool} (hc : Closed md ops listed) {i : Nat} (hi : listed.getD i false = false) : ∀ (n k : Nat), waitsN md ops i n k = true → listed.getD k false = false
  | 0, _, h => by cases h
  | n + 1, k, h => by
    cases hl : listed.getD k false with
    | false => rfl
    | true =>
      unfold waitsN at h
      cases hk : ops[k]? with
      | none => simp [hk] at h
      | some o =>
        simp only [hk, Array.any_eq_true', Bool.and_eq_true, Bool.or_eq_true, beq_iff_eq] at h
        obtain ⟨e, he, hb, h⟩ := h
        have h1 := hc k o hk hl e he hb
        rcases h with rfl | h
        · rw [hi] at h1; cases h1
        · rw [waitsN_not hc hi n e.on h] at h1; cases h1
/-- Each late operation waits for operation i, or for one that does. -/
def waits2 (md : Region.Mode) (ops : Array Oper) (late : List Nat) (i : Nat) : Bool := late.all fun j => waitsN md ops i (ops.size + 1) j

section
variable {P : Program} {ops : Array Oper} {Q : Exit → Act → World → Prop} {md : Region.Mode} {late : List Nat} {S : World → Prop}
theorem wpX_first2 {i : Nat} {oi : Oper} {v : Value} (hi : ops[i]? = some oi) (hsel : ∀ (j : Nat) (o : Oper) cs b, ops[j]? = some o → o.op ≠ .select cs b)
    (hQ : ∀ c a w, Q (.panic c) (a.put oi.dst v) w → Q (.panic c) a w) (hl : waits2 md ops late i = true) (fuel : Nat) : ∀ (listed : Array Bool) (a : Act) (w : World),
      Closed md ops listed →
      (∀ j oj, ops[j]? = some oj → j ≠ i → listed.getD j true = false → (∀ e ∈ oj.after, Region.binds md e = true → e.on ≠ i) → oi.apart ops oj = true) →
      i ∈ Region.ready md ops listed → YieldsIf P ops S oi v a → S w →
      wpX P md ops Q late S fuel (listed.setIfInBounds i true) (a.put oi.dst v) w → wpX P md ops Q late S (fuel + 1) listed a w := by
  induction fuel with
  | zero =>
    intro listed a w _ _ hr hy hS H
    refine ⟨fun h => absurd hr (by rw [h]; simp), fun j hj => ?_⟩
    have hji : j = i := Classical.byContradiction fun hne => by
      have h0 := ready_mono hj hne
      rw [H.1] at h0
      simp at h0
    subst hji
    exact hy.wpOp hi hS ⟨fun _ => hS, H⟩
  | succ fuel ih =>
    intro listed a w hcl hfree hr hy hS H
    refine ⟨fun h => absurd hr (by rw [h]; simp), fun j hj => ?_⟩
    rcases Decidable.em (j = i) with hji | hji
    · subst hji
      exact hy.wpOp hi hS ⟨fun _ => hS, H⟩
    · obtain ⟨hjun, oj, hoj, hall⟩ := mem_ready.1 hj
      have hiu : listed.getD i false = false := by
        cases h : listed.getD i false with
        | false => rfl
        | true => exact (not_both (mem_ready.1 hr).1 h).elim
      have hnot : ∀ e ∈ oj.after, Region.binds md e = true → e.on ≠ i := fun e he hb heq => by
        have h1 := hall e he hb
        rw [heq] at h1
        exact not_both (mem_ready.1 hr).1 h1
      have hnl : late.contains j = false := by
        cases hc : late.contains j with
        | false => rfl
        | true =>
          have hw := List.all_eq_true.1 hl j (by simpa using hc)
          simp only [waitsN, hoj, Array.any_eq_true', Bool.and_eq_true, Bool.or_eq_true, beq_iff_eq] at hw
          obtain ⟨e, he, hb, h⟩ := hw
          rcases h with h | h
          · exact absurd h (hnot e he hb)
          · have h1 := hall e he hb
            rw [waitsN_not hcl hiu _ _ h] at h1
            cases h1
      have h2 := wpOp_putIf hoj (hfree j oj hoj hji hjun hnot) (fun cs b => hsel i oi cs b hi) (fun cs b => hsel j oj cs b hoj) hQ hy (H.2 j (ready_mono hj hji))
      refine wpOp_mono (fun a' w' h3 => ⟨h3.2.1, ih (listed.setIfInBounds j true) a' w' (hcl.add hj) ?_ (ready_mono hr (Ne.symm hji)) h3.1 (h3.2.1 hnl) ?_⟩) h2
      · intro k ok hk hki hun hno
        refine hfree k ok hk hki ?_ hno
        rcases Decidable.em (j = k) with hjk | hjk
        · subst hjk; exact hjun
        · rw [getD_set_ne true hjk] at hun; exact hun
      · rw [Array.setIfInBounds_comm _ _ hji]
        exact h3.2.2
/-- Take number i first. -/
theorem wpX_take2 (i : Nat) {oi : Oper} {v : Value} {fuel : Nat} {listed : Array Bool} {a : Act} {w : World} (hi : ops[i]? = some oi)
    (hs : Region.noSelect ops = true) (hf : Region.free md ops listed i = true) (hr : (Region.ready md ops listed).contains i = true) (hl : waits2 md ops late i = true) (hc : closedB md ops listed = true)
    (hQ : ∀ c a w, Q (.panic c) (a.put oi.dst v) w → Q (.panic c) a w) (hS : S w) (hy : YieldsIf P ops S oi v a)
    (h : wpX P md ops Q late S fuel (listed.setIfInBounds i true) (a.put oi.dst v) w) : wpX P md ops Q late S (fuel + 1) listed a w :=
  wpX_first2 hi (Region.noSelect_spec hs) hQ hl fuel listed a w (closed_of hc) (Region.free_spec hi hf) (by simpa using hr) hy hS h
/-- Two operations that may come up. -/
theorem wpX_two {fuel : Nat} {listed : Array Bool} {a : Act} {w : World} (i k : Nat) {o o2 : Oper} (hr : Region.ready md ops listed = [i, k]) (ho : ops[i]? = some o) (ho2 : ops[k]? = some o2)
    (h : ∀ K : Act → World → Prop, (∀ a' w', (late.contains i = false → S w') → wpX P md ops Q late S fuel (listed.setIfInBounds i true) a' w' → K a' w') →
      if Region.wanted o (yielded ops a.tmps) then o.wp P a w K Q else K (a.put o.dst undef) w)
    (h2 : ∀ K : Act → World → Prop, (∀ a' w', (late.contains k = false → S w') → wpX P md ops Q late S fuel (listed.setIfInBounds k true) a' w' → K a' w') →
      if Region.wanted o2 (yielded ops a.tmps) then o2.wp P a w K Q else K (a.put o2.dst undef) w) :
    wpX P md ops Q late S (fuel + 1) listed a w := by
  refine ⟨fun h0 => absurd (hr.symm.trans h0) (by simp), fun j hj => ?_⟩
  rw [hr] at hj
  rcases List.mem_cons.1 hj with rfl | hj
  · exact wpOp_step ho (fun K' hK' => h K' (fun a' w' hx hy => hK' a' w' ⟨hx, hy⟩))
  · obtain rfl : j = k := by simpa using hj
    exact wpOp_step ho2 (fun K' hK' => h2 K' (fun a' w' hx hy => hK' a' w' ⟨hx, hy⟩))
end
end Go.Proofs.YtinfocnihngbiaaDoor
