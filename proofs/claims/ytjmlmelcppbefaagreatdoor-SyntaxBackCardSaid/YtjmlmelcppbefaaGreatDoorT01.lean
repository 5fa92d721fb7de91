/- What the syntax texts share, part 1. No condition. -/
import Derived.RangeFuncNested
import Derived.RangeFuncBound
import Derived.RangeFuncCalls
import Derived.RangeFuncLeaves
import Derived.RangeFuncFrom
import Derived.RangeFuncBox
import Derived.Shelf.Abstract
import Derived.Shelf.RegionOpen
import Derived.WalkKit
import Derived.OwnWalkIn
import Derived.TacticsInMore
import Derived.LoopNIn
import Derived.LoopIn
import Derived.Lib.Hide
import Derived.Deep.QuietTactic
import Derived.BigQuiet
import Derived.Deep.RegionHeld3
import Derived.Outline
import Derived.WalkSmall
import Derived.Test.YtjmlmelcppbefaaGreatDoorProg
import Derived.Handy
import Derived.Below
import Derived.OrdersHeld
import Derived.OrdersIn
namespace Go.Proofs.YtjmlmelcppbefaaGreatDoor
open Go.RowKit
def adv (p : Int × Int) (c : UInt8) : Int × Int := if c = 10 then (p.1 + 1, 1) else (p.1, p.2 + 1)
def byte (s : ByteArray) (k : Nat) : UInt8 := s.data.toList.getD k 0
def posAt (s : ByteArray) : Nat → Int × Int
 | 0 => (1, 1)
 | k + 1 => adv (posAt s k) (byte s k)
theorem posAt_le (s : ByteArray) (k : Nat) : 1 ≤ (posAt s k).1 ∧ (posAt s k).1 ≤ k + 1 ∧ 1 ≤ (posAt s k).2 ∧ (posAt s k).2 ≤ k + 1 := by
 induction k with
 | zero => simp [posAt]
 | succ k ih =>
  simp only [posAt, adv]
  split
  ·simp only []; omega
  ·simp only []; omega
theorem byte_at {s : ByteArray} {k : Nat} (h : k < s.size) : s[k] = byte s k := by
 unfold byte
 rw [List.getD_eq_getElem?_getD, Array.getElem?_toList]
 have h' : k < s.data.size := h
 rw [Array.getElem?_eq_getElem h']
 rfl
def Ps (w : World) (b : Nat) (p : Int × Int) : Prop := w.heap[b]? = some (.cells #[.int .i64 p.1, .int .i64 p.2] 25 (0, 0))
theorem Ps.lt {w : World} {b : Nat} {p : Int × Int} (h : Ps w b p) : b < w.heap.size := (Array.getElem?_eq_some_iff.1 h).1
theorem Ps.c0 {w : World} {b : Nat} {p : Int × Int} (h : Ps w b p) : w.cell? ⟨b, 0, none⟩ = some (.int .i64 p.1) := by
 unfold Ps at h
 simp [World.cell?, h]
theorem Ps.c1 {w : World} {b : Nat} {p : Int × Int} (h : Ps w b p) : w.cell? ⟨b, 1, none⟩ = some (.int .i64 p.2) := by
 unfold Ps at h
 simp [World.cell?, h]
theorem Ps.frozen {w : World} {b : Nat} {p : Int × Int} (h : Ps w b p) (k : Nat) : w.frozen? ⟨b, k, none⟩ = false := by
 unfold Ps at h
 simp [World.frozen?, h]
theorem Ps.set0 {w : World} {b : Nat} {p : Int × Int} (h : Ps w b p) (x : Int) : Ps (w.setCell ⟨b, 0, none⟩ (.int .i64 x)) b (x, p.2) := by
 have hlt := h.lt
 have h' : w.heap[b] = .cells #[.int .i64 p.1, .int .i64 p.2] 25 (0, 0) := by
  unfold Ps at h
  simpa [Array.getElem?_eq_getElem hlt] using h
 show (w.heap.modify b _)[b]? = _
 rw [Array.getElem?_eq_getElem (by simpa using hlt), Array.getElem_modify_self, h']
 simp
theorem Ps.set1 {w : World} {b : Nat} {p : Int × Int} (h : Ps w b p) (x : Int) : Ps (w.setCell ⟨b, 1, none⟩ (.int .i64 x)) b (p.1, x) := by
 have hlt := h.lt
 have h' : w.heap[b] = .cells #[.int .i64 p.1, .int .i64 p.2] 25 (0, 0) := by
  unfold Ps at h
  simpa [Array.getElem?_eq_getElem hlt] using h
 show (w.heap.modify b _)[b]? = _
 rw [Array.getElem?_eq_getElem (by simpa using hlt), Array.getElem_modify_self, h']
 simp
theorem Ps.other {w : World} {b b' : Nat} {p : Int × Int} (h : Ps w b p) (hne : b ≠ b') (k : Nat) (u : Value) : Ps (w.setCell ⟨b', k, none⟩ u) b p := (Below.heap_setCell w ⟨b', k, none⟩ u b hne).trans h
theorem Ps.alloc {w : World} {b : Nat} {p : Int × Int} (h : Ps w b p) (o : Obj) : Ps (w.alloc o) b p := ((World.grownBy_alloc w o none).block b h.lt (by simp)).trans h
theorem Ps.below {w w' : World} {B b : Nat} {p : Int × Int} (h : Ps w b p) (hb : Below B w w') (hlt : b < B) : Ps w' b p := (hb.block b hlt).trans h
theorem end_p25 {fn : Func} {R : Ending → World → Prop} {act : Act} {W : World} {b : Nat} {s : Tmp} {p : Int × Int} (h : Ps W b p) (hres : fn.results = #[.cell s 25])
  (hs : act.tmps.getD s undef = .pointer (some ⟨b, 0, none⟩)) (hd : act.defers = []) (hR : R (.returned (.agg #[.int .i64 p.1, .int .i64 p.2])) W) : bodyPost Tryz.prog fn R .ret act W := by
 have e0 := h.c0
 have e1 := h.c1
 have hs' : act.tmps[s]?.getD undef = .pointer (some ⟨b, 0, none⟩) := by rw [← hs]; simp
 refine bodyPost_ret (v := .agg #[.int .i64 p.1, .int .i64 p.2]) ?_ hd hR
 simp [results, hres, go_sem, hs', e0, e1]
end Go.Proofs.YtjmlmelcppbefaaGreatDoor
namespace Go.Proofs.YtjmlmelcppbefaaGreatDoor
open Go.RowKit
def isDefer : Op → Bool
 | .defer _ => true
 | _ => false
theorem rowsIn_of {n : Nat} {P : Program} {l : Nat} {row : String} {args : Array Value} {w : World} {R : Value → World → Prop} (h : Rows P row args w R) : RowsIn (Fence.wide.inRound l) n P row args w R :=
 fun c cs _ => let ⟨v, w', r, s⟩ := h c cs; ⟨v, w', r, stepsIn_wide.2 s⟩
theorem callsIn_of {n : Nat} {P : Program} {l : Nat} {f : FuncId} {args : Array Value} {w : World} {R : Ending → World → Prop} (h : Calls P f args w R) : CallsIn (Fence.wide.inRound l) n P f args w R :=
 CallsIn.inRound l (callsIn_wide.2 h)
theorem wpOpIn_of {n : Nat} {P : Program} {l : Nat} {ops : Array Oper} {Q : Exit → Act → World → Prop} (hd : ∀ (i : Nat) (o : Oper), ops[i]? = some o → isDefer o.op = false) (hno : ¬ LetsOut Q)
  {i : Nat} {K : Act → World → Prop} {a : Act} {w : World} (h : wpOp P ops Q i K a w) : wpOpIn (Fence.wide.inRound l) n P ops Q i K a w := by
 unfold wpOp at h
 unfold wpOpIn
 cases hi : ops[i]? with
 | none => simpa [hi] using h
 | some o =>
  simp only [hi] at h ⊢
  split
  ·rename_i hw
   simp only [hw, if_true] at h
   rcases h with h | ⟨_, h⟩
   ·refine ⟨fun _ _ => trivial, ?_⟩
    have hsem : o.semAt (Fence.wide.inRound l).round a.eval = execOp a.eval o := Oper.semAt_some l _ _ (fun c hc => by
     have := hd i o hi
     rw [hc] at this
     cases this)
    rw [hsem]
    unfold Oper.wp at h
    generalize (execOp a.eval o).run P w = r at *
    cases r with
    | ok x w' =>
     cases x <;> simp only [Oper.upon, Oper.uponIn] at h ⊢ <;>
      first
       | exact h
       | exact ⟨fun hs => by simp [Fence.wide, Fence.inRound] at hs, callsIn_of h⟩
       | exact ⟨fun hs => by simp [Fence.wide, Fence.inRound] at hs, rowsIn_of h⟩
    | halt x w' => cases x <;> simp only [Oper.upon, Oper.uponIn] at h ⊢ <;> exact h
   ·exact absurd h hno
  ·rename_i hw
   simp only [hw] at h
   exact ⟨fun _ _ => trivial, h⟩
theorem wpAnyIn_of {n : Nat} {P : Program} {l : Nat} {ops : Array Oper} {Q : Exit → Act → World → Prop} {md : Region.Mode} (hd : ∀ (i : Nat) (o : Oper), ops[i]? = some o → isDefer o.op = false) (hno : ¬ LetsOut Q) :
  ∀ (fuel : Nat) (listed : Array Bool) (a : Act) (w : World), wpAny P md ops Q fuel listed a w → wpAnyIn (Fence.wide.inRound l) n P md ops Q fuel listed a w
 | 0, _, _, _, h => h
 | fuel + 1, _, _, _, h => ⟨h.1, fun i hi => wpOpIn_of hd hno (wpOp_mono (fun a' w' h' => wpAnyIn_of hd hno fuel _ a' w' h') (h.2 i hi))⟩
def wpX (P : Program) (md : Region.Mode) (ops : Array Oper) (Q : Exit → Act → World → Prop) (late : List Nat) (S : World → Prop) : Nat → Array Bool → Act → World → Prop
 | 0, listed, a, w => Region.ready md ops listed = [] ∧ Q .normal a w
 | fuel + 1, listed, a, w =>
  (Region.ready md ops listed = [] → Q .normal a w) ∧
  ∀ i ∈ Region.ready md ops listed, wpOp P ops Q i (fun a' w' => (late.contains i = false → S w') ∧ wpX P md ops Q late S fuel (listed.setIfInBounds i true) a' w') a w
def waits (md : Region.Mode) (ops : Array Oper) (late : List Nat) (i : Nat) : Bool :=
 late.all fun j => match ops[j]? with
  | some o => o.after.any fun e => Region.binds md e && e.on == i
  | none => true
section
variable {P : Program} {ops : Array Oper} {Q : Exit → Act → World → Prop} {md : Region.Mode} {late : List Nat} {S : World → Prop}
theorem wpAny_of_X : ∀ (fuel : Nat) (listed : Array Bool) (a : Act) (w : World), wpX P md ops Q late S fuel listed a w → wpAny P md ops Q fuel listed a w
 | 0, _, _, _, h => h
 | fuel + 1, _, _, _, h => ⟨h.1, fun i hi => wpOp_mono (fun a' w' h' => wpAny_of_X fuel _ a' w' h'.2) (h.2 i hi)⟩
theorem not_both {listed : Array Bool} {i : Nat} (h0 : listed.getD i true = false) (h1 : listed.getD i false = true) : False := by
 rcases Nat.lt_or_ge i listed.size with h' | h'
 ·simp [h'] at h0 h1
  rw [h0] at h1
  cases h1
 ·simp [Array.getElem?_eq_none h'] at h1
theorem wpX_first {i : Nat} {oi : Oper} {v : Value} (hi : ops[i]? = some oi) (hsel : ∀ (j : Nat) (o : Oper) cs b, ops[j]? = some o → o.op ≠ .select cs b)
  (hQ : ∀ c a w, Q (.panic c) (a.put oi.dst v) w → Q (.panic c) a w) (hl : waits md ops late i = true) (fuel : Nat) : ∀ (listed : Array Bool) (a : Act) (w : World),
   (∀ j oj, ops[j]? = some oj → j ≠ i → listed.getD j true = false → (∀ e ∈ oj.after, Region.binds md e = true → e.on ≠ i) → oi.apart ops oj = true) →
   i ∈ Region.ready md ops listed → YieldsIf P ops S oi v a → S w →
   wpX P md ops Q late S fuel (listed.setIfInBounds i true) (a.put oi.dst v) w → wpX P md ops Q late S (fuel + 1) listed a w := by
 induction fuel with
 | zero =>
  intro listed a w _ hr hy hS H
  refine ⟨fun h => absurd hr (by rw [h]; simp), fun j hj => ?_⟩
  have hji : j = i := Classical.byContradiction fun hne => by
   have h0 := ready_mono hj hne
   rw [H.1] at h0
   simp at h0
  subst hji
  exact hy.wpOp hi hS ⟨fun _ => hS, H⟩
 | succ fuel ih =>
  intro listed a w hfree hr hy hS H
  refine ⟨fun h => absurd hr (by rw [h]; simp), fun j hj => ?_⟩
  rcases Decidable.em (j = i) with hji | hji
  ·subst hji
   exact hy.wpOp hi hS ⟨fun _ => hS, H⟩
  ·obtain ⟨hjun, oj, hoj, hall⟩ := mem_ready.1 hj
   have hnot : ∀ e ∈ oj.after, Region.binds md e = true → e.on ≠ i := fun e he hb heq => by
    have h1 := hall e he hb
    rw [heq] at h1
    exact not_both (mem_ready.1 hr).1 h1
   have hnl : late.contains j = false := by
    cases hc : late.contains j with
    | false => rfl
    | true =>
     have hw := List.all_eq_true.1 hl j (by simpa using hc)
     rw [hoj] at hw
     simp only [Array.any_eq_true', Bool.and_eq_true, beq_iff_eq] at hw
     obtain ⟨e, he, hb, heq⟩ := hw
     exact absurd heq (hnot e he hb)
   have h2 := wpOp_putIf hoj (hfree j oj hoj hji hjun hnot) (fun cs b => hsel i oi cs b hi) (fun cs b => hsel j oj cs b hoj) hQ hy (H.2 j (ready_mono hj hji))
   refine wpOp_mono (fun a' w' h3 => ⟨h3.2.1, ih (listed.setIfInBounds j true) a' w' ?_ (ready_mono hr (Ne.symm hji)) h3.1 (h3.2.1 hnl) ?_⟩) h2
   ·intro k ok hk hki hun hno
    refine hfree k ok hk hki ?_ hno
    rcases Decidable.em (j = k) with hjk | hjk
    ·subst hjk; exact hjun
    ·rw [getD_set_ne true hjk] at hun; exact hun
   ·rw [Array.setIfInBounds_comm _ _ hji]
    exact h3.2.2
theorem wpX_take (i : Nat) {oi : Oper} {v : Value} {fuel : Nat} {listed : Array Bool} {a : Act} {w : World} (hi : ops[i]? = some oi)
  (hs : Region.noSelect ops = true) (hf : Region.free md ops listed i = true) (hr : (Region.ready md ops listed).contains i = true) (hl : waits md ops late i = true)
  (hQ : ∀ c a w, Q (.panic c) (a.put oi.dst v) w → Q (.panic c) a w) (hS : S w) (hy : YieldsIf P ops S oi v a)
  (h : wpX P md ops Q late S fuel (listed.setIfInBounds i true) (a.put oi.dst v) w) : wpX P md ops Q late S (fuel + 1) listed a w :=
 wpX_first hi (Region.noSelect_spec hs) hQ hl fuel listed a w (Region.free_spec hi hf) (by simpa using hr) hy hS h
theorem wpX_done {listed : Array Bool} {a : Act} {w : World} (hr : Region.ready md ops listed = []) (h : Q .normal a w) : ∀ fuel, wpX P md ops Q late S fuel listed a w
 | 0 => ⟨hr, h⟩
 | _ + 1 => ⟨fun _ => h, by rw [hr]; simp⟩
theorem wpX_one {fuel : Nat} {listed : Array Bool} {a : Act} {w : World} (i : Nat) {o : Oper} (hr : Region.ready md ops listed = [i]) (ho : ops[i]? = some o)
  (h : ∀ K : Act → World → Prop, (∀ a' w', (late.contains i = false → S w') → wpX P md ops Q late S fuel (listed.setIfInBounds i true) a' w' → K a' w') →
   if Region.wanted o (yielded ops a.tmps) then o.wp P a w K Q else K (a.put o.dst undef) w) :
  wpX P md ops Q late S (fuel + 1) listed a w := by
 refine ⟨fun h0 => absurd (hr.symm.trans h0) (by simp), fun j hj => ?_⟩
 obtain rfl : j = i := by rw [hr] at hj; simpa using hj
 exact wpOp_step ho (fun K' hK' => h K' (fun a' w' hx hy => hK' a' w' ⟨hx, hy⟩))
end
theorem wpIn_region_round {n : Nat} {P : Program} {l : Nat} {ops : Array Oper} {Q : Exit → Act → World → Prop} (late : List Nat) (S : World → Prop) {id : Nat} {a : Act} {w : World} (hm : P.follows .mixedOrders = true)
  (hd : ops.all (fun o => !isDefer o.op) = true) (hno : ¬ LetsOut Q)
  (h : wpX P .any ops Q late S ops.size (Array.replicate ops.size false) a w.drew) : (Code.region id ops true).wpIn (Fence.wide.inRound l) n P Q a w :=
 wpIn_region_any hm (wpAnyIn_of (fun i o hi => by
  have := Array.all_eq_true'.1 hd o (Array.mem_of_getElem? hi)
  simpa using this) hno _ _ _ _ (wpAny_of_X _ _ _ _ h))
theorem wp_region_x {P : Program} {ops : Array Oper} {Q : Exit → Act → World → Prop} (late : List Nat) (S : World → Prop) {id : Nat} {a : Act} {w : World} (hm : P.follows .mixedOrders = true)
  (h : wpX P .any ops Q late S ops.size (Array.replicate ops.size false) a w.drew) : (Code.region id ops true).wp P Q a w :=
 wp_region_any hm (wpAny_of_X _ _ _ _ h)
end Go.Proofs.YtjmlmelcppbefaaGreatDoor
namespace Go.Proofs.YtjmlmelcppbefaaGreatDoor
open Go.RowKit
def Closed (md : Region.Mode) (ops : Array Oper) (listed : Array Bool) : Prop :=
 ∀ (k : Nat) (o : Oper), ops[k]? = some o → listed.getD k false = true → ∀ e ∈ o.after, Region.binds md e = true → listed.getD e.on false = true
def closedB (md : Region.Mode) (ops : Array Oper) (listed : Array Bool) : Bool :=
 (List.range ops.size).all fun k => match ops[k]? with
  | some o => !listed.getD k false || o.after.all fun e => !Region.binds md e || listed.getD e.on false
  | none => true
theorem closed_of {md : Region.Mode} {ops : Array Oper} {listed : Array Bool} (h : closedB md ops listed = true) : Closed md ops listed := by
 intro k o hk hl e he hb
 have h1 := List.all_eq_true.1 h k (List.mem_range.2 (Array.getElem?_eq_some_iff.1 hk).1)
 simp only [hk, hl, Bool.not_true, Bool.false_or] at h1
 have h2 := Array.all_eq_true'.1 h1 e he
 simpa [hb] using h2
theorem getD_set {listed : Array Bool} {j k : Nat} (h : listed.getD k false = true) : (listed.setIfInBounds j true).getD k false = true := by
 have hk : k < listed.size := by
  rcases Nat.lt_or_ge k listed.size with h' | h'
  ·exact h'
  ·simp [Array.getElem?_eq_none h'] at h
 simp only [Array.getD_eq_getD_getElem?, Array.getElem?_setIfInBounds] at h ⊢
 split
 ·simp_all
 ·exact h
theorem Closed.add {md : Region.Mode} {ops : Array Oper} {listed : Array Bool} (h : Closed md ops listed) {j : Nat} (hj : j ∈ Region.ready md ops listed) : Closed md ops (listed.setIfInBounds j true) := by
 intro k o hk hl e he hb
 obtain ⟨_, oj, hoj, hall⟩ := mem_ready.1 hj
 by_cases hkj : k = j
 ·subst hkj
  rw [hoj] at hk
  cases hk
  exact getD_set (hall e he hb)
 ·refine getD_set (h k o hk ?_ e he hb)
  simp only [Array.getD_eq_getD_getElem?, Array.getElem?_setIfInBounds] at hl ⊢
  rw [if_neg (by omega)] at hl
  exact hl
def waitsN (md : Region.Mode) (ops : Array Oper) (i : Nat) : Nat → Nat → Bool
 | 0, _ => false
 | n + 1, k => match ops[k]? with
  | some o => o.after.any fun e => Region.binds md e && (e.on == i || waitsN md ops i n e.on)
  | none => false
theorem waitsN_not {md : Region.Mode} {ops : Array Oper} {listed : Array Bool} (hc : Closed md ops listed) {i : Nat} (hi : listed.getD i false = false) : ∀ (n k : Nat), waitsN md ops i n k = true → listed.getD k false = false
 | 0, _, h => by cases h
 | n + 1, k, h => by
  cases hl : listed.getD k false with
  | false => rfl
  | true =>
   unfold waitsN at h
   cases hk : ops[k]? with
   | none => simp [hk] at h
   | some o =>
    simp only [hk, Array.any_eq_true', Bool.and_eq_true, Bool.or_eq_true, beq_iff_eq] at h
    obtain ⟨e, he, hb, h⟩ := h
    have h1 := hc k o hk hl e he hb
    rcases h with rfl | h
    ·rw [hi] at h1; cases h1
    ·rw [waitsN_not hc hi n e.on h] at h1; cases h1
def waits2 (md : Region.Mode) (ops : Array Oper) (late : List Nat) (i : Nat) : Bool := late.all fun j => waitsN md ops i (ops.size + 1) j
section
variable {P : Program} {ops : Array Oper} {Q : Exit → Act → World → Prop} {md : Region.Mode} {late : List Nat} {S : World → Prop}
theorem wpX_first2 {i : Nat} {oi : Oper} {v : Value} (hi : ops[i]? = some oi) (hsel : ∀ (j : Nat) (o : Oper) cs b, ops[j]? = some o → o.op ≠ .select cs b)
  (hQ : ∀ c a w, Q (.panic c) (a.put oi.dst v) w → Q (.panic c) a w) (hl : waits2 md ops late i = true) (fuel : Nat) : ∀ (listed : Array Bool) (a : Act) (w : World),
   Closed md ops listed →
   (∀ j oj, ops[j]? = some oj → j ≠ i → listed.getD j true = false → (∀ e ∈ oj.after, Region.binds md e = true → e.on ≠ i) → oi.apart ops oj = true) →
   i ∈ Region.ready md ops listed → YieldsIf P ops S oi v a → S w →
   wpX P md ops Q late S fuel (listed.setIfInBounds i true) (a.put oi.dst v) w → wpX P md ops Q late S (fuel + 1) listed a w := by
 induction fuel with
 | zero =>
  intro listed a w _ _ hr hy hS H
  refine ⟨fun h => absurd hr (by rw [h]; simp), fun j hj => ?_⟩
  have hji : j = i := Classical.byContradiction fun hne => by
   have h0 := ready_mono hj hne
   rw [H.1] at h0
   simp at h0
  subst hji
  exact hy.wpOp hi hS ⟨fun _ => hS, H⟩
 | succ fuel ih =>
  intro listed a w hcl hfree hr hy hS H
  refine ⟨fun h => absurd hr (by rw [h]; simp), fun j hj => ?_⟩
  rcases Decidable.em (j = i) with hji | hji
  ·subst hji
   exact hy.wpOp hi hS ⟨fun _ => hS, H⟩
  ·obtain ⟨hjun, oj, hoj, hall⟩ := mem_ready.1 hj
   have hiu : listed.getD i false = false := by
    cases h : listed.getD i false with
    | false => rfl
    | true => exact (not_both (mem_ready.1 hr).1 h).elim
   have hnot : ∀ e ∈ oj.after, Region.binds md e = true → e.on ≠ i := fun e he hb heq => by
    have h1 := hall e he hb
    rw [heq] at h1
    exact not_both (mem_ready.1 hr).1 h1
   have hnl : late.contains j = false := by
    cases hc : late.contains j with
    | false => rfl
    | true =>
     have hw := List.all_eq_true.1 hl j (by simpa using hc)
     simp only [waitsN, hoj, Array.any_eq_true', Bool.and_eq_true, Bool.or_eq_true, beq_iff_eq] at hw
     obtain ⟨e, he, hb, h⟩ := hw
     rcases h with h | h
     ·exact absurd h (hnot e he hb)
     ·have h1 := hall e he hb
      rw [waitsN_not hcl hiu _ _ h] at h1
      cases h1
   have h2 := wpOp_putIf hoj (hfree j oj hoj hji hjun hnot) (fun cs b => hsel i oi cs b hi) (fun cs b => hsel j oj cs b hoj) hQ hy (H.2 j (ready_mono hj hji))
   refine wpOp_mono (fun a' w' h3 => ⟨h3.2.1, ih (listed.setIfInBounds j true) a' w' (hcl.add hj) ?_ (ready_mono hr (Ne.symm hji)) h3.1 (h3.2.1 hnl) ?_⟩) h2
   ·intro k ok hk hki hun hno
    refine hfree k ok hk hki ?_ hno
    rcases Decidable.em (j = k) with hjk | hjk
    ·subst hjk; exact hjun
    ·rw [getD_set_ne true hjk] at hun; exact hun
   ·rw [Array.setIfInBounds_comm _ _ hji]
    exact h3.2.2
theorem wpX_take2 (i : Nat) {oi : Oper} {v : Value} {fuel : Nat} {listed : Array Bool} {a : Act} {w : World} (hi : ops[i]? = some oi)
  (hs : Region.noSelect ops = true) (hf : Region.free md ops listed i = true) (hr : (Region.ready md ops listed).contains i = true) (hl : waits2 md ops late i = true) (hc : closedB md ops listed = true)
  (hQ : ∀ c a w, Q (.panic c) (a.put oi.dst v) w → Q (.panic c) a w) (hS : S w) (hy : YieldsIf P ops S oi v a)
  (h : wpX P md ops Q late S fuel (listed.setIfInBounds i true) (a.put oi.dst v) w) : wpX P md ops Q late S (fuel + 1) listed a w :=
 wpX_first2 hi (Region.noSelect_spec hs) hQ hl fuel listed a w (closed_of hc) (Region.free_spec hi hf) (by simpa using hr) hy hS h
theorem wpX_two {fuel : Nat} {listed : Array Bool} {a : Act} {w : World} (i k : Nat) {o o2 : Oper} (hr : Region.ready md ops listed = [i, k]) (ho : ops[i]? = some o) (ho2 : ops[k]? = some o2)
  (h : ∀ K : Act → World → Prop, (∀ a' w', (late.contains i = false → S w') → wpX P md ops Q late S fuel (listed.setIfInBounds i true) a' w' → K a' w') →
   if Region.wanted o (yielded ops a.tmps) then o.wp P a w K Q else K (a.put o.dst undef) w)
  (h2 : ∀ K : Act → World → Prop, (∀ a' w', (late.contains k = false → S w') → wpX P md ops Q late S fuel (listed.setIfInBounds k true) a' w' → K a' w') →
   if Region.wanted o2 (yielded ops a.tmps) then o2.wp P a w K Q else K (a.put o2.dst undef) w) :
  wpX P md ops Q late S (fuel + 1) listed a w := by
 refine ⟨fun h0 => absurd (hr.symm.trans h0) (by simp), fun j hj => ?_⟩
 rw [hr] at hj
 rcases List.mem_cons.1 hj with rfl | hj
 ·exact wpOp_step ho (fun K' hK' => h K' (fun a' w' hx hy => hK' a' w' ⟨hx, hy⟩))
 ·obtain rfl : j = k := by simpa using hj
  exact wpOp_step ho2 (fun K' hK' => h2 K' (fun a' w' hx hy => hK' a' w' ⟨hx, hy⟩))
end
end Go.Proofs.YtjmlmelcppbefaaGreatDoor
namespace Go.Proofs.YtjmlmelcppbefaaGreatDoor
open Go.RowKit
structure Kp (w w' : World) (a b : Nat) : Prop where
 os : w'.os = w.os
 tape : w'.tape = w.tape
 output : w'.output = w.output
 size : w.heap.size ≤ w'.heap.size
 block : ∀ k, k < w.heap.size → k ≠ a → k ≠ b → w'.heap[k]? = w.heap[k]?
theorem Kp.refl (w : World) (a b : Nat) : Kp w w a b := ⟨rfl, rfl, rfl, Nat.le_refl _, fun _ _ _ _ => rfl⟩
theorem Kp.trans {w w1 w2 : World} {a b : Nat} (h : Kp w w1 a b) (h' : Kp w1 w2 a b) : Kp w w2 a b :=
 ⟨h'.os.trans h.os, h'.tape.trans h.tape, h'.output.trans h.output, Nat.le_trans h.size h'.size, fun k hk h1 h2 => (h'.block k (Nat.lt_of_lt_of_le hk h.size) h1 h2).trans (h.block k hk h1 h2)⟩
theorem Kp.drew {w w' : World} {a b : Nat} (h : Kp w w' a b) : Kp w w'.drew a b := ⟨h.os, h.tape, h.output, h.size, h.block⟩
theorem Kp.setA {w w' : World} {a b : Nat} (h : Kp w w' a b) (k : Nat) (u : Value) : Kp w (w'.setCell ⟨a, k, none⟩ u) a b :=
 ⟨h.os, h.tape, h.output, by simpa [World.setCell] using h.size, fun j hj h1 h2 => (Below.heap_setCell w' ⟨a, k, none⟩ u j h1).trans (h.block j hj h1 h2)⟩
theorem Kp.below {w w' : World} {a b : Nat} (h : Below w.heap.size w w') : Kp w w' a b := ⟨h.os, h.tape, h.output, h.size, fun k hk _ _ => h.block k hk⟩
theorem Kp.to_below {w0 w w' : World} {B a b : Nat} (h : Kp w w' a b) (h0 : Below B w0 w) (hB : B ≤ w.heap.size) (h1 : B ≤ a) (h2 : B ≤ b) : Below B w0 w' :=
 h0.trans ⟨h.os, h.tape, h.output, h.size, fun k hk => h.block k (by omega) (by omega) (by omega)⟩
def endOf (f : UInt8 → Bool) (s : ByteArray) (k : Nat) : Nat := k + ((s.data.toList.drop k).takeWhile f).length
theorem size_list (s : ByteArray) : s.data.toList.length = s.size := Array.length_toList
theorem drop_byte {s : ByteArray} {k : Nat} (h : k < s.size) : s.data.toList.drop k = byte s k :: s.data.toList.drop (k + 1) := by
 have h' : k < s.data.toList.length := by rw [size_list]; exact h
 rw [List.drop_eq_getElem_cons h']
 unfold byte
 rw [List.getD_eq_getElem?_getD, List.getElem?_eq_getElem h']
 rfl
theorem endOf_yes {f : UInt8 → Bool} {s : ByteArray} {k : Nat} (h : k < s.size) (hf : f (byte s k) = true) : endOf f s (k + 1) = endOf f s k := by
 unfold endOf
 rw [drop_byte h, List.takeWhile_cons_of_pos hf, List.length_cons]
 omega
theorem endOf_no {f : UInt8 → Bool} {s : ByteArray} {k : Nat} (h : k < s.size) (hf : f (byte s k) = false) : endOf f s k = k := by
 unfold endOf
 rw [drop_byte h, List.takeWhile_cons_of_neg (by simp [hf])]
 simp
theorem endOf_end {f : UInt8 → Bool} {s : ByteArray} {k : Nat} (h : s.size ≤ k) : endOf f s k = k := by
 unfold endOf
 rw [List.drop_eq_nil_of_le (by rw [size_list]; exact h)]
 rfl
theorem endOf_le {f : UInt8 → Bool} {s : ByteArray} {k : Nat} (h : k ≤ s.size) : k ≤ endOf f s k ∧ endOf f s k ≤ s.size := by
 unfold endOf
 have h1 : ((s.data.toList.drop k).takeWhile f).length ≤ (s.data.toList.drop k).length := (List.takeWhile_prefix f).length_le
 rw [List.length_drop, size_list] at h1
 omega
def Rd (w : World) (b : Nat) (s : ByteArray) (k : Nat) (kw sg : Value) : Prop :=
 w.heap[b]? = some (.cells #[.int .i64 (posAt s k).1, .int .i64 (posAt s k).2, .string s, .int .i64 (k : Int), kw, sg] 126 (0, 0))
theorem Rd.lt {w : World} {b k : Nat} {s : ByteArray} {kw sg : Value} (h : Rd w b s k kw sg) : b < w.heap.size := (Array.getElem?_eq_some_iff.1 h).1
theorem Rd.of {w w' : World} {b k : Nat} {s : ByteArray} {kw sg : Value} (h : Rd w b s k kw sg) (he : w'.heap[b]? = w.heap[b]?) : Rd w' b s k kw sg := he.trans h
theorem Rd.drew {w : World} {b k : Nat} {s : ByteArray} {kw sg : Value} (h : Rd w b s k kw sg) : Rd w.drew b s k kw sg := h
theorem Rd.belowS {w w' : World} {b k : Nat} {s : ByteArray} {kw sg : Value} (h : Rd w b s k kw sg) (hb : Below w.heap.size w w') : Rd w' b s k kw sg := h.of (hb.block b h.lt)
theorem Rd.alloc {w : World} {b k : Nat} {s : ByteArray} {kw sg : Value} (h : Rd w b s k kw sg) (o : Obj) : Rd (w.alloc o) b s k kw sg := h.of ((World.grownBy_alloc w o none).block b h.lt (by simp))
theorem Rd.c0 {w : World} {b k : Nat} {s : ByteArray} {kw sg : Value} (h : Rd w b s k kw sg) : w.cell? ⟨b, 0, none⟩ = some (.int .i64 (posAt s k).1) := by unfold Rd at h; simp [World.cell?, h]
theorem Rd.c1 {w : World} {b k : Nat} {s : ByteArray} {kw sg : Value} (h : Rd w b s k kw sg) : w.cell? ⟨b, 1, none⟩ = some (.int .i64 (posAt s k).2) := by unfold Rd at h; simp [World.cell?, h]
theorem Rd.c2 {w : World} {b k : Nat} {s : ByteArray} {kw sg : Value} (h : Rd w b s k kw sg) : w.cell? ⟨b, 2, none⟩ = some (.string s) := by unfold Rd at h; simp [World.cell?, h]
theorem Rd.c3 {w : World} {b k : Nat} {s : ByteArray} {kw sg : Value} (h : Rd w b s k kw sg) : w.cell? ⟨b, 3, none⟩ = some (.int .i64 (k : Int)) := by unfold Rd at h; simp [World.cell?, h]
theorem Rd.c4 {w : World} {b k : Nat} {s : ByteArray} {kw sg : Value} (h : Rd w b s k kw sg) : w.cell? ⟨b, 4, none⟩ = some kw := by unfold Rd at h; simp [World.cell?, h]
theorem Rd.c5 {w : World} {b k : Nat} {s : ByteArray} {kw sg : Value} (h : Rd w b s k kw sg) : w.cell? ⟨b, 5, none⟩ = some sg := by unfold Rd at h; simp [World.cell?, h]
theorem Rd.frozen {w : World} {b k : Nat} {s : ByteArray} {kw sg : Value} (h : Rd w b s k kw sg) (j : Nat) : w.frozen? ⟨b, j, none⟩ = false := by unfold Rd at h; simp [World.frozen?, h]
theorem heap_set {w : World} {b j : Nat} {cs : Array Value} {t : TypeId} (h : w.heap[b]? = some (.cells cs t (0, 0))) (u : Value) : (w.setCell ⟨b, j, none⟩ u).heap[b]? = some (.cells (cs.setIfInBounds j u) t (0, 0)) := by
 have hlt := (Array.getElem?_eq_some_iff.1 h).1
 have h' : w.heap[b] = .cells cs t (0, 0) := by simpa [Array.getElem?_eq_getElem hlt] using h
 show (w.heap.modify b _)[b]? = _
 rw [Array.getElem?_eq_getElem (by simpa using hlt), Array.getElem_modify_self, h']
 simp
theorem Rd.col {w : World} {b k : Nat} {s : ByteArray} {kw sg : Value} (h : Rd w b s k kw sg) (hc : byte s k ≠ 10) :
  Rd ((w.setCell ⟨b, 1, none⟩ (.int .i64 ((posAt s k).2 + 1))).setCell ⟨b, 3, none⟩ (.int .i64 ((k : Int) + 1))) b s (k + 1) kw sg := by
 have h2 := heap_set (j := 3) (heap_set (j := 1) h (.int .i64 ((posAt s k).2 + 1))) (.int .i64 ((k : Int) + 1))
 unfold Rd
 rw [h2]
 simp [posAt, adv, hc]
theorem Rd.line {w : World} {b k : Nat} {s : ByteArray} {kw sg : Value} (h : Rd w b s k kw sg) (hc : byte s k = 10) :
  Rd (((w.setCell ⟨b, 0, none⟩ (.int .i64 ((posAt s k).1 + 1))).setCell ⟨b, 1, none⟩ (.int .i64 1)).setCell ⟨b, 3, none⟩ (.int .i64 ((k : Int) + 1))) b s (k + 1) kw sg := by
 have h2 := heap_set (j := 3) (heap_set (j := 1) (heap_set (j := 0) h (.int .i64 ((posAt s k).1 + 1))) (.int .i64 1)) (.int .i64 ((k : Int) + 1))
 unfold Rd
 rw [h2]
 simp [posAt, adv, hc]
def isLet (c : UInt8) : Bool := decide (97 ≤ c.toNat) && decide (c.toNat ≤ 122)
def isDig (c : UInt8) : Bool := decide (48 ≤ c.toNat) && decide (c.toNat ≤ 57)
def isBl (c : UInt8) : Bool := c.toNat == 32 || c.toNat == 9 || c.toNat == 13 || c.toNat == 10
end Go.Proofs.YtjmlmelcppbefaaGreatDoor
namespace Go.Proofs.YtjmlmelcppbefaaGreatDoor
open Go.RowKit
def isAny (c : UInt8) : Bool := isLet c || isDig c
def isNoNl (c : UInt8) : Bool := !(c.toNat == 10)
theorem fact_eq {n m : Nat} : ((n : Int) == (m : Int)) = (n == m) := by
 rw [Bool.eq_iff_iff, beq_iff_eq, beq_iff_eq]
 omega
set_option maxHeartbeats 400000 in
theorem letter_any (c : UInt8) (w : World) : Calls Tryz.prog 130 #[.int .u8 (c.toNat : Int)] w fun e w' => e = .returned (.bool (isLet c)) ∧ w = w' := by
 by_cases h1 : 97 ≤ c.toNat
 ·by_cases h2 : c.toNat ≤ 122
  ·have i1 : (97 : Int) ≤ (c.toNat : Int) := by omega
   have i2 : (c.toNat : Int) ≤ 122 := by omega
   rw [show isLet c = true by simp [isLet, h1, h2]]
   go_enter Tryz.func130, Tryz.ntmps130
   go_wp2
   go_ret
   exact ⟨rfl, rfl⟩
  ·have i1 : (97 : Int) ≤ (c.toNat : Int) := by omega
   have i2 : ¬ (c.toNat : Int) ≤ 122 := by omega
   rw [show isLet c = false by simp [isLet, h2]]
   go_enter Tryz.func130, Tryz.ntmps130
   go_wp2
   go_ret
   exact ⟨rfl, rfl⟩
 ·have i1 : ¬ (97 : Int) ≤ (c.toNat : Int) := by omega
  rw [show isLet c = false by simp [isLet, h1]]
  go_enter Tryz.func130, Tryz.ntmps130
  go_wp2
  go_ret
  exact ⟨rfl, rfl⟩
set_option maxHeartbeats 400000 in
theorem digit_any (c : UInt8) (w : World) : Calls Tryz.prog 131 #[.int .u8 (c.toNat : Int)] w fun e w' => e = .returned (.bool (isDig c)) ∧ w = w' := by
 by_cases h1 : 48 ≤ c.toNat
 ·by_cases h2 : c.toNat ≤ 57
  ·have i1 : (48 : Int) ≤ (c.toNat : Int) := by omega
   have i2 : (c.toNat : Int) ≤ 57 := by omega
   rw [show isDig c = true by simp [isDig, h1, h2]]
   go_enter Tryz.func131, Tryz.ntmps131
   go_wp2
   go_ret
   exact ⟨rfl, rfl⟩
  ·have i1 : (48 : Int) ≤ (c.toNat : Int) := by omega
   have i2 : ¬ (c.toNat : Int) ≤ 57 := by omega
   rw [show isDig c = false by simp [isDig, h2]]
   go_enter Tryz.func131, Tryz.ntmps131
   go_wp2
   go_ret
   exact ⟨rfl, rfl⟩
 ·have i1 : ¬ (48 : Int) ≤ (c.toNat : Int) := by omega
  rw [show isDig c = false by simp [isDig, h1]]
  go_enter Tryz.func131, Tryz.ntmps131
  go_wp2
  go_ret
  exact ⟨rfl, rfl⟩
set_option maxHeartbeats 400000 in
theorem blank_any (c : UInt8) (w : World) : Calls Tryz.prog 142 #[.int .u8 (c.toNat : Int)] w fun e w' => e = .returned (.bool (isBl c)) ∧ w = w' := by
 obtain ⟨q1, h1⟩ : ∃ q, (c.toNat == 32) = q := ⟨_, rfl⟩
 obtain ⟨q2, h2⟩ : ∃ q, (c.toNat == 9) = q := ⟨_, rfl⟩
 obtain ⟨q3, h3⟩ : ∃ q, (c.toNat == 13) = q := ⟨_, rfl⟩
 obtain ⟨q4, h4⟩ : ∃ q, (c.toNat == 10) = q := ⟨_, rfl⟩
 have i1 : ((c.toNat : Int) == 32) = q1 := by rw [← h1]; exact fact_eq (m := 32)
 have i2 : ((c.toNat : Int) == 9) = q2 := by rw [← h2]; exact fact_eq (m := 9)
 have i3 : ((c.toNat : Int) == 13) = q3 := by rw [← h3]; exact fact_eq (m := 13)
 have i4 : ((c.toNat : Int) == 10) = q4 := by rw [← h4]; exact fact_eq (m := 10)
 rw [show isBl c = (q1 || q2 || q3 || q4) by simp only [isBl, h1, h2, h3, h4]]
 clear h1 h2 h3 h4
 cases q1
 ·cases q2
  ·cases q3
   ·cases q4
    all_goals
     go_enter Tryz.func142, Tryz.ntmps142
     go_wp2
     go_ret
     exact ⟨rfl, rfl⟩
   ·clear i4
    go_enter Tryz.func142, Tryz.ntmps142
    go_wp2
    go_ret
    exact ⟨rfl, rfl⟩
  ·clear i3 i4
   go_enter Tryz.func142, Tryz.ntmps142
   go_wp2
   go_ret
   exact ⟨rfl, rfl⟩
 ·clear i2 i3 i4
  go_enter Tryz.func142, Tryz.ntmps142
  go_wp2
  go_ret
  exact ⟨rfl, rfl⟩
set_option maxHeartbeats 400000 in
theorem nonl_any (c : UInt8) (w : World) : Calls Tryz.prog 143 #[.int .u8 (c.toNat : Int)] w fun e w' => e = .returned (.bool (isNoNl c)) ∧ w = w' := by
 obtain ⟨q4, h4⟩ : ∃ q, (c.toNat == 10) = q := ⟨_, rfl⟩
 have i4 : ((c.toNat : Int) == 10) = q4 := by rw [← h4]; exact fact_eq (m := 10)
 have i5 : ((c.toNat : Int) != 10) = !q4 := by rw [← i4]; rfl
 rw [show isNoNl c = !q4 by simp only [isNoNl, h4]]
 clear h4
 cases q4
 all_goals
  go_enter Tryz.func143, Tryz.ntmps143
  go_wp2
  go_ret
  exact ⟨rfl, rfl⟩
set_option maxHeartbeats 400000 in
theorem any_any (c : UInt8) (w : World) : Calls Tryz.prog 144 #[.int .u8 (c.toNat : Int)] w fun e w' => e = .returned (.bool (isAny c)) ∧ w = w' := by
 have c1 := letter_any c w
 have c2 := digit_any c w
 obtain ⟨q1, h1⟩ : ∃ q, isLet c = q := ⟨_, rfl⟩
 obtain ⟨q2, h2⟩ : ∃ q, isDig c = q := ⟨_, rfl⟩
 rw [h1] at c1
 rw [h2] at c2
 rw [show isAny c = (q1 || q2) by simp only [isAny, h1, h2]]
 clear h1 h2
 cases q1
 ·go_enter Tryz.func144, Tryz.ntmps144
  go_wp2_with fail
  refine c1.mono ?_
  rintro e w' ⟨rfl, rfl⟩
  go_wp2_with fail
  refine c2.mono ?_
  rintro e w' ⟨rfl, rfl⟩
  go_wp2
  go_ret
  exact ⟨rfl, rfl⟩
 ·go_enter Tryz.func144, Tryz.ntmps144
  go_wp2_with fail
  refine c1.mono ?_
  rintro e w' ⟨rfl, rfl⟩
  go_wp2
  go_ret
  exact ⟨rfl, rfl⟩
set_option maxHeartbeats 400000 in
theorem all_any (c : UInt8) (w : World) : Calls Tryz.prog 65 #[.int .u8 (c.toNat : Int)] w fun e w' => e = .returned (.bool true) ∧ w = w' := by
 go_enter Tryz.func65, Tryz.ntmps65
 go_wp2
 go_ret
 exact ⟨rfl, rfl⟩
end Go.Proofs.YtjmlmelcppbefaaGreatDoor
