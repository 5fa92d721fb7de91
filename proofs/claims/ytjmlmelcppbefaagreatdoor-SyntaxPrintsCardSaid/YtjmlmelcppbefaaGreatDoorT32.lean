/- What the syntax texts share, part 32. No condition. -/
import Derived.Test.YtjmlmelcppbefaaGreatDoorT24
import Derived.Test.YtjmlmelcppbefaaGreatDoorT26
import Derived.Test.YtjmlmelcppbefaaGreatDoorT31
namespace Go.Proofs.YtjmlmelcppbefaaGreatDoor
open Go.RowKit Go.Maps
theorem Out.map {α β : Type} {k k' j : Nat} {R : PR α} {x : α} {bad' : Bool} (g : α → β) (h : Out false k' R x j bad') : Out false k (andT R fun x j => some (.ok (g x, j))) (g x) j bad' := by
 rcases h with ⟨h, -⟩ | ⟨-, rfl, rfl⟩ | ⟨-, rfl, rfl⟩
 ·cases h
 ·exact .inr (.inl ⟨rfl, rfl, rfl⟩)
 ·exact .inr (.inr ⟨rfl, rfl, rfl⟩)
theorem Out.anyK {α : Type} {k k' j : Nat} {R : PR α} {x : α} {bad' : Bool} (h : Out false k R x j bad') : Out false k' R x j bad' := by
 rcases h with ⟨h, -⟩ | h | h
 ·cases h
 ·exact .inr (.inl h)
 ·exact .inr (.inr h)
def DX (w : World) (b : Nat) (S : Src) (bad : Bool) (k : Nat) (R : PR Ex) (e : Ending) (w' : World) : Prop := Kp w w' b b ∧ ∃ (cs : List Value) (x : Ex) (j : Nat) (bad' : Bool), e = .returned (.agg cs.toArray) ∧ ExL (w.heap.size ≤ ·) w' cs x ∧ Out bad k R x j bad' ∧ Dr w' b S j bad'
def DE (b : Nat) (S : Src) (f : Nat) (bad : Bool) : Prop := ∀ (w : World) (n k : Nat), 1 ≤ n → n ≤ 6 → Dr w b S k bad → (bad = false → pE S.T f n k ≠ none) → Calls Tryz.prog 149 #[.pointer (some ⟨b, 0, none⟩), .int .i64 (n : Int)] w (DX w b S bad k (pE S.T f n k))
theorem under46 : ∃ d, Tryz.prog.underlying 46 = some d ∧ d.isRow = true := by
 have h : (Tryz.prog.underlying 46).map (·.isRow) = some true := by kernel_rfl
 obtain ⟨d, h1, h2⟩ := Option.map_eq_some_iff.1 h
 exact ⟨d, h1, h2⟩
end Go.Proofs.YtjmlmelcppbefaaGreatDoor
namespace Go.Proofs.YtjmlmelcppbefaaGreatDoor
open Go.RowKit Go.Maps
theorem Out.ret {α β : Type} {bad bad' : Bool} {k j : Nat} {R : PR α} {u : α} (y : β) (h : Out bad k R u j bad') : Out bad k (andT R fun _ j => some (.ok (y, j))) y j bad' := h.bind (Out.pure _ _ _)
end Go.Proofs.YtjmlmelcppbefaaGreatDoor
namespace Go.Proofs.YtjmlmelcppbefaaGreatDoor
open Go.RowKit Go.Maps
def DEn (b : Nat) (S : Src) (n f : Nat) (bad : Bool) : Prop := ∀ (w : World) (k : Nat), Dr w b S k bad → (bad = false → pE S.T f n k ≠ none) → Calls Tryz.prog 149 #[.pointer (some ⟨b, 0, none⟩), .int .i64 (n : Int)] w (DX w b S bad k (pE S.T f n k))
def Rest (T : List Wd) (bad : Bool) (k f n : Nat) (g : Nat) (l : Ex) (j : Nat) (bd : Bool) : Prop := (∀ x jf bf, Out bd j (pL T g n n l j) x jf bf → Out bad k (pE T f n k) x jf bf) ∧ (bd = false → pL T g n n l j ≠ none)
theorem Rest.stop {T : List Wd} {bad bd : Bool} {k f n g j : Nat} {l : Ex} (_hn : 1 ≤ n) (h : Rest T bad k f n g l j bd) (ho : nextOp bd T j n = 0) : Out bad k (pE T f n k) l j bd := by
 refine h.1 l j bd ?_
 cases bd
 ·have hne := h.2 rfl
  cases g with
  | zero => exact absurd (by simp [pL]) hne
  | succ g =>
   rw [pL]
   split
   ·exact Out.pure _ _ _
   ·rename_i hc
    exfalso
    unfold nextOp at ho
    have hr : rankOf (opAt T j) = n := by omega
    rw [if_pos ⟨rfl, hr⟩] at ho
    exact hc (.inl ho)
 ·exact .inl ⟨rfl, rfl, rfl⟩
theorem Rest.go {T : List Wd} {bad bd : Bool} {k f n g j o : Nat} {l : Ex} (h : Rest T bad k f n g l j bd) (ho : nextOp bd T j n = o) (h0 : o ≠ 0) :
  bd = false ∧ opAt T j = o ∧ rankOf o = n ∧ ∃ g', g = g' + 1 ∧ pE T g' (n + 1) (j + 1) ≠ none ∧ ∀ x j2 bd2, Out false (j + 1) (pE T g' (n + 1) (j + 1)) x j2 bd2 →
   (n ≠ 3 → Rest T bad k f n g' (exBin o l x) j2 bd2) ∧ (n = 3 → Out bad k (pE T f n k) (exBin o l x) j2 bd2) := by
 unfold nextOp at ho
 split at ho
 ·rename_i hc
  obtain ⟨hbd, hr⟩ := hc
  subst hbd
  rw [ho] at hr
  refine ⟨rfl, ho, hr, ?_⟩
  have hne := h.2 rfl
  cases g with
  | zero => exact absurd (by simp [pL]) hne
  | succ g =>
   have hL : pL T (g + 1) n n l j = andT (pE T g (n + 1) (j + 1)) fun x j => pL T g n (nextM n) (exBin o l x) j := by
    rw [pL, if_neg (by rw [ho]; omega), ho, hr]
   rw [hL] at hne
   refine ⟨g, rfl, fun e => hne (by rw [e]; rfl), fun x j2 bd2 hO => ⟨fun hn3 => ?_, fun hn3 => ?_⟩⟩
   ·have hnm : nextM n = n := by unfold nextM; rw [if_neg hn3]
    rw [hnm] at hL hne
    refine ⟨fun X jf bf hX => h.1 X jf bf ?_, fun hb => ?_⟩
    ·rw [hL]
     exact (hO.bind (R2 := fun x j => pL T g n n (exBin o l x) j) hX).anyK
    ·subst hb
     rcases hO with ⟨h1, -⟩ | ⟨-, -, h1⟩ | ⟨-, h1, -⟩
     ·cases h1
     ·rw [h1, andT_ok] at hne
      exact hne
     ·cases h1
   ·refine h.1 _ _ _ ?_
    rw [hL]
    refine (hO.bind (R2 := fun x j => pL T g n (nextM n) (exBin o l x) j) ?_).anyK
    subst hn3
    cases bd2
    ·rcases hO with ⟨h1, -⟩ | ⟨-, -, h1⟩ | ⟨-, h1, -⟩
     ·cases h1
     ·rw [h1, andT_ok] at hne
      cases g with
      | zero => exact absurd (by simp [pL]) hne
      | succ g =>
       have h2 : nextM 3 = 2 := rfl
       rw [h2, pL, if_pos (by omega)]
       exact Out.pure _ _ _
     ·cases h1
    ·exact .inl ⟨rfl, rfl, rfl⟩
 ·exact absurd ho.symm h0
end Go.Proofs.YtjmlmelcppbefaaGreatDoor
namespace Go.Proofs.YtjmlmelcppbefaaGreatDoor
open Go.RowKit Go.Maps
end Go.Proofs.YtjmlmelcppbefaaGreatDoor
namespace Go.Proofs.YtjmlmelcppbefaaGreatDoor
open Go.RowKit Go.Maps
theorem DEn.all {b : Nat} {S : Src} {f : Nat} {bad : Bool} (h : ∀ n, 1 ≤ n → n ≤ 6 → DEn b S n f bad) : DE b S f bad := fun w n k h1 h6 hd hne => h n h1 h6 w k hd hne
end Go.Proofs.YtjmlmelcppbefaaGreatDoor
