/- X1: texts laid one behind the other. No condition but what each law says. -/
import Derived.Test.YtjmlmelcppbefaaGreatDoorT09
import Derived.Test.YtjmlmelcppbefaaGreatDoorT23
import Derived.Test.YtjmlmelcppbefaaGreatDoorT24
import Derived.Test.YtjmlmelcppbefaaGreatDoorT26
import Derived.Test.YtjmlmelcppbefaaGreatDoorT10
import Derived.Test.YtjmlmelcppbefaaGreatDoorT29
import Derived.Test.YtjmlmelcppbefaaGreatDoorT01
namespace Go.Proofs.YtjmlmelcppbefaaGreatDoor
section
variable (T : List Wd)
theorem dep1 (k n : Int) (s : ByteArray) (sl : Int) (lo : Bool) (o : Int) : (Ex.mk k n s sl lo o []).depth = 1 := by simp [Ex.depth, Ex.depths]
theorem dep2 (k n : Int) (s : ByteArray) (sl : Int) (lo : Bool) (o : Int) (x : Ex) : (Ex.mk k n s sl lo o [x]).depth = x.depth + 1 := by simp [Ex.depth, Ex.depths]
theorem dep3 (k n : Int) (s : ByteArray) (sl : Int) (lo : Bool) (o : Int) (x y : Ex) : (Ex.mk k n s sl lo o [x, y]).depth = max x.depth y.depth + 1 := by simp [Ex.depth, Ex.depths]
end
mutual
def St.xb (n : Nat) : St → Prop
 | .mk _ _ _ _ _ x y b e _ _ _ _ => x.depth ≤ n ∧ y.depth ≤ n ∧ St.xbs n b ∧ St.xbs n e
def St.xbs (n : Nat) : List St → Prop
 | [] => True
 | s :: r => St.xb n s ∧ St.xbs n r
end
section
variable (T : List Wd)
end
end Go.Proofs.YtjmlmelcppbefaaGreatDoor
namespace Go.Proofs.YtjmlmelcppbefaaGreatDoor
open Go.RowKit Go.Maps
structure Dr (w : World) (b : Nat) (S : Src) (k : Nat) (bad : Bool) : Prop where
 hd : Blk w b 87 [.slice S.a S.T.length S.cap, .int .i64 (k : Int), .bool bad]
 wds : Wds w S.a S.T
 ne : ∀ g o, S.a = some ⟨g, o, none⟩ → g ≠ b
 le : k ≤ S.T.length
 mx : S.T.length ≤ 1000000
 k4 : ∀ i, (S.T.getD i default).kind ≤ 4
 k3 : ∀ i, (S.T.getD i default).kind = 3 → opOf (S.T.getD i default).text = 0
 k5 : ∀ i, (S.T.getD i default).kind = 4 → stOf (S.T.getD i default).text = 0
theorem Dr.lt {w : World} {b k : Nat} {S : Src} {bad : Bool} (h : Dr w b S k bad) : b < w.heap.size := h.hd.lt
theorem Dr.below {w w' : World} {b k : Nat} {S : Src} {bad : Bool} (h : Dr w b S k bad) (hb : Below w.heap.size w w') : Dr w' b S k bad :=
 ⟨h.hd.below hb, h.wds.belowR hb (Nat.le_refl _), h.ne, h.le, h.mx, h.k4, h.k3, h.k5⟩
theorem Dr.alloc {w : World} {b k : Nat} {S : Src} {bad : Bool} (h : Dr w b S k bad) (o : Obj) : Dr (w.alloc o) b S k bad := h.below ((Below.refl _ w).alloc (Nat.le_refl _) o)
theorem Dr.drewN {w : World} {b k : Nat} {S : Src} {bad : Bool} (h : Dr w b S k bad) (n : Nat) : Dr (w.drewN n) b S k bad := ⟨h.hd.drewN n, h.wds, h.ne, h.le, h.mx, h.k4, h.k3, h.k5⟩
theorem Dr.fin {w W V : World} {b k j : Nat} {S : Src} {bad bad' : Bool} (h : Dr w b S k bad) (h3 : Dr W b S j bad') (hK : Kp w V b b) (hb : V.heap[b]? = W.heap[b]?) : Dr V b S j bad' :=
 ⟨h3.hd.of hb, h.wds.kp hK h.ne, h3.ne, h3.le, h3.mx, h3.k4, h3.k3, h3.k5⟩
theorem Dr.step {w : World} {b k : Nat} {S : Src} {bad : Bool} (h : Dr w b S k bad) (hk : k < S.T.length) : Dr (w.setCell ⟨b, 1, none⟩ (.int .i64 ((k : Int) + 1))) b S (k + 1) bad :=
 ⟨h.hd.set1 1 _, h.wds.kp ((Kp.refl w b b).setA 1 _) h.ne, h.ne, hk, h.mx, h.k4, h.k3, h.k5⟩
theorem Dr.fail {w : World} {b k : Nat} {S : Src} {bad : Bool} (h : Dr w b S k bad) : Dr (w.setCell ⟨b, 2, none⟩ (.bool true)) b S k true :=
 ⟨h.hd.set1 2 _, h.wds.kp ((Kp.refl w b b).setA 2 _) h.ne, h.ne, h.le, h.mx, h.k4, h.k3, h.k5⟩
theorem Dr.c0 {w : World} {b k : Nat} {S : Src} {bad : Bool} (h : Dr w b S k bad) : w.cell? ⟨b, 0, none⟩ = some (.slice S.a S.T.length S.cap) := h.hd.cell 0
theorem Dr.c1 {w : World} {b k : Nat} {S : Src} {bad : Bool} (h : Dr w b S k bad) : w.cell? ⟨b, 1, none⟩ = some (.int .i64 (k : Int)) := h.hd.cell 1
theorem Dr.c2 {w : World} {b k : Nat} {S : Src} {bad : Bool} (h : Dr w b S k bad) : w.cell? ⟨b, 2, none⟩ = some (.bool bad) := h.hd.cell 2
end Go.Proofs.YtjmlmelcppbefaaGreatDoor
namespace Go.Proofs.YtjmlmelcppbefaaGreatDoor
open Go.RowKit Go.Maps
def Out {α : Type} (bad : Bool) (k : Nat) (R : PR α) (x : α) (j : Nat) (bad' : Bool) : Prop :=
 (bad = true ∧ bad' = true ∧ j = k) ∨ (bad = false ∧ bad' = false ∧ R = some (.ok (x, j))) ∨ (bad = false ∧ bad' = true ∧ R = some (.error j))
theorem Out.bind {α β : Type} {bad bad1 bad2 : Bool} {k j j2 : Nat} {R : PR α} {R2 : α → Nat → PR β} {x : α} {y : β} (h : Out bad k R x j bad1) (h2 : Out bad1 j (R2 x j) y j2 bad2) : Out bad k (andT R R2) y j2 bad2 := by
 rcases h with ⟨rfl, rfl, rfl⟩ | ⟨rfl, rfl, rfl⟩ | ⟨rfl, rfl, rfl⟩
 ·rcases h2 with ⟨-, rfl, rfl⟩ | ⟨h, -⟩ | ⟨h, -⟩
  ·exact .inl ⟨rfl, rfl, rfl⟩
  ·cases h
  ·cases h
 ·rcases h2 with ⟨h, -⟩ | ⟨-, rfl, h⟩ | ⟨-, rfl, h⟩
  ·cases h
  ·exact .inr (.inl ⟨rfl, rfl, h⟩)
  ·exact .inr (.inr ⟨rfl, rfl, h⟩)
 ·rcases h2 with ⟨-, rfl, rfl⟩ | ⟨h, -⟩ | ⟨h, -⟩
  ·exact .inr (.inr ⟨rfl, rfl, rfl⟩)
  ·cases h
  ·cases h
theorem Out.pure {α : Type} (bad : Bool) (k : Nat) (x : α) : Out bad k (some (.ok (x, k))) x k bad := by
 cases bad
 ·exact .inr (.inl ⟨rfl, rfl, rfl⟩)
 ·exact .inl ⟨rfl, rfl, rfl⟩
theorem Out.any {α : Type} {k j : Nat} {R : PR α} {x : α} {bad' : Bool} (y : α) (h : Out true k R x j bad') : Out true k R y j bad' := by
 rcases h with ⟨-, h1, h2⟩ | ⟨h, -⟩ | ⟨h, -⟩
 ·exact .inl ⟨rfl, h1, h2⟩
 ·cases h
 ·cases h
end Go.Proofs.YtjmlmelcppbefaaGreatDoor
namespace Go.Proofs.YtjmlmelcppbefaaGreatDoor
open Go.RowKit Go.Maps
end Go.Proofs.YtjmlmelcppbefaaGreatDoor
namespace Go.Proofs.YtjmlmelcppbefaaGreatDoor
open Go.RowKit Go.Maps
def nextOp (bad : Bool) (T : List Wd) (k n : Nat) : Nat := if bad = false ∧ rankOf (opAt T k) = n then opAt T k else 0
end Go.Proofs.YtjmlmelcppbefaaGreatDoor
namespace Go.Proofs.YtjmlmelcppbefaaGreatDoor
open Go.RowKit Go.Maps
end Go.Proofs.YtjmlmelcppbefaaGreatDoor
namespace Go.Proofs.YtjmlmelcppbefaaGreatDoor
open Go.RowKit Go.Maps
theorem Out.map {α β : Type} {k k' j : Nat} {R : PR α} {x : α} {bad' : Bool} (g : α → β) (h : Out false k' R x j bad') : Out false k (andT R fun x j => some (.ok (g x, j))) (g x) j bad' := by
 rcases h with ⟨h, -⟩ | ⟨-, rfl, rfl⟩ | ⟨-, rfl, rfl⟩
 ·cases h
 ·exact .inr (.inl ⟨rfl, rfl, rfl⟩)
 ·exact .inr (.inr ⟨rfl, rfl, rfl⟩)
theorem Out.anyK {α : Type} {k k' j : Nat} {R : PR α} {x : α} {bad' : Bool} (h : Out false k R x j bad') : Out false k' R x j bad' := by
 rcases h with ⟨h, -⟩ | h | h
 ·cases h
 ·exact .inr (.inl h)
 ·exact .inr (.inr h)
def DX (w : World) (b : Nat) (S : Src) (bad : Bool) (k : Nat) (R : PR Ex) (e : Ending) (w' : World) : Prop := Kp w w' b b ∧ ∃ (cs : List Value) (x : Ex) (j : Nat) (bad' : Bool), e = .returned (.agg cs.toArray) ∧ ExL (w.heap.size ≤ ·) w' cs x ∧ Out bad k R x j bad' ∧ Dr w' b S j bad'
def DE (b : Nat) (S : Src) (f : Nat) (bad : Bool) : Prop := ∀ (w : World) (n k : Nat), 1 ≤ n → n ≤ 6 → Dr w b S k bad → (bad = false → pE S.T f n k ≠ none) → Calls Tryz.prog 149 #[.pointer (some ⟨b, 0, none⟩), .int .i64 (n : Int)] w (DX w b S bad k (pE S.T f n k))
theorem under46 : ∃ d, Tryz.prog.underlying 46 = some d ∧ d.isRow = true := by
 have h : (Tryz.prog.underlying 46).map (·.isRow) = some true := by kernel_rfl
 obtain ⟨d, h1, h2⟩ := Option.map_eq_some_iff.1 h
 exact ⟨d, h1, h2⟩
end Go.Proofs.YtjmlmelcppbefaaGreatDoor
namespace Go.Proofs.YtjmlmelcppbefaaGreatDoor
open Go.RowKit Go.Maps
theorem Out.ret {α β : Type} {bad bad' : Bool} {k j : Nat} {R : PR α} {u : α} (y : β) (h : Out bad k R u j bad') : Out bad k (andT R fun _ j => some (.ok (y, j))) y j bad' := h.bind (Out.pure _ _ _)
end Go.Proofs.YtjmlmelcppbefaaGreatDoor
namespace Go.Proofs.YtjmlmelcppbefaaGreatDoor
open Go.RowKit Go.Maps
def DEn (b : Nat) (S : Src) (n f : Nat) (bad : Bool) : Prop := ∀ (w : World) (k : Nat), Dr w b S k bad → (bad = false → pE S.T f n k ≠ none) → Calls Tryz.prog 149 #[.pointer (some ⟨b, 0, none⟩), .int .i64 (n : Int)] w (DX w b S bad k (pE S.T f n k))
def Rest (T : List Wd) (bad : Bool) (k f n : Nat) (g : Nat) (l : Ex) (j : Nat) (bd : Bool) : Prop := (∀ x jf bf, Out bd j (pL T g n n l j) x jf bf → Out bad k (pE T f n k) x jf bf) ∧ (bd = false → pL T g n n l j ≠ none)
theorem Rest.stop {T : List Wd} {bad bd : Bool} {k f n g j : Nat} {l : Ex} (_hn : 1 ≤ n) (h : Rest T bad k f n g l j bd) (ho : nextOp bd T j n = 0) : Out bad k (pE T f n k) l j bd := by
 refine h.1 l j bd ?_
 cases bd
 ·have hne := h.2 rfl
  cases g with
  | zero => exact absurd (by simp [pL]) hne
  | succ g =>
   rw [pL]
   split
   ·exact Out.pure _ _ _
   ·rename_i hc
    exfalso
    unfold nextOp at ho
    have hr : rankOf (opAt T j) = n := by omega
    rw [if_pos ⟨rfl, hr⟩] at ho
    exact hc (.inl ho)
 ·exact .inl ⟨rfl, rfl, rfl⟩
theorem Rest.go {T : List Wd} {bad bd : Bool} {k f n g j o : Nat} {l : Ex} (h : Rest T bad k f n g l j bd) (ho : nextOp bd T j n = o) (h0 : o ≠ 0) :
  bd = false ∧ opAt T j = o ∧ rankOf o = n ∧ ∃ g', g = g' + 1 ∧ pE T g' (n + 1) (j + 1) ≠ none ∧ ∀ x j2 bd2, Out false (j + 1) (pE T g' (n + 1) (j + 1)) x j2 bd2 →
   (n ≠ 3 → Rest T bad k f n g' (exBin o l x) j2 bd2) ∧ (n = 3 → Out bad k (pE T f n k) (exBin o l x) j2 bd2) := by
 unfold nextOp at ho
 split at ho
 ·rename_i hc
  obtain ⟨hbd, hr⟩ := hc
  subst hbd
  rw [ho] at hr
  refine ⟨rfl, ho, hr, ?_⟩
  have hne := h.2 rfl
  cases g with
  | zero => exact absurd (by simp [pL]) hne
  | succ g =>
   have hL : pL T (g + 1) n n l j = andT (pE T g (n + 1) (j + 1)) fun x j => pL T g n (nextM n) (exBin o l x) j := by
    rw [pL, if_neg (by rw [ho]; omega), ho, hr]
   rw [hL] at hne
   refine ⟨g, rfl, fun e => hne (by rw [e]; rfl), fun x j2 bd2 hO => ⟨fun hn3 => ?_, fun hn3 => ?_⟩⟩
   ·have hnm : nextM n = n := by unfold nextM; rw [if_neg hn3]
    rw [hnm] at hL hne
    refine ⟨fun X jf bf hX => h.1 X jf bf ?_, fun hb => ?_⟩
    ·rw [hL]
     exact (hO.bind (R2 := fun x j => pL T g n n (exBin o l x) j) hX).anyK
    ·subst hb
     rcases hO with ⟨h1, -⟩ | ⟨-, -, h1⟩ | ⟨-, h1, -⟩
     ·cases h1
     ·rw [h1, andT_ok] at hne
      exact hne
     ·cases h1
   ·refine h.1 _ _ _ ?_
    rw [hL]
    refine (hO.bind (R2 := fun x j => pL T g n (nextM n) (exBin o l x) j) ?_).anyK
    subst hn3
    cases bd2
    ·rcases hO with ⟨h1, -⟩ | ⟨-, -, h1⟩ | ⟨-, h1, -⟩
     ·cases h1
     ·rw [h1, andT_ok] at hne
      cases g with
      | zero => exact absurd (by simp [pL]) hne
      | succ g =>
       have h2 : nextM 3 = 2 := rfl
       rw [h2, pL, if_pos (by omega)]
       exact Out.pure _ _ _
     ·cases h1
    ·exact .inl ⟨rfl, rfl, rfl⟩
 ·exact absurd ho.symm h0
end Go.Proofs.YtjmlmelcppbefaaGreatDoor
namespace Go.Proofs.YtjmlmelcppbefaaGreatDoor
open Go.RowKit Go.Maps
end Go.Proofs.YtjmlmelcppbefaaGreatDoor
namespace Go.Proofs.YtjmlmelcppbefaaGreatDoor
open Go.RowKit Go.Maps
theorem DEn.all {b : Nat} {S : Src} {f : Nat} {bad : Bool} (h : ∀ n, 1 ≤ n → n ≤ 6 → DEn b S n f bad) : DE b S f bad := fun w n k h1 h6 hd hne => h n h1 h6 w k hd hne
end Go.Proofs.YtjmlmelcppbefaaGreatDoor
namespace Go.Proofs.YtjmlmelcppbefaaGreatDoor
open Go.RowKit Go.Maps
end Go.Proofs.YtjmlmelcppbefaaGreatDoor
namespace Go.Proofs.YtjmlmelcppbefaaGreatDoor
open Go.RowKit Go.Maps
def RestB (T : List Wd) (bad : Bool) (k f : Nat) (g : Nat) (acc : List St) (j : Nat) (bd : Bool) : Prop := (∀ x jf bf, Out bd j (pSs T g acc j) x jf bf → Out bad k (pB T f k) x jf bf) ∧ (bd = false → pSs T g acc j ≠ none)
theorem Out.bad {α : Type} {k j : Nat} {R : PR α} {x : α} {bf : Bool} (h : Out true k R x j bf) : bf = true ∧ j = k := by
 rcases h with ⟨-, h1, h2⟩ | ⟨h, -⟩ | ⟨h, -⟩
 ·exact ⟨h1, h2⟩
 ·cases h
 ·cases h
theorem RestB.pos {T : List Wd} {bad : Bool} {k f g j : Nat} {acc : List St} (h : RestB T bad k f g acc j false) : ∃ g', g = g' + 1 ∧ (isT T j sBlS = false → pS T g' j ≠ none) := by
 have h2 := h.2 rfl
 cases g with
 | zero => exact absurd (pSs_zero T acc j) h2
 | succ g =>
  refine ⟨g, rfl, fun hs e => h2 ?_⟩
  rw [pSs, if_neg (by rw [hs]; exact Bool.false_ne_true), e]
  rfl
theorem RestB.stop {T : List Wd} {bad bd bf : Bool} {k f g j jf : Nat} {acc : List St} {u : Unit} (h : RestB T bad k f g acc j bd) (hs : bd = false → isT T j sBlS = true) (ho : Out bd j (want T sBlS j) u jf bf) : Out bad k (pB T f k) acc jf bf := by
 refine h.1 acc jf bf ?_
 cases bd
 ·obtain ⟨g, rfl, -⟩ := h.pos
  rw [pSs, if_pos (hs rfl)]
  unfold want at ho
  rw [if_pos (hs rfl)] at ho
  rcases ho with ⟨h1, -⟩ | ⟨-, rfl, h2⟩ | ⟨-, -, h2⟩
  ·cases h1
  ·cases h2
   exact .inr (.inl ⟨rfl, rfl, rfl⟩)
  ·cases h2
 ·obtain ⟨rfl, rfl⟩ := ho.bad
  exact .inl ⟨rfl, rfl, rfl⟩
end Go.Proofs.YtjmlmelcppbefaaGreatDoor
namespace Go.Proofs.YtjmlmelcppbefaaGreatDoor
open Go.RowKit Go.Maps
end Go.Proofs.YtjmlmelcppbefaaGreatDoor
namespace Go.Proofs.YtjmlmelcppbefaaGreatDoor
open Go.RowKit Go.Maps
structure Ds (w : World) (b sb : Nat) (S : Src) (V : World) (j : Nat) (bd : Bool) (st : St) : Prop where
 s : Sb (w.heap.size + 1) V sb st
 r : Dr V b S j bd
 p : Kp w V b b
 z : Blk V w.heap.size 64 zSt.toList
 o : ∃ k0 b0, Dr w b S k0 b0
 B : w.heap.size + 1 ≤ sb
section
variable {w V V' : World} {b sb j j' : Nat} {S : Src} {bd bd' : Bool} {st : St}
theorem Ds.blt (h : Ds w b sb S V j bd st) : b < w.heap.size := by
 obtain ⟨k0, b0, h0⟩ := h.o
 exact h0.lt
theorem Ds.call (h : Ds w b sb S V j bd st) (hk : Kp V V' b b) (hr : Dr V' b S j' bd') : Ds w b sb S V' j' bd' st :=
 ⟨h.s.kp hk (by have := h.blt; omega) h.B, hr, h.p.trans hk, h.z.kp hk (by have := h.blt; omega) (by have := h.blt; omega), h.o, h.B⟩
theorem Ds.write {st' : St} (h : Ds w b sb S V j bd st) (hs : Sb (w.heap.size + 1) V' sb st') (hk : Kp w V' b b) (hw : ∀ c, c ≠ sb → V'.heap[c]? = V.heap[c]?) : Ds w b sb S V' j bd st' := by
 obtain ⟨k0, b0, h0⟩ := h.o
 have h1 := h0.lt
 have h2 := h.B
 exact ⟨hs, h0.fin h.r hk (hw b (by omega)), hk, h.z.of (hw _ (by omega)), h.o, h.B⟩
theorem Ds.cell1 {st' : St} (h : Ds w b sb S V j bd st) (n : Nat) (u : Value) (hs : Sb (w.heap.size + 1) (V.setCell ⟨sb, n, none⟩ u) sb st') : Ds w b sb S (V.setCell ⟨sb, n, none⟩ u) j bd st' :=
 h.write hs (h.p.setNew (by have := h.B; omega) n u) (fun c hc => Below.heap_setCell V ⟨sb, n, none⟩ u c hc)
theorem Ds.cellN {st' : St} (h : Ds w b sb S V j bd st) (n : Nat) (cz : List Value) (hs : Sb (w.heap.size + 1) (V.setCells sb n cz) sb st') : Ds w b sb S (V.setCells sb n cz) j bd st' :=
 h.write hs (Kp.setCellsNew (by have := h.B; omega) cz n h.p) (fun c hc => heap_setCells hc cz n V)
theorem Ds.kind (h : Ds w b sb S V j bd st) (q : Int) : Ds w b sb S (V.setCell ⟨sb, 0, none⟩ (.int .i64 q)) j bd (st.setKind q) := h.cell1 0 _ (h.s.kind q)
theorem Ds.name (h : Ds w b sb S V j bd st) (q : ByteArray) : Ds w b sb S (V.setCell ⟨sb, 3, none⟩ (.string q)) j bd (st.setName q) := h.cell1 3 _ (h.s.name q)
theorem Ds.wth (h : Ds w b sb S V j bd st) (q : ByteArray) : Ds w b sb S (V.setCell ⟨sb, 4, none⟩ (.string q)) j bd (st.setWith q) := h.cell1 4 _ (h.s.wth q)
theorem Ds.expr (h : Ds w b sb S V j bd st) {cz : List Value} {x : Ex} (hx : ExL (fun c => w.heap.size + 1 ≤ c ∧ c ≠ sb) V cz x) : Ds w b sb S (V.setCells sb 5 cz) j bd (st.setExpr x) := h.cellN 5 cz (h.s.expr hx)
theorem Ds.index (h : Ds w b sb S V j bd st) {cz : List Value} {x : Ex} (hx : ExL (fun c => w.heap.size + 1 ≤ c ∧ c ≠ sb) V cz x) : Ds w b sb S (V.setCells sb 12 cz) j bd (st.setIndex x) := h.cellN 12 cz (h.s.index hx)
theorem Ds.body (h : Ds w b sb S V j bd st) {a0 : Option Addr} {l0 : List St} {cap0 : Nat} (hl : Roomy l0.length cap0) (hz : StsL (fun c => w.heap.size + 1 ≤ c ∧ c ≠ sb) V a0 0 l0) : Ds w b sb S (V.setCell ⟨sb, 19, none⟩ (.slice a0 l0.length cap0)) j bd (st.setBody l0) := h.cell1 19 _ (h.s.body hl hz)
theorem Ds.els (h : Ds w b sb S V j bd st) {a0 : Option Addr} {l0 : List St} {cap0 : Nat} (hl : Roomy l0.length cap0) (hz : StsL (fun c => w.heap.size + 1 ≤ c ∧ c ≠ sb) V a0 0 l0) : Ds w b sb S (V.setCell ⟨sb, 20, none⟩ (.slice a0 l0.length cap0)) j bd (st.setEls l0) := h.cell1 20 _ (h.s.els hl hz)
theorem Ds.step (h : Ds w b sb S V j bd st) (hj : j < S.T.length) : Ds w b sb S (V.setCell ⟨b, 1, none⟩ (.int .i64 ((j : Int) + 1))) (j + 1) bd st :=
 h.call ((Kp.refl V b b).setA 1 _) (h.r.step hj)
theorem Ds.part {cs : List Value} {x : Ex} (h : Ds w b sb S V j bd st) (hX : ExL (V.heap.size ≤ ·) V' cs x) : ExL (fun c => w.heap.size + 1 ≤ c ∧ c ≠ sb) V' cs x :=
 ExL.weak (fun c hc => by have h1 := h.B; have h2 := h.s.lt; have h3 : V.heap.size ≤ c := hc; exact ⟨by omega, by omega⟩) hX
theorem Ds.parts {a : Option Addr} {l : List St} (h : Ds w b sb S V j bd st) (hX : StsL (V.heap.size ≤ ·) V' a 0 l) : StsL (fun c => w.heap.size + 1 ≤ c ∧ c ≠ sb) V' a 0 l :=
 StsL.weak (fun c hc => by have h1 := h.B; have h2 := h.s.lt; have h3 : V.heap.size ≤ c := hc; exact ⟨by omega, by omega⟩) hX
def St.kd : St → Int
 | .mk k _ _ _ _ _ _ _ _ _ _ _ _ => k
theorem St.kind_cell {ok : Nat → Prop} {W : World} {cs : List Value} : ∀ {s : St}, StL ok W cs s → cs[0]? = some (.int .i64 s.kd)
 | .mk k l c s t x y b e i sl ot lo, h => by
  unfold StL at h
  obtain ⟨cx, cy, a, a', cap, cap', rfl, -⟩ := h
  rfl
theorem Ds.c0 (h : Ds w b sb S V j bd st) : V.cell? ⟨sb, 0, none⟩ = some (.int .i64 st.kd) := by
 obtain ⟨cs, h1, h2⟩ := h.s
 exact (h1.cell 0).trans (St.kind_cell h2)
end
theorem Out.from {α : Type} {k k' j : Nat} {R : PR α} {x : α} {bf : Bool} (h : Out false k R x j bf) : Out false k' R x j bf := by
 rcases h with ⟨h, -⟩ | h | h
 ·cases h
 ·exact .inr (.inl h)
 ·exact .inr (.inr h)
end Go.Proofs.YtjmlmelcppbefaaGreatDoor
namespace Go.Proofs.YtjmlmelcppbefaaGreatDoor
open Go.RowKit Go.Maps
def dropS : Nat → Code → Code
 | 0, c => c
 | n + 1, .seq _ c => dropS n c
 | _, c => c
end Go.Proofs.YtjmlmelcppbefaaGreatDoor
set_option maxRecDepth 100000
namespace Go.Proofs.YtjmlmelcppbefaaGreatDoor
open Go.RowKit Go.Maps
def XlAt (w : World) (a : Option Addr) (l : List Ex) : Prop := ExsL (fun _ => True) w a 0 l
theorem XlAt.at {w : World} {a : Option Addr} {l : List Ex} (h : XlAt w a l) {j : Nat} (hj : j < l.length) : ∃ b off cs, a = some ⟨b, off, none⟩ ∧ w.rangeAt b (off + j * 7) cs ∧ ExL (fun _ => True) w cs (l.getD j zEx) := by
 obtain ⟨b, off, cs, h1, -, h2, h3⟩ := ExsL.at h j hj
 exact ⟨b, off, cs, h1, fun t v hv => by simpa using h2 t v hv, h3⟩
theorem ExL.below {w w' : World} {cs : List Value} {x : Ex} (h : ExL (fun _ => True) w cs x) (hb : Below w.heap.size w w') : ExL (fun _ => True) w' cs x :=
 ExL.keep (fun b o v _ hv => by rw [← hv]; simp [World.cellU, World.cell?, World.frozen?, hb.block b (World.block_lt_of_cellU w hv)]) h
theorem XlAt.below {w w' : World} {a : Option Addr} {l : List Ex} (h : XlAt w a l) (hb : Below w.heap.size w w') : XlAt w' a l :=
 ExsL.keep (fun b o v _ hv => by rw [← hv]; simp [World.cellU, World.cell?, World.frozen?, hb.block b (World.block_lt_of_cellU w hv)]) h
theorem depth_ge {l : List Ex} {n j : Nat} (h : Ex.depths l ≤ n) (hj : j < l.length) : (l.getD j zEx).depth ≤ n := (depths_le n l).1 h j hj
theorem toListInj {s t : ByteArray} (h : s.toList = t.toList) : s = t := by
 rw [ByteArray.toList_eq, ByteArray.toList_eq] at h
 exact ByteArray.ext (Array.toList_inj.1 h)
theorem neOr {α : Type} [DecidableEq α] (a b : α) : a ≠ b ∨ a = b := (Decidable.em (a = b)).symm
theorem still_of_quiet {P : Program} {o : Oper} {a : Act} {W : World} {K : Act → Prop} (h : o.quiet P a (fun w' => w' = W) K) : o.still P a W K := by
 obtain ⟨v, h1, h2⟩ := h
 have h3 := h1 W rfl
 unfold Oper.quietAt at h3
 unfold Oper.still
 generalize (execOp a.eval o).run P W = r at h3
 unfold Oper.quietUpon at h3
 unfold Oper.stillUpon
 split at h3
 ·obtain ⟨rfl, rfl⟩ := h3
  exact ⟨rfl, h2⟩
 ·obtain ⟨rfl, rfl⟩ := h3
  exact ⟨rfl, h2⟩
 ·exact ⟨h3.1, v, h3.2, h2⟩
 ·exact h3.elim
theorem wpStill_of_quiet {P : Program} {ops : Array Oper} {W : World} {Q : Act → Prop} : ∀ (l : List Oper) (a : Act), wpQuiet P ops (fun w' => w' = W) Q l a → wpStill P ops W Q l a
 | [], _, h => h
 | o :: rest, a, h => by
  unfold wpQuiet at h
  unfold wpStill
  split
  ·rename_i hw
   rw [if_pos hw] at h
   exact Oper.still_mono (fun a h => wpStill_of_quiet rest a h) (still_of_quiet h)
  ·rename_i hw
   rw [if_neg hw] at h
   exact wpStill_of_quiet rest _ h
theorem wp_region_quiet_tail {P : Program} {id : Nat} {Q : Exit → Act → World → Prop} {a : Act} {w : World} {l : List Oper} (n : Nat) (hm : P.follows .mixedOrders = true) (hB : Region.lexTailB .any l.toArray n = true)
  (h : wpQuiet P l.toArray (fun w' => w' = w.drew) (fun a' => wpList P l.toArray Q (l.drop n) a' w.drew) (l.take n) a) : (Code.region id l.toArray true).wp P Q a w :=
 wp_region_still_tail n hm hB (wpStill_of_quiet _ _ h)
theorem StAt.below {w w' : World} {b off : Nat} {s : St} (h : StAt w b off s) (hb : Below w.heap.size w w') : StAt w' b off s := by
 obtain ⟨cs, h1, h2⟩ := h
 have hk : ∀ (b o : Nat) (v : Value), w.cell? ⟨b, o, none⟩ = some v → w'.cell? ⟨b, o, none⟩ = some v := fun b o v hv => by rw [← hv]; simp [World.cell?, hb.block b (World.block_lt_of_cell? w _ hv)]
 exact ⟨cs, fun j v hv => hk _ _ _ (h1 j v hv), StL.keep (fun b o v _ hv => by rw [← hv]; simp [World.cellU, World.cell?, World.frozen?, hb.block b (World.block_lt_of_cellU w hv)]) h2⟩
structure Lev (w : World) (q : Nat) (V : World) (a : Option Addr) (cap : Nat) (l : List St) (s : St) : Prop where
 b : Below w.heap.size w V
 z : Blk V w.heap.size 25 [.int .i64 0, .int .i64 0]
 l : SlAt V a cap l
 s : StAt V q 0 s
theorem Lev.below {w V V' : World} {q : Nat} {a : Option Addr} {cap : Nat} {l : List St} {s : St} (h : Lev w q V a cap l s) (hb : Below V.heap.size V V') : Lev w q V' a cap l s :=
 ⟨h.b.trans (hb.mono h.b.size), h.z.below hb, h.l.below hb, h.s.below hb⟩
theorem ExL.at0 {w : World} {b off : Nat} {x : Ex} (h : ExAt w b off x) : ∃ cs : List Value, w.rangeAt b off cs ∧ cs.length = 7 ∧ ExL (fun _ => True) w cs x := by
 obtain ⟨cs, h1, h2⟩ := h
 exact ⟨cs, h1, h2.cells.1, h2⟩
end Go.Proofs.YtjmlmelcppbefaaGreatDoor
namespace Go.Proofs.YtjmlmelcppbefaaGreatDoor
open Go.RowKit Go.Maps
theorem noB_list : noB.toList = [] := by
 unfold noB
 rw [ByteArray.toList_eq]
end Go.Proofs.YtjmlmelcppbefaaGreatDoor
namespace Go.Proofs.YtjmlmelcppbefaaGreatDoor
open Go.RowKit Go.Maps
theorem StL.below {w w' : World} {cs : List Value} {s : St} (h : StL (fun _ => True) w cs s) (hb : Below w.heap.size w w') : StL (fun _ => True) w' cs s :=
 StL.keep (fun b o v _ hv => by rw [← hv]; simp [World.cellU, World.cell?, World.frozen?, hb.block b (World.block_lt_of_cellU w hv)]) h
theorem DesL.below {w w' : World} {a : Option Addr} {l : List De} (h : DesL (fun _ => True) w a l) (hb : Below w.heap.size w w') : DesL (fun _ => True) w' a l :=
 h.keep (fun b o v _ hv => by rw [← hv]; simp [World.cellU, World.cell?, World.frozen?, hb.block b (World.block_lt_of_cellU w hv)])
theorem size_at {l : List St} {i : Nat} {s : St} (h : l[i]? = some s) : SizeOf.sizeOf s < SizeOf.sizeOf l := List.sizeOf_lt_of_mem (List.mem_of_getElem? h)
theorem body_lt (k l c : Int) (s t : ByteArray) (x y : Ex) (b e : List St) (i sl o : Int) (lo : Bool) : SizeOf.sizeOf b < SizeOf.sizeOf (St.mk k l c s t x y b e i sl o lo) ∧ SizeOf.sizeOf e < SizeOf.sizeOf (St.mk k l c s t x y b e i sl o lo) := by
 simp only [St.mk.sizeOf_spec]
 omega
end Go.Proofs.YtjmlmelcppbefaaGreatDoor
