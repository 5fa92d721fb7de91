/- What the syntax texts share, part 31. No condition. -/
import Derived.Test.YtjmlmelcppbefaaGreatDoorT09
import Derived.Test.YtjmlmelcppbefaaGreatDoorT23
namespace Go.Proofs.YtjmlmelcppbefaaGreatDoor
open Go.RowKit Go.Maps
structure Dr (w : World) (b : Nat) (S : Src) (k : Nat) (bad : Bool) : Prop where
 hd : Blk w b 87 [.slice S.a S.T.length S.cap, .int .i64 (k : Int), .bool bad]
 wds : Wds w S.a S.T
 ne : ∀ g o, S.a = some ⟨g, o, none⟩ → g ≠ b
 le : k ≤ S.T.length
 mx : S.T.length ≤ 1000000
 k4 : ∀ i, (S.T.getD i default).kind ≤ 4
 k3 : ∀ i, (S.T.getD i default).kind = 3 → opOf (S.T.getD i default).text = 0
 k5 : ∀ i, (S.T.getD i default).kind = 4 → stOf (S.T.getD i default).text = 0
theorem Dr.lt {w : World} {b k : Nat} {S : Src} {bad : Bool} (h : Dr w b S k bad) : b < w.heap.size := h.hd.lt
theorem Dr.below {w w' : World} {b k : Nat} {S : Src} {bad : Bool} (h : Dr w b S k bad) (hb : Below w.heap.size w w') : Dr w' b S k bad :=
 ⟨h.hd.below hb, h.wds.belowR hb (Nat.le_refl _), h.ne, h.le, h.mx, h.k4, h.k3, h.k5⟩
theorem Dr.alloc {w : World} {b k : Nat} {S : Src} {bad : Bool} (h : Dr w b S k bad) (o : Obj) : Dr (w.alloc o) b S k bad := h.below ((Below.refl _ w).alloc (Nat.le_refl _) o)
theorem Dr.drewN {w : World} {b k : Nat} {S : Src} {bad : Bool} (h : Dr w b S k bad) (n : Nat) : Dr (w.drewN n) b S k bad := ⟨h.hd.drewN n, h.wds, h.ne, h.le, h.mx, h.k4, h.k3, h.k5⟩
theorem Dr.fin {w W V : World} {b k j : Nat} {S : Src} {bad bad' : Bool} (h : Dr w b S k bad) (h3 : Dr W b S j bad') (hK : Kp w V b b) (hb : V.heap[b]? = W.heap[b]?) : Dr V b S j bad' :=
 ⟨h3.hd.of hb, h.wds.kp hK h.ne, h3.ne, h3.le, h3.mx, h3.k4, h3.k3, h3.k5⟩
theorem Dr.step {w : World} {b k : Nat} {S : Src} {bad : Bool} (h : Dr w b S k bad) (hk : k < S.T.length) : Dr (w.setCell ⟨b, 1, none⟩ (.int .i64 ((k : Int) + 1))) b S (k + 1) bad :=
 ⟨h.hd.set1 1 _, h.wds.kp ((Kp.refl w b b).setA 1 _) h.ne, h.ne, hk, h.mx, h.k4, h.k3, h.k5⟩
theorem Dr.fail {w : World} {b k : Nat} {S : Src} {bad : Bool} (h : Dr w b S k bad) : Dr (w.setCell ⟨b, 2, none⟩ (.bool true)) b S k true :=
 ⟨h.hd.set1 2 _, h.wds.kp ((Kp.refl w b b).setA 2 _) h.ne, h.ne, h.le, h.mx, h.k4, h.k3, h.k5⟩
theorem Dr.c0 {w : World} {b k : Nat} {S : Src} {bad : Bool} (h : Dr w b S k bad) : w.cell? ⟨b, 0, none⟩ = some (.slice S.a S.T.length S.cap) := h.hd.cell 0
theorem Dr.c1 {w : World} {b k : Nat} {S : Src} {bad : Bool} (h : Dr w b S k bad) : w.cell? ⟨b, 1, none⟩ = some (.int .i64 (k : Int)) := h.hd.cell 1
theorem Dr.c2 {w : World} {b k : Nat} {S : Src} {bad : Bool} (h : Dr w b S k bad) : w.cell? ⟨b, 2, none⟩ = some (.bool bad) := h.hd.cell 2
end Go.Proofs.YtjmlmelcppbefaaGreatDoor
namespace Go.Proofs.YtjmlmelcppbefaaGreatDoor
open Go.RowKit Go.Maps
def Out {α : Type} (bad : Bool) (k : Nat) (R : PR α) (x : α) (j : Nat) (bad' : Bool) : Prop :=
 (bad = true ∧ bad' = true ∧ j = k) ∨ (bad = false ∧ bad' = false ∧ R = some (.ok (x, j))) ∨ (bad = false ∧ bad' = true ∧ R = some (.error j))
theorem Out.bind {α β : Type} {bad bad1 bad2 : Bool} {k j j2 : Nat} {R : PR α} {R2 : α → Nat → PR β} {x : α} {y : β} (h : Out bad k R x j bad1) (h2 : Out bad1 j (R2 x j) y j2 bad2) : Out bad k (andT R R2) y j2 bad2 := by
 rcases h with ⟨rfl, rfl, rfl⟩ | ⟨rfl, rfl, rfl⟩ | ⟨rfl, rfl, rfl⟩
 ·rcases h2 with ⟨-, rfl, rfl⟩ | ⟨h, -⟩ | ⟨h, -⟩
  ·exact .inl ⟨rfl, rfl, rfl⟩
  ·cases h
  ·cases h
 ·rcases h2 with ⟨h, -⟩ | ⟨-, rfl, h⟩ | ⟨-, rfl, h⟩
  ·cases h
  ·exact .inr (.inl ⟨rfl, rfl, h⟩)
  ·exact .inr (.inr ⟨rfl, rfl, h⟩)
 ·rcases h2 with ⟨-, rfl, rfl⟩ | ⟨h, -⟩ | ⟨h, -⟩
  ·exact .inr (.inr ⟨rfl, rfl, rfl⟩)
  ·cases h
  ·cases h
theorem Out.pure {α : Type} (bad : Bool) (k : Nat) (x : α) : Out bad k (some (.ok (x, k))) x k bad := by
 cases bad
 ·exact .inr (.inl ⟨rfl, rfl, rfl⟩)
 ·exact .inl ⟨rfl, rfl, rfl⟩
theorem Out.any {α : Type} {k j : Nat} {R : PR α} {x : α} {bad' : Bool} (y : α) (h : Out true k R x j bad') : Out true k R y j bad' := by
 rcases h with ⟨-, h1, h2⟩ | ⟨h, -⟩ | ⟨h, -⟩
 ·exact .inl ⟨rfl, h1, h2⟩
 ·cases h
 ·cases h
end Go.Proofs.YtjmlmelcppbefaaGreatDoor
namespace Go.Proofs.YtjmlmelcppbefaaGreatDoor
open Go.RowKit Go.Maps
end Go.Proofs.YtjmlmelcppbefaaGreatDoor
namespace Go.Proofs.YtjmlmelcppbefaaGreatDoor
open Go.RowKit Go.Maps
theorem lt12 {o : Nat} (h : o < 12) : o = 0 ∨ o = 1 ∨ o = 2 ∨ o = 3 ∨ o = 4 ∨ o = 5 ∨ o = 6 ∨ o = 7 ∨ o = 8 ∨ o = 9 ∨ o = 10 ∨ o = 11 := by omega
set_option maxHeartbeats 4000000 in
theorem rrank_any (w : World) {o : Nat} (h : o < 12) : Calls Tryz.prog 54 #[.int .i64 (o : Int)] w fun e w' => e = .returned (.int .i64 (rankOf o : Int)) ∧ Below w.heap.size w w' := by
 have hb : Below w.heap.size w (w.alloc (.cells #[.int .i64 0, .int .i64 1, .int .i64 2, .int .i64 3, .int .i64 3, .int .i64 3, .int .i64 3, .int .i64 4, .int .i64 4, .int .i64 5, .int .i64 5, .int .i64 5] 3)) := (Below.refl _ w).alloc (Nat.le_refl _) _
 have HB := Lib.hid hb
 clear hb
 rcases lt12 h with rfl | rfl | rfl | rfl | rfl | rfl | rfl | rfl | rfl | rfl | rfl | rfl
 all_goals
  go_enter Tryz.func54, Tryz.ntmps54
  go_wp2_with fail
  go_ret
  exact ⟨rfl, HB.out⟩
set_option maxRecDepth 100000 in
set_option maxHeartbeats 4000000 in
theorem rsign_any (w : World) {o : Nat} (h : o < 12) : Calls Tryz.prog 55 #[.int .i64 (o : Int)] w fun e w' => e = .returned (.string (opS.getD o noB)) ∧ Below w.heap.size w w' := by
 have hb : Below w.heap.size w (w.alloc (.cells (opS.map Value.string).toArray 9)) := (Below.refl _ w).alloc (Nat.le_refl _) _
 have HB := Lib.hid hb
 clear hb
 rcases lt12 h with rfl | rfl | rfl | rfl | rfl | rfl | rfl | rfl | rfl | rfl | rfl | rfl
 all_goals
  go_enter Tryz.func55, Tryz.ntmps55
  go_wp2_with fail
  go_ret
  exact ⟨rfl, HB.out⟩
def nextOp (bad : Bool) (T : List Wd) (k n : Nat) : Nat := if bad = false ∧ rankOf (opAt T k) = n then opAt T k else 0
end Go.Proofs.YtjmlmelcppbefaaGreatDoor
namespace Go.Proofs.YtjmlmelcppbefaaGreatDoor
open Go.RowKit Go.Maps
end Go.Proofs.YtjmlmelcppbefaaGreatDoor
