/- What the syntax texts share, part 31. No condition. -/
import Derived.Test.YtjmlmelcppbefaaGreatDoorT09
import Derived.Test.YtjmlmelcppbefaaGreatDoorT23
namespace Go.Proofs.YtjmlmelcppbefaaGreatDoor
open Go.RowKit Go.Maps
structure Dr (w : World) (b : Nat) (S : Src) (k : Nat) (bad : Bool) : Prop where
 hd : Blk w b 87 [.slice S.a S.T.length S.cap, .int .i64 (k : Int), .bool bad]
 wds : Wds w S.a S.T
 ne : ∀ g o, S.a = some ⟨g, o, none⟩ → g ≠ b
 le : k ≤ S.T.length
 mx : S.T.length ≤ 1000000
 k4 : ∀ i, (S.T.getD i default).kind ≤ 4
 k3 : ∀ i, (S.T.getD i default).kind = 3 → opOf (S.T.getD i default).text = 0
 k5 : ∀ i, (S.T.getD i default).kind = 4 → stOf (S.T.getD i default).text = 0
theorem Dr.lt {w : World} {b k : Nat} {S : Src} {bad : Bool} (h : Dr w b S k bad) : b < w.heap.size := h.hd.lt
theorem Dr.below {w w' : World} {b k : Nat} {S : Src} {bad : Bool} (h : Dr w b S k bad) (hb : Below w.heap.size w w') : Dr w' b S k bad :=
 ⟨h.hd.below hb, h.wds.belowR hb (Nat.le_refl _), h.ne, h.le, h.mx, h.k4, h.k3, h.k5⟩
theorem Dr.alloc {w : World} {b k : Nat} {S : Src} {bad : Bool} (h : Dr w b S k bad) (o : Obj) : Dr (w.alloc o) b S k bad := h.below ((Below.refl _ w).alloc (Nat.le_refl _) o)
theorem Dr.drewN {w : World} {b k : Nat} {S : Src} {bad : Bool} (h : Dr w b S k bad) (n : Nat) : Dr (w.drewN n) b S k bad := ⟨h.hd.drewN n, h.wds, h.ne, h.le, h.mx, h.k4, h.k3, h.k5⟩
theorem Dr.fin {w W V : World} {b k j : Nat} {S : Src} {bad bad' : Bool} (h : Dr w b S k bad) (h3 : Dr W b S j bad') (hK : Kp w V b b) (hb : V.heap[b]? = W.heap[b]?) : Dr V b S j bad' :=
 ⟨h3.hd.of hb, h.wds.kp hK h.ne, h3.ne, h3.le, h3.mx, h3.k4, h3.k3, h3.k5⟩
theorem Dr.step {w : World} {b k : Nat} {S : Src} {bad : Bool} (h : Dr w b S k bad) (hk : k < S.T.length) : Dr (w.setCell ⟨b, 1, none⟩ (.int .i64 ((k : Int) + 1))) b S (k + 1) bad :=
 ⟨h.hd.set1 1 _, h.wds.kp ((Kp.refl w b b).setA 1 _) h.ne, h.ne, hk, h.mx, h.k4, h.k3, h.k5⟩
theorem Dr.fail {w : World} {b k : Nat} {S : Src} {bad : Bool} (h : Dr w b S k bad) : Dr (w.setCell ⟨b, 2, none⟩ (.bool true)) b S k true :=
 ⟨h.hd.set1 2 _, h.wds.kp ((Kp.refl w b b).setA 2 _) h.ne, h.ne, h.le, h.mx, h.k4, h.k3, h.k5⟩
theorem Dr.c0 {w : World} {b k : Nat} {S : Src} {bad : Bool} (h : Dr w b S k bad) : w.cell? ⟨b, 0, none⟩ = some (.slice S.a S.T.length S.cap) := h.hd.cell 0
theorem Dr.c1 {w : World} {b k : Nat} {S : Src} {bad : Bool} (h : Dr w b S k bad) : w.cell? ⟨b, 1, none⟩ = some (.int .i64 (k : Int)) := h.hd.cell 1
theorem Dr.c2 {w : World} {b k : Nat} {S : Src} {bad : Bool} (h : Dr w b S k bad) : w.cell? ⟨b, 2, none⟩ = some (.bool bad) := h.hd.cell 2
set_option maxRecDepth 100000 in
set_option maxHeartbeats 2000000 in
theorem ris_any {w : World} {b k : Nat} {S : Src} {bad : Bool} (h : Dr w b S k bad) (s : ByteArray) :
  Calls Tryz.prog 83 #[.pointer (some ⟨b, 0, none⟩), .string s] w fun e w' => e = .returned (.bool (!bad && isT S.T k s)) ∧ Below w.heap.size w w' := by
 have hmx := h.mx
 have hle := h.le
 have c0 := h.c0
 have c1 := h.c1
 have c2 := h.c2
 have hW := h.wds
 have h4 := h.k4 k
 obtain ⟨r, hr⟩ : ∃ r, (!bad && isT S.T k s) = r := ⟨_, rfl⟩
 rw [hr]
 have HW := Lib.hid (fun n => below_drewN (Below.refl w.heap.size w) n)
 cases bad
 ·simp only [Bool.not_false, Bool.true_and] at hr
  by_cases hk : k < S.T.length
  ·have hki : (k : Int) < (S.T.length : Int) := by omega
   have hp0 : (0 : Int) ≤ (k : Int) := by omega
   obtain ⟨gb, off, hga, x0, x1, x2, x3, x4⟩ := hW k hk
   rw [hga] at c0
   obtain ⟨wd, hwd⟩ : ∃ wd, S.T.getD k default = wd := ⟨_, rfl⟩
   have hr2 : ((decide (wd.kind = 3) || decide (wd.kind = 4)) && (wd.text.toList == s.toList)) = r := by
    rw [← hr, ← hwd, ← str_eq]
    unfold isT
    simp [hk]
   rw [hwd] at x0 x1 h4
   obtain ⟨kd, tx, nu, li, co⟩ := wd
   dsimp only at hr2 h4 x0 x1
   have hkd : (decide (kd = 3) || decide (kd = 4)) = decide (3 ≤ kd) := by
    by_cases h3 : 3 ≤ kd
    ·have : kd = 3 ∨ kd = 4 := by omega
     rcases this with rfl | rfl <;> rfl
    ·rw [decide_eq_false h3, decide_eq_false (by omega), decide_eq_false (by omega)]
     rfl
   rw [hkd] at hr2
   obtain ⟨N, hN⟩ : ∃ N, S.T.length = N := ⟨_, rfl⟩
   rw [hN] at c0 hki
   have HRR := Lib.hid hr2
   clear hr hr2 hkd hk hW hwd h4 hmx hle hN h x2 x3 x4 hga
   have fin : ∀ (q : Bool) (n : Nat), q = r → (Ending.returned (.bool q) = .returned (.bool r) ∧ Below w.heap.size w (w.drewN n)) := fun q n hq => ⟨by rw [hq], HW.out n⟩
   have HF := Lib.hid fin
   clear fin
   cases ht : (tx.toList == s.toList) with
   | false =>
    have hrf := HRR.out
    rw [ht, Bool.and_false] at hrf
    subst hrf
    go_enter Tryz.func83, Tryz.ntmps83
    go_wp2_with fail
    go_quiet (fail)
    go_wp2_with fail
    go_ret
    exact ⟨by first | rfl | (rw [decide_eq_false h3]), HW.out _⟩
   | true =>
    by_cases h3 : 3 ≤ kd
    ·have hrf := HRR.out
     rw [ht, decide_eq_true h3] at hrf
     obtain rfl : true = r := hrf
     go_enter Tryz.func83, Tryz.ntmps83
     go_wp2_with fail
     go_quiet (fail)
     go_wp2_with fail
     go_ret
     exact ⟨by first | rfl | (rw [decide_eq_false h3]), HW.out _⟩
    ·have hrf := HRR.out
     have h3f : decide (3 ≤ kd) = false := decide_eq_false h3
     rw [ht, h3f] at hrf
     obtain rfl : false = r := hrf
     go_enter Tryz.func83, Tryz.ntmps83
     go_wp2_with fail
     go_quiet (fail)
     go_wp2_with fail
     go_ret
     exact ⟨by first | rfl | (rw [decide_eq_false h3]), HW.out _⟩
  ·have hki : ¬ (k : Int) < (S.T.length : Int) := by omega
   have hrf : false = r := by
    rw [← hr]
    unfold isT
    simp [hk]
   subst hrf
   go_enter Tryz.func83, Tryz.ntmps83
   go_wp2_with fail
   go_quiet (fail)
   go_wp2_with fail
   go_ret
   exact ⟨by first | rfl | (rw [decide_eq_false h3]), HW.out _⟩
 ·obtain rfl : false = r := hr
  go_enter Tryz.func83, Tryz.ntmps83
  go_wp2_with fail
  go_quiet (fail)
  go_wp2_with fail
  go_ret
  exact ⟨by first | rfl | (rw [decide_eq_false h3]), HW.out _⟩
end Go.Proofs.YtjmlmelcppbefaaGreatDoor
namespace Go.Proofs.YtjmlmelcppbefaaGreatDoor
open Go.RowKit Go.Maps
def Out {α : Type} (bad : Bool) (k : Nat) (R : PR α) (x : α) (j : Nat) (bad' : Bool) : Prop :=
 (bad = true ∧ bad' = true ∧ j = k) ∨ (bad = false ∧ bad' = false ∧ R = some (.ok (x, j))) ∨ (bad = false ∧ bad' = true ∧ R = some (.error j))
theorem Out.bind {α β : Type} {bad bad1 bad2 : Bool} {k j j2 : Nat} {R : PR α} {R2 : α → Nat → PR β} {x : α} {y : β} (h : Out bad k R x j bad1) (h2 : Out bad1 j (R2 x j) y j2 bad2) : Out bad k (andT R R2) y j2 bad2 := by
 rcases h with ⟨rfl, rfl, rfl⟩ | ⟨rfl, rfl, rfl⟩ | ⟨rfl, rfl, rfl⟩
 ·rcases h2 with ⟨-, rfl, rfl⟩ | ⟨h, -⟩ | ⟨h, -⟩
  ·exact .inl ⟨rfl, rfl, rfl⟩
  ·cases h
  ·cases h
 ·rcases h2 with ⟨h, -⟩ | ⟨-, rfl, h⟩ | ⟨-, rfl, h⟩
  ·cases h
  ·exact .inr (.inl ⟨rfl, rfl, h⟩)
  ·exact .inr (.inr ⟨rfl, rfl, h⟩)
 ·rcases h2 with ⟨-, rfl, rfl⟩ | ⟨h, -⟩ | ⟨h, -⟩
  ·exact .inr (.inr ⟨rfl, rfl, rfl⟩)
  ·cases h
  ·cases h
theorem Out.pure {α : Type} (bad : Bool) (k : Nat) (x : α) : Out bad k (some (.ok (x, k))) x k bad := by
 cases bad
 ·exact .inr (.inl ⟨rfl, rfl, rfl⟩)
 ·exact .inl ⟨rfl, rfl, rfl⟩
theorem Out.any {α : Type} {k j : Nat} {R : PR α} {x : α} {bad' : Bool} (y : α) (h : Out true k R x j bad') : Out true k R y j bad' := by
 rcases h with ⟨-, h1, h2⟩ | ⟨h, -⟩ | ⟨h, -⟩
 ·exact .inl ⟨rfl, h1, h2⟩
 ·cases h
 ·cases h
set_option maxRecDepth 100000 in
theorem rtake_any {w : World} {b k : Nat} {S : Src} {bad : Bool} (h : Dr w b S k bad) (s : ByteArray) :
  Calls Tryz.prog 86 #[.pointer (some ⟨b, 0, none⟩), .string s] w fun e w' => Kp w w' b b ∧ e = .returned (.bool (!bad && isT S.T k s)) ∧ Dr w' b S (if (!bad && isT S.T k s) = true then k + 1 else k) bad := by
 have hp := ris_any h s
 have hmx := h.mx
 have hle := h.le
 obtain ⟨m, hm⟩ : ∃ m, (!bad && isT S.T k s) = m := ⟨_, rfl⟩
 have hlt : m = true → k < S.T.length := fun e => by
  rw [← hm] at e
  simp only [Bool.and_eq_true] at e
  exact isT_lt S.T e.2
 rw [hm] at hp ⊢
 clear hm
 go_enter Tryz.func86, Tryz.ntmps86
 go_wp2_with fail
 refine hp.mono ?_
 rintro e w1 ⟨rfl, hb1⟩
 have h1 := h.below hb1
 cases m
 ·clear hlt hp h
  go_wp2_with fail
  go_ret
  exact ⟨kp_same hb1, rfl, h1⟩
 ·have hkl := hlt rfl
  have c1 := h1.c1
  have f1 := h1.hd.frozen 1
  have HE := Lib.hid (And.intro ((kp_same (b := b) hb1).setA 1 (.int .i64 ((k : Int) + 1))) (h1.step hkl))
  clear hlt hp h hb1 h1
  go_wp2_with fail
  go_ret
  exact ⟨HE.out.1, rfl, HE.out.2⟩
set_option maxRecDepth 100000 in
theorem rmust_any {w : World} {b k : Nat} {S : Src} {bad : Bool} (h : Dr w b S k bad) (s : ByteArray) :
  Calls Tryz.prog 85 #[.pointer (some ⟨b, 0, none⟩), .string s] w fun e w' => Kp w w' b b ∧ e = .returned (.tuple #[]) ∧ ∃ j bad', Out bad k (want S.T s k) () j bad' ∧ Dr w' b S j bad' := by
 have hp := rtake_any h s
 obtain ⟨m, hm⟩ : ∃ m, (!bad && isT S.T k s) = m := ⟨_, rfl⟩
 rw [hm] at hp
 have HO : Hid (m = true → Out bad k (want S.T s k) () (k + 1) false ∧ bad = false) := Lib.hid (fun e => by
  rw [e] at hm
  simp only [Bool.and_eq_true, Bool.not_eq_true'] at hm
  refine ⟨.inr (.inl ⟨hm.1, rfl, ?_⟩), hm.1⟩
  unfold want
  rw [if_pos hm.2])
 have HO2 : Hid (m = false → Out bad k (want S.T s k) () k true) := Lib.hid (fun e => by
  rw [e] at hm
  cases bad
  ·simp only [Bool.not_false, Bool.true_and] at hm
   refine .inr (.inr ⟨rfl, rfl, ?_⟩)
   unfold want
   rw [if_neg (by rw [hm]; exact Bool.false_ne_true)]
  ·exact .inl ⟨rfl, rfl, rfl⟩)
 clear hm
 go_enter Tryz.func85, Tryz.ntmps85
 go_wp2_with fail
 refine hp.mono ?_
 rintro e w1 ⟨hk1, rfl, h1⟩
 cases m
 ·simp only [Bool.false_eq_true, if_false] at h1
  have c2 := h1.c2
  have f2 := h1.hd.frozen 2
  have HE := Lib.hid (And.intro (hk1.setA 2 (.bool true)) h1.fail)
  clear h1 hk1 hp h
  go_wp2_with fail
  go_end0
  exact ⟨HE.out.1, rfl, k, true, HO2.out (by trivial), HE.out.2⟩
 ·simp only [if_true] at h1
  clear hp h
  go_wp2_with fail
  go_end0
  refine ⟨hk1, rfl, k + 1, false, (HO.out (by trivial)).1, ?_⟩
  rw [← (HO.out (by trivial)).2]
  exact h1
end Go.Proofs.YtjmlmelcppbefaaGreatDoor
namespace Go.Proofs.YtjmlmelcppbefaaGreatDoor
open Go.RowKit Go.Maps
set_option maxRecDepth 100000 in
set_option maxHeartbeats 4000000 in
theorem rname_rd {w : World} {b k : Nat} {S : Src} {bad : Bool} (h : Dr w b S k bad) :
  Calls Tryz.prog 84 #[.pointer (some ⟨b, 0, none⟩)] w fun e w' => Kp w w' b b ∧ ∃ (x : ByteArray) (j : Nat) (bad' : Bool), e = .returned (.string x) ∧ Out bad k (pName S.T k) x j bad' ∧ Dr w' b S j bad' := by
 have hmx := h.mx
 have hle := h.le
 have c0 := h.c0
 have c1 := h.c1
 have c2 := h.c2
 have HD := Lib.hid (fun n => h.drewN n)
 have HK := Lib.hid (fun n => (Kp.refl w b b).drewN n)
 have failed : ∀ (n : Nat) (bd : Bool), bad = bd → (bd = false → pName S.T k = some (.error k)) → (Kp w ((w.drewN n).setCell ⟨b, 2, none⟩ (.bool true)) b b ∧ ∃ (x : ByteArray) (j : Nat) (bad' : Bool), Ending.returned (.string ⟨#[]⟩) = .returned (.string x) ∧ Out bad k (pName S.T k) x j bad' ∧ Dr ((w.drewN n).setCell ⟨b, 2, none⟩ (.bool true)) b S j bad') := by
  intro n bd hbd hr
  refine ⟨(HK.out n).setA 2 _, ⟨#[]⟩, k, true, rfl, ?_, (HD.out n).fail⟩
  cases bad
  ·exact .inr (.inr ⟨rfl, rfl, hr hbd.symm⟩)
  ·exact .inl ⟨rfl, rfl, rfl⟩
 have HF := Lib.hid failed
 clear failed
 cases bad
 ·by_cases hk : k < S.T.length
  ·have hW := h.wds
   have hki : (k : Int) < (S.T.length : Int) := by omega
   have hp0 : (0 : Int) ≤ (k : Int) := by omega
   obtain ⟨gb, off, hga, x0, x1, x2, x3, x4⟩ := hW k hk
   have hgb := h.ne gb off hga
   have hpn : pName S.T k = if (S.T.getD k default).kind = 1 then some (.ok ((S.T.getD k default).text, k + 1)) else some (.error k) := by
    unfold pName kindAt
    rw [if_pos hk]
   rw [hga] at c0
   obtain ⟨wd, hwd⟩ : ∃ wd, S.T.getD k default = wd := ⟨_, rfl⟩
   rw [hwd] at x0 x1 x2 hpn
   obtain ⟨kd, tx, nu, li, co⟩ := wd
   dsimp only at x0 x1 x2 hpn
   have HP := Lib.hid hpn
   have HKL := Lib.hid hk
   obtain ⟨N, hN⟩ : ∃ N, S.T.length = N := ⟨_, rfl⟩
   rw [hN] at c0 hki hle hmx hk
   have hNk : decide (N ≤ k) = false := decide_eq_false (by omega)
   clear hW hwd x3 x4 h hga hpn hN
   by_cases hk1 : kd = 1
   ·subst hk1
    have hpn := HP.out
    rw [if_pos rfl] at hpn
    have HP2 := Lib.hid hpn
    clear hpn
    go_enter Tryz.func84, Tryz.ntmps84
    go_wp2_with fail
    go_quiet (fail)
    rename_i nq
    have hV := HD.out nq
    have hK := HK.out nq
    have v0 : (w.drewN nq).cell? ⟨b, 0, none⟩ = _ := c0
    have v1 : (w.drewN nq).cell? ⟨b, 1, none⟩ = _ := c1
    have vx : (w.drewN nq).cell? ⟨gb, off + k * 5 + 1, none⟩ = _ := x1
    have f1 := hV.hd.frozen 1
    clear c0 c1 c2 x0 x1 x2 HF
    generalize w.drewN nq = V at *
    go_wp2_with fail
    have hS := hV.step HKL.out
    have hK2 := hK.setA 1 (.int .i64 ((k : Int) + 1))
    have u0 : (V.setCell ⟨b, 1, none⟩ (.int .i64 ((k : Int) + 1))).cell? ⟨b, 0, none⟩ = some (.slice (some ⟨gb, off, none⟩) N S.cap) := (World.cell?_setCell_other _ _ _ _ (by simp)).trans v0
    have u1 := hS.c1
    have ux : (V.setCell ⟨b, 1, none⟩ (.int .i64 ((k : Int) + 1))).cell? ⟨gb, off + k * 5 + 1, none⟩ = some (.string tx) := (World.cell?_setCell_other _ _ _ _ (by simp)).trans vx
    clear v0 v1 vx f1
    generalize V.setCell ⟨b, 1, none⟩ (.int .i64 ((k : Int) + 1)) = V2 at *
    have hcast : ((k + 1 : Nat) : Int) = (k : Int) + 1 := by omega
    rw [hcast] at u1
    have hwr : (k : Int) + 1 - 1 = (k : Int) := by omega
    go_quiet (fail)
    go_wp2_with fail
    go_ret
    exact ⟨hK2.drewN nq, tx, k + 1, false, rfl, .inr (.inl ⟨rfl, rfl, HP2.out⟩), hS.drewN nq⟩
   ·have hk1' : (kd != 1) = true := by simpa using hk1
    have hpn := HP.out
    rw [if_neg hk1] at hpn
    have HP2 := Lib.hid hpn
    clear hpn
    go_enter Tryz.func84, Tryz.ntmps84
    go_wp2_with fail
    go_quiet (fail)
    rename_i nq
    have v2 : (w.drewN nq).cell? ⟨b, 2, none⟩ = _ := c2
    have f2 := (HD.out nq).hd.frozen 2
    have HF2 := Lib.hid (HF.out nq false rfl (fun _ => HP2.out))
    clear c0 c1 c2 x0 x1 x2 HF HD HK
    generalize w.drewN nq = V at *
    go_wp2_with fail
    go_ret
    exact HF2.out
  ·have hki : ¬ (k : Int) < (S.T.length : Int) := by omega
   have hNk : decide (S.T.length ≤ k) = true := decide_eq_true (by omega)
   have HP2 : Hid (pName S.T k = some (.error k)) := Lib.hid (by
    unfold pName kindAt
    rw [if_neg hk, if_neg (by decide)])
   clear h
   go_enter Tryz.func84, Tryz.ntmps84
   go_wp2_with fail
   go_quiet (fail)
   rename_i nq
   have v2 : (w.drewN nq).cell? ⟨b, 2, none⟩ = _ := c2
   have f2 := (HD.out nq).hd.frozen 2
   have HF2 := Lib.hid (HF.out nq false rfl (fun _ => HP2.out))
   clear c0 c1 c2 HF HD HK
   generalize w.drewN nq = V at *
   go_wp2_with fail
   go_ret
   exact HF2.out
 ·clear h
  go_enter Tryz.func84, Tryz.ntmps84
  go_wp2_with fail
  go_quiet (fail)
  rename_i nq
  have v2 : (w.drewN nq).cell? ⟨b, 2, none⟩ = _ := c2
  have f2 := (HD.out nq).hd.frozen 2
  have HF2 := Lib.hid (HF.out nq true rfl (fun h => by cases h))
  clear c0 c1 c2 HF HD HK
  generalize w.drewN nq = V at *
  go_wp2_with fail
  go_ret
  exact HF2.out
set_option maxRecDepth 100000 in
set_option maxHeartbeats 4000000 in
theorem rnumb_rd {w : World} {b k : Nat} {S : Src} {bad : Bool} (h : Dr w b S k bad) :
  Calls Tryz.prog 87 #[.pointer (some ⟨b, 0, none⟩)] w fun e w' => Kp w w' b b ∧ ∃ (x : Int) (j : Nat) (bad' : Bool), e = .returned (.int .i64 x) ∧ Out bad k (pNumb S.T k) x j bad' ∧ Dr w' b S j bad' := by
 have hmx := h.mx
 have hle := h.le
 have c0 := h.c0
 have c1 := h.c1
 have c2 := h.c2
 have HD := Lib.hid (fun n => h.drewN n)
 have HK := Lib.hid (fun n => (Kp.refl w b b).drewN n)
 have failed : ∀ (n : Nat) (bd : Bool), bad = bd → (bd = false → pNumb S.T k = some (.error k)) → (Kp w ((w.drewN n).setCell ⟨b, 2, none⟩ (.bool true)) b b ∧ ∃ (x : Int) (j : Nat) (bad' : Bool), Ending.returned (.int .i64 0) = .returned (.int .i64 x) ∧ Out bad k (pNumb S.T k) x j bad' ∧ Dr ((w.drewN n).setCell ⟨b, 2, none⟩ (.bool true)) b S j bad') := by
  intro n bd hbd hr
  refine ⟨(HK.out n).setA 2 _, 0, k, true, rfl, ?_, (HD.out n).fail⟩
  cases bad
  ·exact .inr (.inr ⟨rfl, rfl, hr hbd.symm⟩)
  ·exact .inl ⟨rfl, rfl, rfl⟩
 have HF := Lib.hid failed
 clear failed
 cases bad
 ·by_cases hk : k < S.T.length
  ·have hW := h.wds
   have hki : (k : Int) < (S.T.length : Int) := by omega
   have hp0 : (0 : Int) ≤ (k : Int) := by omega
   obtain ⟨gb, off, hga, x0, x1, x2, x3, x4⟩ := hW k hk
   have hgb := h.ne gb off hga
   have hpn : pNumb S.T k = if (S.T.getD k default).kind = 2 then some (.ok ((S.T.getD k default).num, k + 1)) else some (.error k) := by
    unfold pNumb kindAt
    rw [if_pos hk]
   rw [hga] at c0
   obtain ⟨wd, hwd⟩ : ∃ wd, S.T.getD k default = wd := ⟨_, rfl⟩
   rw [hwd] at x0 x1 x2 hpn
   obtain ⟨kd, tx, nu, li, co⟩ := wd
   dsimp only at x0 x1 x2 hpn
   have HP := Lib.hid hpn
   have HKL := Lib.hid hk
   obtain ⟨N, hN⟩ : ∃ N, S.T.length = N := ⟨_, rfl⟩
   rw [hN] at c0 hki hle hmx hk
   have hNk : decide (N ≤ k) = false := decide_eq_false (by omega)
   clear hW hwd x3 x4 h hga hpn hN
   by_cases hk1 : kd = 2
   ·subst hk1
    have hpn := HP.out
    rw [if_pos rfl] at hpn
    have HP2 := Lib.hid hpn
    clear hpn
    go_enter Tryz.func87, Tryz.ntmps87
    go_wp2_with fail
    go_quiet (fail)
    rename_i nq
    have hV := HD.out nq
    have hK := HK.out nq
    have v0 : (w.drewN nq).cell? ⟨b, 0, none⟩ = _ := c0
    have v1 : (w.drewN nq).cell? ⟨b, 1, none⟩ = _ := c1
    have vx : (w.drewN nq).cell? ⟨gb, off + k * 5 + 2, none⟩ = _ := x2
    have f1 := hV.hd.frozen 1
    clear c0 c1 c2 x0 x1 x2 HF
    generalize w.drewN nq = V at *
    go_wp2_with fail
    have hS := hV.step HKL.out
    have hK2 := hK.setA 1 (.int .i64 ((k : Int) + 1))
    have u0 : (V.setCell ⟨b, 1, none⟩ (.int .i64 ((k : Int) + 1))).cell? ⟨b, 0, none⟩ = some (.slice (some ⟨gb, off, none⟩) N S.cap) := (World.cell?_setCell_other _ _ _ _ (by simp)).trans v0
    have u1 := hS.c1
    have ux : (V.setCell ⟨b, 1, none⟩ (.int .i64 ((k : Int) + 1))).cell? ⟨gb, off + k * 5 + 2, none⟩ = some (.int .i64 nu) := (World.cell?_setCell_other _ _ _ _ (by simp)).trans vx
    clear v0 v1 vx f1
    generalize V.setCell ⟨b, 1, none⟩ (.int .i64 ((k : Int) + 1)) = V2 at *
    have hcast : ((k + 1 : Nat) : Int) = (k : Int) + 1 := by omega
    rw [hcast] at u1
    have hwr : (k : Int) + 1 - 1 = (k : Int) := by omega
    go_quiet (fail)
    go_wp2_with fail
    go_ret
    exact ⟨hK2.drewN nq, nu, k + 1, false, rfl, .inr (.inl ⟨rfl, rfl, HP2.out⟩), hS.drewN nq⟩
   ·have hk1' : (kd != 2) = true := by simpa using hk1
    have hpn := HP.out
    rw [if_neg hk1] at hpn
    have HP2 := Lib.hid hpn
    clear hpn
    go_enter Tryz.func87, Tryz.ntmps87
    go_wp2_with fail
    go_quiet (fail)
    rename_i nq
    have v2 : (w.drewN nq).cell? ⟨b, 2, none⟩ = _ := c2
    have f2 := (HD.out nq).hd.frozen 2
    have HF2 := Lib.hid (HF.out nq false rfl (fun _ => HP2.out))
    clear c0 c1 c2 x0 x1 x2 HF HD HK
    generalize w.drewN nq = V at *
    go_wp2_with fail
    go_ret
    exact HF2.out
  ·have hki : ¬ (k : Int) < (S.T.length : Int) := by omega
   have hNk : decide (S.T.length ≤ k) = true := decide_eq_true (by omega)
   have HP2 : Hid (pNumb S.T k = some (.error k)) := Lib.hid (by
    unfold pNumb kindAt
    rw [if_neg hk, if_neg (by decide)])
   clear h
   go_enter Tryz.func87, Tryz.ntmps87
   go_wp2_with fail
   go_quiet (fail)
   rename_i nq
   have v2 : (w.drewN nq).cell? ⟨b, 2, none⟩ = _ := c2
   have f2 := (HD.out nq).hd.frozen 2
   have HF2 := Lib.hid (HF.out nq false rfl (fun _ => HP2.out))
   clear c0 c1 c2 HF HD HK
   generalize w.drewN nq = V at *
   go_wp2_with fail
   go_ret
   exact HF2.out
 ·clear h
  go_enter Tryz.func87, Tryz.ntmps87
  go_wp2_with fail
  go_quiet (fail)
  rename_i nq
  have v2 : (w.drewN nq).cell? ⟨b, 2, none⟩ = _ := c2
  have f2 := (HD.out nq).hd.frozen 2
  have HF2 := Lib.hid (HF.out nq true rfl (fun h => by cases h))
  clear c0 c1 c2 HF HD HK
  generalize w.drewN nq = V at *
  go_wp2_with fail
  go_ret
  exact HF2.out
end Go.Proofs.YtjmlmelcppbefaaGreatDoor
namespace Go.Proofs.YtjmlmelcppbefaaGreatDoor
open Go.RowKit Go.Maps
theorem lt12 {o : Nat} (h : o < 12) : o = 0 ∨ o = 1 ∨ o = 2 ∨ o = 3 ∨ o = 4 ∨ o = 5 ∨ o = 6 ∨ o = 7 ∨ o = 8 ∨ o = 9 ∨ o = 10 ∨ o = 11 := by omega
set_option maxHeartbeats 4000000 in
theorem rrank_any (w : World) {o : Nat} (h : o < 12) : Calls Tryz.prog 54 #[.int .i64 (o : Int)] w fun e w' => e = .returned (.int .i64 (rankOf o : Int)) ∧ Below w.heap.size w w' := by
 have hb : Below w.heap.size w (w.alloc (.cells #[.int .i64 0, .int .i64 1, .int .i64 2, .int .i64 3, .int .i64 3, .int .i64 3, .int .i64 3, .int .i64 4, .int .i64 4, .int .i64 5, .int .i64 5, .int .i64 5] 3)) := (Below.refl _ w).alloc (Nat.le_refl _) _
 have HB := Lib.hid hb
 clear hb
 rcases lt12 h with rfl | rfl | rfl | rfl | rfl | rfl | rfl | rfl | rfl | rfl | rfl | rfl
 all_goals
  go_enter Tryz.func54, Tryz.ntmps54
  go_wp2_with fail
  go_ret
  exact ⟨rfl, HB.out⟩
set_option maxRecDepth 100000 in
set_option maxHeartbeats 4000000 in
theorem rsign_any (w : World) {o : Nat} (h : o < 12) : Calls Tryz.prog 55 #[.int .i64 (o : Int)] w fun e w' => e = .returned (.string (opS.getD o noB)) ∧ Below w.heap.size w w' := by
 have hb : Below w.heap.size w (w.alloc (.cells (opS.map Value.string).toArray 9)) := (Below.refl _ w).alloc (Nat.le_refl _) _
 have HB := Lib.hid hb
 clear hb
 rcases lt12 h with rfl | rfl | rfl | rfl | rfl | rfl | rfl | rfl | rfl | rfl | rfl | rfl
 all_goals
  go_enter Tryz.func55, Tryz.ntmps55
  go_wp2_with fail
  go_ret
  exact ⟨rfl, HB.out⟩
theorem opOf_sign : ∀ o, o < 12 → opOf (opS.getD o noB) = o := by decide
theorem opOf_text {s : ByteArray} {o : Nat} (h : opOf s = o) (h0 : o ≠ 0) : s = opS.getD o noB ∧ o < 12 := by
 unfold opOf at h
 rcases hf : (List.range 12).find? fun o => decide (opS.getD o noB = s) with _ | k
 ·rw [hf] at h
  exact absurd h.symm h0
 ·rw [hf] at h
  have h1 := List.find?_some hf
  have h2 := List.mem_of_find?_eq_some hf
  simp only [Option.getD_some] at h
  subst h
  simp only [decide_eq_true_eq] at h1
  exact ⟨h1.symm, by simpa using h2⟩
theorem isT_op {T : List Wd} (k3 : ∀ i, (T.getD i default).kind = 3 → opOf (T.getD i default).text = 0) (k : Nat) {o : Nat} (ho : o < 12) (h0 : o ≠ 0) : isT T k (opS.getD o noB) = decide (opAt T k = o) := by
 by_cases h : isT T k (opS.getD o noB) = true
 ·rw [h]
  symm
  rw [decide_eq_true_eq]
  have hk := isT_lt T h
  unfold isT at h
  simp only [Bool.and_eq_true, Bool.or_eq_true, decide_eq_true_eq] at h
  obtain ⟨-, h1, h2⟩ := h
  unfold opAt kindAt
  rw [if_pos hk]
  rcases h1 with h1 | h1
  ·have := k3 k h1
   rw [h2, opOf_sign o ho] at this
   exact absurd this h0
  ·rw [if_pos h1, h2, opOf_sign o ho]
 ·have hf : isT T k (opS.getD o noB) = false := by simpa using h
  rw [hf]
  symm
  rw [decide_eq_false_iff_not]
  intro e
  have hne : opAt T k ≠ 0 := by rw [e]; exact h0
  have hk := opAt_lt T hne
  unfold opAt at e hne
  split at e
  ·rename_i h4
   rw [if_pos h4] at hne
   have h5 := (opOf_text e h0).1
   apply h
   unfold isT
   unfold kindAt at h4
   rw [if_pos hk] at h4
   rw [decide_eq_true hk, h4, h5]
   simp
  ·exact h0 e.symm
def nextOp (bad : Bool) (T : List Wd) (k n : Nat) : Nat := if bad = false ∧ rankOf (opAt T k) = n then opAt T k else 0
end Go.Proofs.YtjmlmelcppbefaaGreatDoor
namespace Go.Proofs.YtjmlmelcppbefaaGreatDoor
open Go.RowKit Go.Maps
theorem nextOp_lt (bad : Bool) (T : List Wd) (k n : Nat) : nextOp bad T k n < 12 := by
 unfold nextOp
 split
 ·unfold opAt
  split
  ·by_cases h : opOf (T.getD k default).text = 0
   ·rw [h]
    decide
   ·exact (opOf_text rfl h).2
  ·decide
 ·decide
set_option maxRecDepth 100000 in
set_option maxHeartbeats 4000000 in
theorem rnext_any {w : World} {b k : Nat} {S : Src} {bad : Bool} (h : Dr w b S k bad) {n : Nat} (_hn : 1 ≤ n) :
  Calls Tryz.prog 166 #[.pointer (some ⟨b, 0, none⟩), .int .i64 (n : Int)] w fun e w' => e = .returned (.int .i64 (nextOp bad S.T k n : Int)) ∧ Below w.heap.size w w' := by
 obtain ⟨X, hX⟩ : ∃ X, nextOp bad S.T k n = X := ⟨_, rfl⟩
 rw [hX]
 have HX := Lib.hid hX
 have HH := Lib.hid h
 clear hX h
 go_enter Tryz.func166, Tryz.ntmps166
 go_wp2_with fail
 go_loopg [5] 11 (fun x iv wr => ∃ i : Nat, 1 ≤ i ∧ i ≤ 12 ∧ x = 12 - i ∧ iv = .int .i64 (i : Int) ∧ Hid (Below w.heap.size w wr) ∧ Hid (∀ o, 1 ≤ o → o < i → ¬ (bad = false ∧ rankOf o = n ∧ opAt S.T k = o)))
 case atStart => exact ⟨1, by decide, by decide, rfl, rfl, Lib.hid (Below.refl _ _), fun o h1 h2 => absurd h2 (by omega)⟩
 case round =>
  obtain ⟨i, hi1, hi, rfl, rfl, HB, HN⟩ := hrel
  by_cases hi12 : i ≤ 11
  ·have hle : (i : Int) ≤ 11 := by omega
   have hi0 : (0 : Int) ≤ (i : Int) := by omega
   go_wp2_with fail
   refine (rrank_any wr (o := i) (by omega)).mono ?_
   rintro e w1 ⟨rfl, hb1⟩
   have HB1 := Lib.hid (HB.out.trans (hb1.mono HB.out.size))
   clear hb1
   by_cases hr : rankOf i = n
   ·have hrb : ((rankOf i : Int) == (n : Int)) = true := by simp [hr]
    have hd1 := HH.out.below HB1.out
    have hp := fun w' (hb : Below w.heap.size w w') => ris_any (HH.out.below hb) (opS.getD i noB)
    rw [isT_op HH.out.k3 k (by omega) (by omega)] at hp
    go_wp2_with fail
    refine (rsign_any w1 (o := i) (by omega)).mono ?_
    rintro e w2 ⟨rfl, hb2⟩
    have HB2 := Lib.hid (HB1.out.trans (hb2.mono HB1.out.size))
    clear hb2 hd1
    go_wp2_with fail
    refine (hp w2 HB2.out).mono ?_
    rintro e w3 ⟨rfl, hb3⟩
    have HB3 := Lib.hid (HB2.out.trans (hb3.mono HB2.out.size))
    clear hb3 hp
    by_cases hm : bad = false ∧ opAt S.T k = i
    ·obtain ⟨rfl, ho⟩ := hm
     have hXi : X = i := by
      rw [← HX.out]
      unfold nextOp
      rw [ho, if_pos ⟨rfl, hr⟩]
     subst hXi
     have hdt : (!false && decide (opAt S.T k = X)) = true := by simp [ho]
     rw [hdt]
     clear hdt
     go_wp2_with fail
     go_ret
     exact ⟨rfl, HB3.out⟩
    ·have hdf : (!bad && decide (opAt S.T k = i)) = false := by
      cases bad
      ·simp at hm
       simp [hm]
      ·rfl
     rw [hdf]
     have HN2 : Hid (∀ o, 1 ≤ o → o < i + 1 → ¬ (bad = false ∧ rankOf o = n ∧ opAt S.T k = o)) := Lib.hid (fun o h1 h2 hc => by
      by_cases ho : o < i
      ·exact HN.out o h1 ho hc
      ·obtain rfl : o = i := by omega
       exact hm ⟨hc.1, hc.2.2⟩)
     clear hdf hm hr hrb
     go_wp2_with fail
     go_roundg (12 - (i + 1))
     case measure => omega
     case rel => exact ⟨i + 1, by omega, by omega, rfl, rfl, HB3, HN2⟩
   ·have hrb : ((rankOf i : Int) == (n : Int)) = false := by
     rw [beq_eq_false_iff_ne]
     omega
    have HN2 : Hid (∀ o, 1 ≤ o → o < i + 1 → ¬ (bad = false ∧ rankOf o = n ∧ opAt S.T k = o)) := Lib.hid (fun o h1 h2 hc => by
     by_cases ho : o < i
     ·exact HN.out o h1 ho hc
     ·obtain rfl : o = i := by omega
      exact hr hc.2.1)
    clear hr
    go_wp2_with fail
    go_roundg (12 - (i + 1))
    case measure => omega
    case rel => exact ⟨i + 1, by omega, by omega, rfl, rfl, HB1, HN2⟩
  ·have hle : ¬ (i : Int) ≤ 11 := by omega
   have hX0 : X = 0 := by
    rw [← HX.out]
    unfold nextOp
    split
    ·rename_i hc
     by_cases h0 : opAt S.T k = 0
     ·exact h0
     ·have hlt := nextOp_lt bad S.T k n
      unfold nextOp at hlt
      rw [if_pos hc] at hlt
      exact absurd ⟨hc.1, hc.2, rfl⟩ (HN.out (opAt S.T k) (by omega) (by omega))
    ·rfl
   subst hX0
   go_wp2_with fail
   go_ret
   exact ⟨rfl, HB.out⟩
end Go.Proofs.YtjmlmelcppbefaaGreatDoor
