/- SyntaxBack: a program's text, parsed, is the same program, and that one's text the same; what a text says likewise. No condition but that the listed variables are laid, and the trees' cells are not frozen. -/
import Derived.Test.YtjmlmelcppbefaaGreatDoorSh
import Derived.Test.YtjmlmelcppbefaaGreatDoorV6
import Derived.Test.YtjmlmelcppbefaaGreatDoorFg
import Derived.Test.YtjmlmelcppbefaaGreatDoorX2
namespace Go.Proofs.YtjmlmelcppbefaaGreatDoor
open Go.RowKit Go.Maps
set_option maxRecDepth 100000 in
set_option maxHeartbeats 4000000 in
theorem print_bad {w0 : World} (hSh : Shs w0) (l : List De) (a : Option Addr) (cap : Nat) (hroom : Roomy l.length cap) (h : DesL (fun _ => True) w0 a l) (hnb : ∀ d ∈ l, d.nb) (hR : desR isName l = false) :
    Calls Tryz.prog 21 #[.slice a l.length cap] w0 fun e w' => e = .returned (.tuple #[.string ⟨#[]⟩, .int .i64 2]) ∧ Below w0.heap.size w0 w' := by
  have hck := check_any l a cap w0 hroom hSh h hnb
  rw [hR, if_neg (by decide)] at hck
  clear hR h hnb
  go_enter Tryz.func21, Tryz.ntmps21
  go_wp2_with fail
  refine hck.mono ?_
  rintro e W1 ⟨rfl, hb1⟩
  go_wp2_with fail
  go_ret2
  exact ⟨rfl, hb1⟩
set_option maxRecDepth 100000 in
set_option maxHeartbeats 4000000 in
theorem back_any {V : World} (hW : Wf V) (l : List De) (a : Option Addr) (cap : Nat) (hroom : Roomy l.length cap) (h : DesL (fun _ => True) V a l) (hnb : ∀ d ∈ l, d.nb) (hlen : desR isName l = true → (prT l).length ≤ 70368744177664) :
    Calls Tryz.prog 33 #[.slice a l.length cap] V fun e w' => e = .returned (.bool true) ∧ Below V.heap.size V w' := by
  cases hR : desR isName l
  · have hpr := print_bad hW.h l a cap hroom h hnb hR
    obtain ⟨N, hN⟩ : ∃ N, l.length = N := ⟨_, rfl⟩
    rw [hN] at hpr ⊢
    clear hR hlen hnb h hroom hW hN
    go_enter Tryz.func33, Tryz.ntmps33
    go_wp2_with fail
    refine hpr.mono ?_
    rintro e w1 ⟨rfl, hb1⟩
    clear hpr
    have he : ByteArray.toList ⟨#[]⟩ = [] := noB_list
    go_wp2_with (go_at_call 19; refine (num_any _ _).mono ?_; rintro e w' ⟨rfl, rfl⟩)
    go_ret
    exact ⟨rfl, hb1⟩
  · have hlen := hlen hR
    have hpr := print_read hW hroom h hR hlen
    obtain ⟨tx, htx⟩ : ∃ tx, bS (prT l) = tx := ⟨_, rfl⟩
    have hsz : tx.size = (prT l).length := by rw [← htx]; show (prT l).toArray.size = _; simp
    rw [htx] at hpr
    by_cases hbig : 65536 < tx.size
    · have hi : (65536 : Int) < (tx.size : Int) := by omega
      obtain ⟨N, hN⟩ : ∃ N, l.length = N := ⟨_, rfl⟩
      rw [hN] at hpr ⊢
      clear hR hlen hnb h hroom hW hN htx hsz
      go_enter Tryz.func33, Tryz.ntmps33
      go_wp2_with fail
      refine hpr.mono ?_
      rintro e w1 ⟨rfl, hb1⟩
      clear hpr
      go_wp2_with (go_at_call 19; refine (num_any _ _).mono ?_; rintro e w' ⟨rfl, rfl⟩)
      go_ret
      exact ⟨rfl, hb1⟩
    · have hi : ¬ (65536 : Int) < (tx.size : Int) := by omega
      obtain ⟨l', hpa, hcan, hR', hpt⟩ := text_back hR (by omega)
      rw [htx] at hpa
      have c1 := fun (W : World) (hb : Below V.heap.size V W) => parse_any tx W (hW.below hb).e (hW.below hb).o
      rw [hpa] at c1
      have c2 := fun (W : World) (a2 : Option Addr) (cap2 : Nat) (hb : Below V.heap.size V W) (hroom2 : Roomy l'.length cap2) (h2 : DesL (fun _ => True) W a2 l') => print_read (hW.below hb) hroom2 h2 hR' (by rw [hpt]; exact hlen)
      rw [hpt, htx] at c2
      have c3 := fun (W : World) (a2 : Option Addr) (cap2 : Nat) (hb : Below V.heap.size V W) (h2 : DesL (fun _ => True) W a2 l') => same32_any l l' a a2 cap cap2 W hroom (h.below hb) h2 hcan.symm
      have HC := Lib.hid (And.intro c1 (And.intro c2 c3))
      obtain ⟨N, hN⟩ : ∃ N, l.length = N := ⟨_, rfl⟩
      rw [hN] at hpr HC ⊢
      clear c1 c2 c3 hR hlen hnb h hroom hW hN htx hsz hpa hcan hR' hpt hbig
      go_enter Tryz.func33, Tryz.ntmps33
      go_wp2_with fail
      refine hpr.mono ?_
      rintro e w1 ⟨rfl, hb1⟩
      have HB1 := Lib.hid hb1
      clear hpr hb1
      go_wp2_with (go_at_call 19; refine (num_any _ _).mono ?_; rintro e w' ⟨rfl, rfl⟩)
      refine (HC.out.1 _ HB1.out).mono ?_
      rintro e w2 ⟨hb2, a2, cap2, rfl, hroom2, hds2⟩
      dsimp only at hroom2 hds2 ⊢
      have hBA : Below w2.heap.size w2 (w2.alloc (.cells #[.int .i64 0, .int .i64 0] 25)) := (Below.refl _ w2).alloc (Nat.le_refl _) _
      have hds3 : DesL (fun _ => True) (w2.alloc (.cells #[.int .i64 0, .int .i64 0] 25)) a2 l' := DesL.below (hds2.weak (fun _ _ => trivial)) hBA
      have hB3 := HB1.out.trans ((hb2.trans (hBA.mono hb2.size)).mono HB1.out.size)
      have HX := Lib.hid (And.intro hB3 (And.intro hroom2 hds3))
      obtain ⟨N2, hN2⟩ : ∃ N, l'.length = N := ⟨_, rfl⟩
      rw [hN2] at HC ⊢
      clear hb2 hBA hds2 hds3 hB3 hroom2 HB1
      go_wp2_with fail
      have hpr2 := HC.out.2.1 _ a2 cap2 HX.out.1 (by have := HX.out.2.1; rwa [hN2] at this) HX.out.2.2
      clear hN2
      generalize w2.alloc (.cells #[.int .i64 0, .int .i64 0] 25) = w3 at *
      refine hpr2.mono ?_
      rintro e w4 ⟨rfl, hb4⟩
      have hsm := HC.out.2.2 w4 a2 cap2 (HX.out.1.trans (hb4.mono HX.out.1.size)) (HX.out.2.2.below hb4)
      have HB4 := Lib.hid (HX.out.1.trans (hb4.mono HX.out.1.size))
      clear hpr2 hb4 HX HC
      go_wp2_with (go_at_call 19; refine (num_any _ _).mono ?_; rintro e w' ⟨rfl, rfl⟩)
      refine hsm.mono ?_
      rintro e w5 ⟨rfl, hb5⟩
      have hB5 := HB4.out.trans (hb5.mono HB4.out.size)
      clear hsm hb5 HB4
      go_wp2
      go_ret
      exact ⟨by simp, hB5⟩
set_option maxRecDepth 100000 in
set_option maxHeartbeats 4000000 in
theorem lawback_any (l : List De) (a : Option Addr) (cap : Nat) (hroom : Roomy l.length cap) (s : ByteArray) {W : World} (h : DesL (fun _ => True) W a l) (hnb : ∀ d ∈ l, d.nb) (hW : Wf W) : Calls Tryz.prog 14 #[.slice a l.length cap, .string s] W (Tru W) := by
  have hfew : Calls Tryz.prog 20 #[.slice a l.length cap] W fun e w' => (∃ q : Bool, e = .returned (.bool q) ∧ (q = true → desR isName l = true → (prT l).length ≤ 70368744177664)) ∧ Below W.heap.size W w' := by
    cases hR : desR isName l
    · exact (few_some l a cap W hroom h).mono fun e w' hx => ⟨by obtain ⟨q, hq⟩ := hx.1; exact ⟨q, hq, fun _ h => by cases h⟩, hx.2⟩
    · exact (few_exact l a cap W hroom h (fun j hj => deR_sm (desR_at hR hj))).mono fun e w' hx => ⟨⟨_, hx.1, fun hf _ => by
        have h1 := prT_cnt isName hR
        have h2 : deBig l 0 ≤ 3000 := of_decide_eq_true hf
        have h3 := deBig_cnt l 0 h2
        omega⟩, hx.2⟩
  have c1 := fun (V : World) (hb : Below W.heap.size W V) => parse_any s V (hW.below hb).e (hW.below hb).o
  have c2 := fun (V : World) (hb : Below W.heap.size W V) (hl : desR isName l = true → (prT l).length ≤ 70368744177664) => back_any (hW.below hb) l a cap hroom (h.below hb) hnb hl
  have c3 := fun (V : World) (a2 : Option Addr) (cap2 : Nat) (hb : Below W.heap.size W V) (hroom2 : Roomy (parseR s).1.length cap2) (h2 : DesL (fun _ => True) V a2 (parseR s).1) => back_any (hW.below hb) (parseR s).1 a2 cap2 hroom2 h2 (desR_nb (read_may s)) (fun _ => read_len s)
  have c4 := fun (V : World) (hb : Below W.heap.size W V) => back_any (hW.below hb) [] none 0 ⟨Nat.le_refl _, by decide⟩ (fun j hj => by cases hj) (fun d hd => by cases hd) (fun _ => by decide)
  have c5 := fun (V : World) (hb : Below W.heap.size W V) => works_any V (hW.below hb)
  obtain ⟨D, hD⟩ : ∃ D : Prop, (desR isName l = true → (prT l).length ≤ 70368744177664) = D := ⟨_, rfl⟩
  have hfew : Calls Tryz.prog 20 #[.slice a l.length cap] W fun e w' => (∃ q : Bool, e = .returned (.bool q) ∧ (q = true → D)) ∧ Below W.heap.size W w' := hfew.mono fun e w' hx => ⟨by obtain ⟨q, h1, h2⟩ := hx.1; exact ⟨q, h1, fun h => hD ▸ h2 h⟩, hx.2⟩
  rw [hD] at c2
  generalize parseR s = R at c1 c3
  obtain ⟨m, ⟨x, y⟩, er⟩ := R
  dsimp only at c3
  have HC := Lib.hid (And.intro c1 (And.intro c2 (And.intro c3 (And.intro c4 c5))))
  obtain ⟨N, hN⟩ : ∃ N, l.length = N := ⟨_, rfl⟩
  rw [hN] at hfew HC ⊢
  clear c1 c2 c3 c4 c5 hroom h hnb hW hN hD
  go_enter Tryz.func14, Tryz.ntmps14
  go_wp2_with fail
  refine hfew.mono ?_
  rintro e w1 ⟨⟨q, rfl, hq⟩, hb1⟩
  have HB1 := Lib.hid hb1
  clear hb1 hfew
  cases q
  · clear hq
    go_wp2_with fail
    refine (HC.out.2.2.2.2 _ HB1.out).mono ?_
    rintro e w9 ⟨rfl, hb9⟩
    have hB9 := HB1.out.trans (hb9.mono HB1.out.size)
    go_wp2
    go_ret
    exact ⟨rfl, hB9⟩
  have HQ := Lib.hid (hq rfl)
  clear hq
  by_cases hbig : 2000 < s.size
  · have hi : (2000 : Int) < (s.size : Int) := by omega
    go_wp2_with fail
    refine (HC.out.2.2.2.2 _ HB1.out).mono ?_
    rintro e w9 ⟨rfl, hb9⟩
    have hB9 := HB1.out.trans (hb9.mono HB1.out.size)
    go_wp2
    go_ret
    exact ⟨rfl, hB9⟩
  have hi : ¬ (2000 : Int) < (s.size : Int) := by omega
  clear hbig
  go_wp2_with fail
  refine (HC.out.1 _ HB1.out).mono ?_
  rintro e w2 ⟨hb2, a2, cap2, rfl, hroom2, hds2⟩
  dsimp only at hroom2 hds2 ⊢
  have hBA : Below w2.heap.size w2 (w2.alloc (.cells #[.int .i64 x, .int .i64 y] 25)) := (Below.refl _ w2).alloc (Nat.le_refl _) _
  have hds3 : DesL (fun _ => True) (w2.alloc (.cells #[.int .i64 x, .int .i64 y] 25)) a2 m := DesL.below (hds2.weak (fun _ _ => trivial)) hBA
  have hB3 := HB1.out.trans ((hb2.trans (hBA.mono hb2.size)).mono HB1.out.size)
  have HX := Lib.hid (And.intro hB3 (And.intro hroom2 hds3))
  clear hb2 hBA hds2 hds3 hB3 hroom2 HB1 hi
  by_cases he : er = 0
  · subst he
    have hcl := HC.out.2.1 _ HX.out.1 HQ.out
    have HCC := Lib.hid (And.intro HC.out.2.2.1 HC.out.2.2.2.2)
    have HM := Lib.hid (HX.out.2.1)
    clear HC HQ
    obtain ⟨N2, hN2⟩ : ∃ N, m.length = N := ⟨_, rfl⟩
    rw [hN2] at HM HCC ⊢
    clear hN2
    go_wp2_with (go_at_call 19; refine (num_any _ _).mono ?_; rintro e w' ⟨rfl, rfl⟩)
    generalize w2.alloc (.cells #[.int .i64 x, .int .i64 y] 25) = w3 at *
    refine hcl.mono ?_
    rintro e w4 ⟨rfl, hb4⟩
    have hB4 := HX.out.1.trans (hb4.mono HX.out.1.size)
    have hcl2 := HCC.out.1 w4 a2 cap2 hB4 HM.out (HX.out.2.2.below hb4)
    have HB4 := Lib.hid hB4
    clear hcl hb4 HX hB4
    go_wp2_with fail
    refine hcl2.mono ?_
    rintro e w5 ⟨rfl, hb5⟩
    have HB5 := Lib.hid (HB4.out.trans (hb5.mono HB4.out.size))
    clear hcl2 hb5 HB4
    go_wp2_with fail
    refine (HCC.out.2 _ HB5.out).mono ?_
    rintro e w9 ⟨rfl, hb9⟩
    have hB9 := HB5.out.trans (hb9.mono HB5.out.size)
    go_wp2
    go_ret
    exact ⟨rfl, hB9⟩
  · have he2 : (er != 0) = true := by simpa using he
    have hcl := HC.out.2.1 _ HX.out.1 HQ.out
    have HCC := Lib.hid (And.intro HC.out.2.2.2.1 HC.out.2.2.2.2)
    have HX1 := Lib.hid HX.out.1
    clear HC HQ HX he
    go_wp2_with (go_at_call 19; refine (num_any _ _).mono ?_; rintro e w' ⟨rfl, rfl⟩)
    generalize w2.alloc (.cells #[.int .i64 x, .int .i64 y] 25) = w3 at *
    refine hcl.mono ?_
    rintro e w4 ⟨rfl, hb4⟩
    have HB4 := Lib.hid (HX1.out.trans (hb4.mono HX1.out.size))
    clear hcl hb4 HX1
    go_wp2_with fail
    refine (HCC.out.1 w4 HB4.out).mono ?_
    rintro e w5 ⟨rfl, hb5⟩
    have HB5 := Lib.hid (HB4.out.trans (hb5.mono HB4.out.size))
    clear hb5 HB4
    go_wp2_with fail
    refine (HCC.out.2 _ HB5.out).mono ?_
    rintro e w9 ⟨rfl, hb9⟩
    have hB9 := HB5.out.trans (hb9.mono HB5.out.size)
    go_wp2
    go_ret
    exact ⟨rfl, hB9⟩
end Go.Proofs.YtjmlmelcppbefaaGreatDoor
