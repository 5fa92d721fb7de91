/- SyntaxPrints: a program's text, or that it may not be. No condition but that the listed variables are laid. -/
import Derived.Test.YtjmlmelcppbefaaGreatDoorFg
import Derived.Test.YtjmlmelcppbefaaGreatDoorGe
import Derived.Test.YtjmlmelcppbefaaGreatDoorV4
import Derived.Test.YtjmlmelcppbefaaGreatDoorV6
namespace Go.Proofs.YtjmlmelcppbefaaGreatDoor
open Go.RowKit Go.Maps

set_option maxRecDepth 100000 in
set_option maxHeartbeats 4000000 in
theorem print_bad {w0 : World} (hSh : Shs w0) (l : List De) (a : Option Addr) (cap : Nat) (hroom : Roomy l.length cap) (h : DesL (fun _ => True) w0 a l) (hnb : ∀ d ∈ l, d.nb) (hR : desR isName l = false) :
    Calls Tryz.prog 21 #[.slice a l.length cap] w0 fun e w' => e = .returned (.tuple #[.string ⟨#[]⟩, .int .i64 2]) ∧ Below w0.heap.size w0 w' := by
  have hck := check_any l a cap w0 hroom hSh h hnb
  rw [hR, if_neg (by decide)] at hck
  clear hR h hnb
  go_enter Tryz.func21, Tryz.ntmps21
  go_wp2_with fail
  refine hck.mono ?_
  rintro e W1 ⟨rfl, hb1⟩
  go_wp2_with fail
  go_ret2
  exact ⟨rfl, hb1⟩
set_option maxRecDepth 100000 in
set_option maxHeartbeats 4000000 in
theorem prints_any (l : List De) (a : Option Addr) (cap : Nat) (hroom : Roomy l.length cap) {W : World} (h : DesL (fun _ => True) W a l) (hnb : ∀ d ∈ l, d.nb) (hW : Wf W) : Calls Tryz.prog 6 #[.slice a l.length cap] W (Tru W) := by
  have hc22 := fun (V : World) (hb : Below W.heap.size W V) => rcheck_any l a cap V hroom (h.below hb) hnb
  have hc23 := fun (V : World) (hb : Below W.heap.size W V) => check_any l a cap V hroom (hW.below hb).h (h.below hb) hnb
  cases hR : desR isName l
  · rw [hR, if_neg (by decide)] at hc22 hc23
    have hfew := few_some l a cap W hroom h
    have hpr := fun (V : World) (hb : Below W.heap.size W V) => print_bad (hW.below hb).h l a cap hroom (h.below hb) hnb hR
    have HC := Lib.hid (And.intro hpr (And.intro hc22 hc23))
    obtain ⟨N, hN⟩ : ∃ N, l.length = N := ⟨_, rfl⟩
    rw [hN] at hfew HC ⊢
    clear hpr hc22 hc23 hR h hnb hroom hN
    go_enter Tryz.func6, Tryz.ntmps6
    go_wp2_with fail
    refine hfew.mono ?_
    rintro e w1 ⟨⟨q, rfl⟩, hb1⟩
    have HB1 := Lib.hid hb1
    clear hb1 hfew
    cases q
    · go_wp2_with fail
      refine (works_any _ (hW.below HB1.out)).mono ?_
      rintro e w9 ⟨rfl, hb9⟩
      have hB9 := HB1.out.trans (hb9.mono HB1.out.size)
      go_wp2
      go_ret
      exact ⟨rfl, hB9⟩
    · go_wp2_with fail
      refine (HC.out.1 _ HB1.out).mono ?_
      rintro e w2 ⟨rfl, hb2⟩
      have HB2 := Lib.hid (HB1.out.trans (hb2.mono HB1.out.size))
      clear hb2 HB1
      go_wp2_with fail
      refine (HC.out.2.1 _ HB2.out).mono ?_
      rintro e w3 ⟨rfl, hb3⟩
      have HB3 := Lib.hid (HB2.out.trans (hb3.mono HB2.out.size))
      clear hb3 HB2
      go_wp2_with (go_at_call 19; refine (num_any _ _).mono ?_; rintro e w' ⟨rfl, rfl⟩)
      refine (HC.out.2.2 _ HB3.out).mono ?_
      rintro e w4 ⟨rfl, hb4⟩
      have HB4 := Lib.hid (HB3.out.trans (hb4.mono HB3.out.size))
      clear hb4 HB3 HC
      go_wp2_with (go_at_call 19; refine (num_any _ _).mono ?_; rintro e w' ⟨rfl, rfl⟩)
      refine (works_any _ (hW.below HB4.out)).mono ?_
      rintro e w9 ⟨rfl, hb9⟩
      have hB9 := HB4.out.trans (hb9.mono HB4.out.size)
      go_wp2
      go_ret
      exact ⟨rfl, hB9⟩
  · rw [hR, if_pos rfl] at hc22 hc23
    have hfew := few_exact l a cap W hroom h (fun j hj => deR_sm (desR_at hR hj))
    have hlen : fewB l = true → (prT l).length ≤ 70368744177664 := fun hf => by
      have h1 := prT_cnt isName hR
      have h2 : deBig l 0 ≤ 3000 := of_decide_eq_true hf
      have h3 := deBig_cnt l 0 h2
      omega
    have hpr := fun (V : World) (hb : Below W.heap.size W V) (hf : fewB l = true) => print_read (hW.below hb) hroom (h.below hb) hR (hlen hf)
    have hrp := fun (V : World) (hb : Below W.heap.size W V) (hf : fewB l = true) => rprint_any hW.t hW.s l a cap hroom h hR (hlen hf) V hb
    obtain ⟨tx, htx⟩ : ∃ tx, bS (prT l) = tx := ⟨_, rfl⟩
    rw [htx] at hpr hrp
    have HC := Lib.hid (And.intro hpr (And.intro hc22 (And.intro hrp hc23)))
    obtain ⟨N, hN⟩ : ∃ N, l.length = N := ⟨_, rfl⟩
    obtain ⟨q, hq⟩ : ∃ q, fewB l = q := ⟨_, rfl⟩
    rw [hN, hq] at hfew
    rw [hN, hq] at HC
    rw [hN]
    clear hpr hc22 hc23 hrp hlen hR h hnb hroom hN hq htx
    go_enter Tryz.func6, Tryz.ntmps6
    go_wp2_with fail
    refine hfew.mono ?_
    rintro e w1 ⟨rfl, hb1⟩
    have HB1 := Lib.hid hb1
    clear hb1 hfew
    cases q
    · clear HC
      go_wp2_with fail
      refine (works_any _ (hW.below HB1.out)).mono ?_
      rintro e w9 ⟨rfl, hb9⟩
      have hB9 := HB1.out.trans (hb9.mono HB1.out.size)
      go_wp2
      go_ret
      exact ⟨rfl, hB9⟩
    · go_wp2_with fail
      refine (HC.out.1 _ HB1.out (by trivial)).mono ?_
      rintro e w2 ⟨rfl, hb2⟩
      have HB2 := Lib.hid (HB1.out.trans (hb2.mono HB1.out.size))
      clear hb2 HB1
      go_wp2_with fail
      refine (HC.out.2.1 _ HB2.out).mono ?_
      rintro e w3 ⟨rfl, hb3⟩
      have HB3 := Lib.hid (HB2.out.trans (hb3.mono HB2.out.size))
      clear hb3 HB2
      go_wp2_with fail
      refine (HC.out.2.2.1 _ HB3.out (by trivial)).mono ?_
      rintro e w4 ⟨rfl, hb4⟩
      have HB4 := Lib.hid (HB3.out.trans (hb4.mono HB3.out.size))
      clear hb4 HB3
      go_wp2_with (go_at_call 19; refine (num_any _ _).mono ?_; rintro e w' ⟨rfl, rfl⟩)
      refine (HC.out.2.2.2 _ HB4.out).mono ?_
      rintro e w5 ⟨rfl, hb5⟩
      have HB5 := Lib.hid (HB4.out.trans (hb5.mono HB4.out.size))
      clear hb5 HB4 HC
      go_wp2_with (go_at_call 19; refine (num_any _ _).mono ?_; rintro e w' ⟨rfl, rfl⟩)
      refine (works_any _ (hW.below HB5.out)).mono ?_
      rintro e w9 ⟨rfl, hb9⟩
      have hB9 := HB5.out.trans (hb9.mono HB5.out.size)
      go_wp2
      go_ret
      exact ⟨rfl, hB9⟩
end Go.Proofs.YtjmlmelcppbefaaGreatDoor
