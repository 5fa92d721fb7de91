/- How many parts an expression has, up to a bound (25). Asked: it lies in memory. -/
import Derived.Test.YtjmlmelcppbefaaGreatDoorX1
import Derived.Test.YtjmlmelcppbefaaGreatDoorX2
namespace Go.Proofs.YtjmlmelcppbefaaGreatDoor
open Go.RowKit Go.Maps
set_option maxRecDepth 100000 in
set_option maxHeartbeats 4000000 in
theorem big_some : ∀ (n : Nat) (x : Ex) (cs : List Value) (w : World), x.depth ≤ n → ExL (fun _ => True) w cs x → Calls Tryz.prog 25 #[.agg cs.toArray, .int .i64 3000] w fun e w' => (∃ z : Int, e = .returned (.int .i64 z)) ∧ Below w.heap.size w w' := by
  intro n
  induction n with
  | zero =>
    intro x cs w hx h
    obtain ⟨k, n, s, sl, lo, o, args⟩ := x
    simp [Ex.depth] at hx
  | succ n ih =>
    intro x cs w hx h
    obtain ⟨k, nn, s, sl, lo, o, args⟩ := x
    unfold ExL at h
    obtain ⟨a, cap, rfl, hc, hat⟩ := h
    rw [Ex.depth] at hx
    have hdn : Ex.depths args ≤ n := by omega
    have hX : XlAt w a args := hat
    have hb0 : Below w.heap.size w (w.alloc (.cells #[.int .i64 k, .int .i64 nn, .string s, .int .i64 sl, .bool lo, .int .i64 o, .slice a args.length cap] 46)) := (Below.refl _ w).alloc (Nat.le_refl _) _
    have hz0 := Blk.new w 46 [.int .i64 k, .int .i64 nn, .string s, .int .i64 sl, .bool lo, .int .i64 o, .slice a args.length cap]
    have h0 := hX.below hb0
    obtain ⟨N, hN⟩ : ∃ N, args.length = N := ⟨_, rfl⟩
    rw [hN] at hc hb0 hz0 h0 ⊢
    have z2 := hz0.cell 2
    simp only [List.getElem?_cons_succ, List.getElem?_cons_zero] at z2
    have HE := Lib.hid (And.intro hb0 (And.intro hz0 h0))
    have HN := Lib.hid hN
    have HDN := Lib.hid hdn
    clear hat hX hb0 hz0 h0 hN hdn hx
    obtain ⟨d46, hu46, hr46⟩ := under46
    go_enter Tryz.func25, Tryz.ntmps25
    go_wp2_with fail
    clear z2
    generalize w.alloc (.cells #[.int .i64 k, .int .i64 nn, .string s, .int .i64 sl, .bool lo, .int .i64 o, .slice a N cap] 46) = W0 at *
    go_loopg [5, 6] N (fun x mv iv wr => ∃ i : Nat, i ≤ N ∧ x = N - i ∧ iv = .int .i64 (i : Int) ∧ (∃ m : Int, mv = .int .i64 m) ∧ Hid (Below w.heap.size w wr ∧ Blk wr w.heap.size 46 [.int .i64 k, .int .i64 nn, .string s, .int .i64 sl, .bool lo, .int .i64 o, .slice a N cap] ∧ XlAt wr a args))
    case atStart => exact ⟨0, Nat.zero_le _, rfl, rfl, ⟨_, rfl⟩, HE⟩
    case round =>
      clear HE
      obtain ⟨i, hi, rfl, rfl, ⟨m, rfl⟩, HE⟩ := hrel
      obtain ⟨hb1, hz1, h1⟩ := HE.out
      have z6 := hz1.cell 6
      simp only [List.getElem?_cons_succ, List.getElem?_cons_zero] at z6
      by_cases hiN : i < N
      · have hlt : (i : Int) < (N : Int) := by omega
        have hp0 : (0 : Int) ≤ (i : Int) := by omega
        have hroom : (i : Int) + 1 ≤ 9223372036854775807 := by
          have h1 := hc.1
          have h2 := hc.2
          omega
        by_cases hm : m ≤ 3000
        · obtain ⟨b2, off2, cs, rfl, hr, hx⟩ := h1.at (j := i) (by rw [HN.out]; exact hiN)
          have hdx := depth_ge HDN.out (j := i) (by rw [HN.out]; exact hiN)
          have hcl := ih (args.getD i zEx) cs wr hdx hx
          have hl := hx.cells.1
          have HRg := Lib.hid hr
          have HL := Lib.hid hl
          clear hr hx hl hdx
          go_wp2_with ((with_reducible show wpList _ _ _ (Oper.mk _ (.load 46 _) _ _ _ _ :: _) _ _); refine wpList_load_mid rfl 46 (.tmp 27) rfl b2 (off2 + i * 7) rfl cs d46 HRg.out hu46 hr46 (by rw [HL.out]; exact info46) ?_)
          refine hcl.mono ?_
          rintro e W1 ⟨⟨z, rfl⟩, hb2⟩
          have HE2 := Lib.hid (And.intro (hb1.trans (hb2.mono hb1.size)) (And.intro (hz1.below hb2) (h1.below hb2)))
          clear hcl hb2 hz1 h1 hb1 HE
          go_wp2_with fail
          go_roundg (N - (i + 1))
          case measure => omega
          case rel => exact ⟨i + 1, by omega, rfl, rfl, ⟨_, rfl⟩, HE2⟩
        · clear hz1 h1 HE
          go_wp2_with fail
          go_ret
          exact ⟨⟨_, rfl⟩, hb1⟩
      · obtain rfl : i = N := by omega
        have hlt : ¬ (i : Int) < (i : Int) := by omega
        clear hz1 h1 HE
        go_wp2_with fail
        go_ret
        exact ⟨⟨_, rfl⟩, hb1⟩
set_option maxRecDepth 100000 in
set_option maxHeartbeats 4000000 in
theorem big_exact : ∀ (n : Nat) (x : Ex) (cs : List Value) (w : World), n ≤ 24 → x.depth ≤ n → x.sm n → ExL (fun _ => True) w cs x → Calls Tryz.prog 25 #[.agg cs.toArray, .int .i64 3000] w fun e w' => e = .returned (.int .i64 (x.big : Int)) ∧ Below w.heap.size w w' := by
  intro n
  induction n with
  | zero =>
    intro x cs w _ hx _ h
    obtain ⟨k, n, s, sl, lo, o, args⟩ := x
    simp [Ex.depth] at hx
  | succ n ih =>
    intro x cs w hn24 hx hsm h
    obtain ⟨k, nn, s, sl, lo, o, args⟩ := x
    unfold ExL at h
    obtain ⟨a, cap, rfl, hc, hat⟩ := h
    rw [Ex.depth] at hx
    have hdn : Ex.depths args ≤ n := by omega
    unfold Ex.sm at hsm
    obtain ⟨hs16, hsm⟩ := hsm
    have HSM := Lib.hid hsm
    have hs17 : s.size ≤ 16 := hs16
    have hD : Ex.bigL (args.drop 0) (1 + s.size) = (Ex.mk k nn s sl lo o args).big := by rw [List.drop_zero, Ex.big]
    obtain ⟨D, hDe⟩ : ∃ D, (Ex.mk k nn s sl lo o args).big = D := ⟨_, rfl⟩
    rw [hDe] at hD ⊢
    have HD : Hid (Ex.bigL (args.drop 0) (1 + s.size) = D ∧ 1 + s.size ≤ 200000) := Lib.hid ⟨hD, by omega⟩
    have hq : (1 : Int) + (s.size : Int) ≤ 9223372036854775807 := by omega
    clear hsm hD hDe hs17
    have hX : XlAt w a args := hat
    have hb0 : Below w.heap.size w (w.alloc (.cells #[.int .i64 k, .int .i64 nn, .string s, .int .i64 sl, .bool lo, .int .i64 o, .slice a args.length cap] 46)) := (Below.refl _ w).alloc (Nat.le_refl _) _
    have hz0 := Blk.new w 46 [.int .i64 k, .int .i64 nn, .string s, .int .i64 sl, .bool lo, .int .i64 o, .slice a args.length cap]
    have h0 := hX.below hb0
    obtain ⟨N, hN⟩ : ∃ N, args.length = N := ⟨_, rfl⟩
    rw [hN] at hc hb0 hz0 h0 ⊢
    have z2 := hz0.cell 2
    simp only [List.getElem?_cons_succ, List.getElem?_cons_zero] at z2
    have HE := Lib.hid (And.intro hb0 (And.intro hz0 h0))
    have HN := Lib.hid hN
    have HDN := Lib.hid hdn
    clear hat hX hb0 hz0 h0 hN hdn hx
    obtain ⟨d46, hu46, hr46⟩ := under46
    go_enter Tryz.func25, Tryz.ntmps25
    go_wp2_with fail
    clear z2
    generalize w.alloc (.cells #[.int .i64 k, .int .i64 nn, .string s, .int .i64 sl, .bool lo, .int .i64 o, .slice a N cap] 46) = W0 at *
    go_loopg [5, 6] N (fun x mv iv wr => ∃ i : Nat, i ≤ N ∧ x = N - i ∧ iv = .int .i64 (i : Int) ∧ (∃ m : Nat, mv = .int .i64 (m : Int) ∧ Hid (Ex.bigL (args.drop i) m = D ∧ m ≤ 200000)) ∧ Hid (Below w.heap.size w wr ∧ Blk wr w.heap.size 46 [.int .i64 k, .int .i64 nn, .string s, .int .i64 sl, .bool lo, .int .i64 o, .slice a N cap] ∧ XlAt wr a args))
    case atStart => exact ⟨0, Nat.zero_le _, rfl, rfl, ⟨1 + s.size, by go_num, HD⟩, HE⟩
    case round =>
      clear HE HD hq
      obtain ⟨i, hi, rfl, rfl, ⟨m, rfl, HM⟩, HE⟩ := hrel
      obtain ⟨hb1, hz1, h1⟩ := HE.out
      have z6 := hz1.cell 6
      simp only [List.getElem?_cons_succ, List.getElem?_cons_zero] at z6
      by_cases hiN : i < N
      · have hlt : (i : Int) < (N : Int) := by omega
        have hp0 : (0 : Int) ≤ (i : Int) := by omega
        have hroom : (i : Int) + 1 ≤ 9223372036854775807 := by
          have h1 := hc.1
          have h2 := hc.2
          omega
        by_cases hm : (m : Int) ≤ 3000
        · obtain ⟨b2, off2, cs, rfl, hr, hx⟩ := h1.at (j := i) (by rw [HN.out]; exact hiN)
          have hdx := depth_ge HDN.out (j := i) (by rw [HN.out]; exact hiN)
          have hsx := HSM.out i (by rw [HN.out]; exact hiN)
          have hbx := sm_big n _ hsx
          have hM := HM.out.1
          rw [bigL_drop (by rw [HN.out]; exact hiN) (by omega)] at hM
          have hcl := ih (args.getD i zEx) cs wr (by omega) hdx hsx hx
          obtain ⟨q, hqe⟩ : ∃ q, (args.getD i zEx).big = q := ⟨_, rfl⟩
          rw [hqe] at hcl hbx hM
          have hroom2 : (m : Int) + (q : Int) ≤ 9223372036854775807 := by omega
          have HM2 : Hid (Ex.bigL (args.drop (i + 1)) (m + q) = D ∧ m + q ≤ 200000) := Lib.hid ⟨hM, by omega⟩
          clear hM hsx hbx hqe HM
          have hl := hx.cells.1
          have HRg := Lib.hid hr
          have HL := Lib.hid hl
          clear hr hx hl hdx
          go_wp2_with ((with_reducible show wpList _ _ _ (Oper.mk _ (.load 46 _) _ _ _ _ :: _) _ _); refine wpList_load_mid rfl 46 (.tmp 27) rfl b2 (off2 + i * 7) rfl cs d46 HRg.out hu46 hr46 (by rw [HL.out]; exact info46) ?_)
          refine hcl.mono ?_
          rintro e W1 ⟨rfl, hb2⟩
          have HE2 := Lib.hid (And.intro (hb1.trans (hb2.mono hb1.size)) (And.intro (hz1.below hb2) (h1.below hb2)))
          clear hcl hb2 hz1 h1 hb1 HE
          go_wp2_with fail
          go_roundg (N - (i + 1))
          case measure => omega
          case rel => exact ⟨i + 1, by omega, rfl, rfl, ⟨m + q, by go_num, HM2⟩, HE2⟩
        · clear hz1 h1 HE
          have hmD : m = D := by rw [← HM.out.1, bigL_gt (by omega)]
          subst hmD
          clear HM
          go_wp2_with fail
          go_ret
          exact ⟨rfl, hb1⟩
      · obtain rfl : i = N := by omega
        have hlt : ¬ (i : Int) < (i : Int) := by omega
        clear hz1 h1 HE
        have hmD : m = D := by rw [← HM.out.1, List.drop_eq_nil_of_le (by rw [HN.out]; exact Nat.le_refl _), Ex.bigL]
        subst hmD
        clear HM
        go_wp2_with fail
        go_ret
        exact ⟨rfl, hb1⟩
end Go.Proofs.YtjmlmelcppbefaaGreatDoor
