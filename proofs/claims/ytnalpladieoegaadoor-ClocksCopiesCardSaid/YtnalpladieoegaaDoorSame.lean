/- Lists of clocks are compared, and watches, by the program and by the document. Asked: they lie there. -/
import Derived.Test.YtnalpladieoegaaDoorCopy
namespace Go.Proofs.YtnalpladieoegaaDoor
open Go.RowKit Go.Shelf

/-- Two lists of clocks are alike. -/
def eqL (l m : List Ck) : Bool := l.length == m.length && (List.range l.length).all fun k => eqB (at_ l k) (at_ m k)
theorem eqL_len {l m : List Ck} (h : l.length ≠ m.length) : eqL l m = false := by
  unfold eqL
  rw [beq_false_of_ne h]
  rfl
theorem eqL_no {l m : List Ck} {k : Nat} (hk : k < l.length) (h : eqB (at_ l k) (at_ m k) = false) : eqL l m = false := by
  unfold eqL
  rw [Bool.and_eq_false_iff]
  right
  rw [List.all_eq_false]
  exact ⟨k, by simpa using hk, by rw [h]; decide⟩
theorem eqL_yes {l m : List Ck} (hl : l.length = m.length) (h : ∀ k, k < l.length → eqB (at_ l k) (at_ m k) = true) : eqL l m = true := by
  unfold eqL
  rw [hl, beq_self_eq_true, Bool.true_and, List.all_eq_true]
  intro k hk
  exact h k (by rw [hl]; simpa using hk)
theorem eqB_refl (a : Ck) : eqB a a = true := by simp [eqB]
theorem eqB_comm (a b : Ck) : eqB a b = eqB b a := by
  unfold eqB
  congr 1
  funext i
  rw [Bool.eq_iff_iff, decide_eq_true_eq, decide_eq_true_eq]
  exact eq_comm
theorem eqL_refl (l : List Ck) : eqL l l = true := eqL_yes rfl fun _ _ => eqB_refl _
theorem eqL_comm (l m : List Ck) : eqL l m = eqL m l := by
  by_cases h : l.length = m.length
  · unfold eqL
    rw [h, beq_self_eq_true, Bool.true_and, Bool.true_and]
    congr 1
    funext k
    exact eqB_comm _ _
  · rw [eqL_len h, eqL_len (fun e => h e.symm)]

set_option maxRecDepth 100000 in
set_option maxHeartbeats 4000000 in
theorem equal_in {w : World} {b1 b2 k1 k2 n1 n2 : Nat} {l1 l2 : List Ck} (hn1 : l1.length = n1) (hn2 : l2.length = n2) (hm : n1 ≤ 65536) (h1 : PRow w b1 68 l1 k1) (h2 : PRow w b2 68 l2 k2) :
    Calls Tryd.prog 60 #[.slice (some ⟨b1, 0, none⟩) n1 k1, .slice (some ⟨b2, 0, none⟩) n2 k2] w fun e w' => e = .returned (.bool (eqL l1 l2)) ∧ Below w.heap.size w w' := by
  have hmx : Tryd.prog.follows .mixedOrders = true := by kernel_rfl
  by_cases hne : n1 = n2
  · subst hne
    have HN := Lib.hid (And.intro hn1 hn2)
    clear hn1 hn2
    obtain ⟨r, hr⟩ : ∃ r, eqL l1 l2 = r := ⟨_, rfl⟩
    have HR := Lib.hid hr
    rw [hr]
    clear hr
    have hB := Below.refl w.heap.size w
    go_enter Tryd.func60, Tryd.ntmps60
    go_wp2_with fail
    go_loopw [13] (fun i wr => ∃ k : Nat, k ≤ n1 ∧ i = .int .i64 k ∧ Hid (∀ j, j < k → eqB (at_ l1 j) (at_ l2 j) = true) ∧ PRow wr b1 68 l1 k1 ∧ PRow wr b2 68 l2 k2 ∧ Below w.heap.size w wr) (fun i _ => n1 - (intOf i).toNat)
    case atStart => exact ⟨0, by omega, rfl, Lib.hid (fun j hj => by omega), h1, h2, hB⟩
    case round =>
      clear h1 h2 hB
      obtain ⟨k, hk, rfl, HE, h1, h2, hB⟩ := hrel
      by_cases hlk : k < n1
      · have hp0 : (0 : Int) ≤ (k : Int) := by omega
        have hp1 : (k : Int) < (n1 : Int) := by omega
        obtain ⟨c, hc⟩ : ∃ c, at_ l1 k = c := ⟨_, rfl⟩
        obtain ⟨d, hd⟩ : ∃ d, at_ l2 k = d := ⟨_, rfl⟩
        have hlt : k < l1.length := by have := HN.out; omega
        have hlt2 : k < l2.length := by have := HN.out; omega
        obtain ⟨q, hq⟩ : ∃ q, eqB c d = q := ⟨_, rfl⟩
        have HQ := Lib.hid hq
        have heq := fun w => eqc_run Tryd.underlying68 c d w
        rw [hq] at heq
        clear hq
        go_wp2_with fail
        refine wp_region_x [] (fun W1 => PRow W1 b1 68 l1 k1 ∧ PRow W1 b2 68 l2 k2) hmx ?_
        have HS := Lib.hid (show PRow wr.drew b1 68 l1 k1 ∧ PRow wr.drew b2 68 l2 k2 from ⟨h1, h2⟩)
        refine wpX_take 0 (v := ?v0) rfl (by kernel_rfl) (by kernel_rfl) (by kernel_rfl) (by kernel_rfl) (fun _ _ _ h => h) HS.out (Or.inl ⟨by rfl, ?h0⟩) ?_
        case h0 =>
          intro W1 hS1
          clear hS1
          go_simp
          with_reducible rfl
        refine wpX_take 1 (v := ?v1) rfl (by kernel_rfl) (by kernel_rfl) (by kernel_rfl) (by kernel_rfl) (fun _ _ _ h => h) HS.out (Or.inl ⟨by rfl, ?h1⟩) ?_
        case h1 =>
          intro W1 hS1
          clear hS1
          go_simp
          with_reducible rfl
        refine wpX_take 2 (v := ?v2) rfl (by kernel_rfl) (by kernel_rfl) (by kernel_rfl) (by kernel_rfl) (fun _ _ _ h => h) HS.out (Or.inl ⟨by rfl, ?h2⟩) ?_
        case h2 =>
          intro W1 hS1
          clear hS1
          go_simp
          with_reducible rfl
        refine wpX_take 3 (v := ?v3) rfl (by kernel_rfl) (by kernel_rfl) (by kernel_rfl) (by kernel_rfl) (fun _ _ _ h => h) HS.out (Or.inl ⟨by rfl, ?h3⟩) ?_
        case h3 =>
          intro W1 hS1
          have x0 := hS1.1.cell (j := 0) hlt (by decide)
          have x1 := hS1.1.cell (j := 1) hlt (by decide)
          have x2 := hS1.1.cell (j := 2) hlt (by decide)
          have x3 := hS1.1.cell (j := 3) hlt (by decide)
          have x4 := hS1.1.cell (j := 4) hlt (by decide)
          have x5 := hS1.1.cell (j := 5) hlt (by decide)
          have x6 := hS1.1.cell (j := 6) hlt (by decide)
          have x7 := hS1.1.cell (j := 7) hlt (by decide)
          rw [Nat.add_zero] at x0
          rw [hc] at x0 x1 x2 x3 x4 x5 x6 x7
          clear hS1
          go_simp
          with_reducible rfl
        refine wpX_take 4 (v := ?v4) rfl (by kernel_rfl) (by kernel_rfl) (by kernel_rfl) (by kernel_rfl) (fun _ _ _ h => h) HS.out (Or.inl ⟨by rfl, ?h4⟩) ?_
        case h4 =>
          intro W1 hS1
          clear hS1
          go_simp
          with_reducible rfl
        refine wpX_take 5 (v := ?v5) rfl (by kernel_rfl) (by kernel_rfl) (by kernel_rfl) (by kernel_rfl) (fun _ _ _ h => h) HS.out (Or.inl ⟨by rfl, ?h5⟩) ?_
        case h5 =>
          intro W1 hS1
          clear hS1
          go_simp
          with_reducible rfl
        refine wpX_take 6 (v := ?v6) rfl (by kernel_rfl) (by kernel_rfl) (by kernel_rfl) (by kernel_rfl) (fun _ _ _ h => h) HS.out (Or.inl ⟨by rfl, ?h6⟩) ?_
        case h6 =>
          intro W1 hS1
          clear hS1
          go_simp
          with_reducible rfl
        refine wpX_take 7 (v := ?v7) rfl (by kernel_rfl) (by kernel_rfl) (by kernel_rfl) (by kernel_rfl) (fun _ _ _ h => h) HS.out (Or.inl ⟨by rfl, ?h7⟩) ?_
        case h7 =>
          intro W1 hS1
          have x0 := hS1.2.cell (j := 0) hlt2 (by decide)
          have x1 := hS1.2.cell (j := 1) hlt2 (by decide)
          have x2 := hS1.2.cell (j := 2) hlt2 (by decide)
          have x3 := hS1.2.cell (j := 3) hlt2 (by decide)
          have x4 := hS1.2.cell (j := 4) hlt2 (by decide)
          have x5 := hS1.2.cell (j := 5) hlt2 (by decide)
          have x6 := hS1.2.cell (j := 6) hlt2 (by decide)
          have x7 := hS1.2.cell (j := 7) hlt2 (by decide)
          rw [Nat.add_zero] at x0
          rw [hd] at x0 x1 x2 x3 x4 x5 x6 x7
          clear hS1
          go_simp
          with_reducible rfl
        refine wpX_one 8 (by kernel_rfl) rfl (fun K hK => ?_)
        go_simp
        refine hK _ _ (fun _ => HS.out) ?_
        clear hK K
        refine wpX_done (by kernel_rfl) ?_ _
        cases q
        · have hrf : r = false := by rw [← HR.out]; exact eqL_no hlt (by rw [hc, hd]; exact HQ.out)
          subst hrf
          go_wp2
          go_ret
          exact ⟨rfl, hB.drew⟩
        · have hq2 : eqB (at_ l1 k) (at_ l2 k) = true := by rw [hc, hd]; exact HQ.out
          have HE2 := Lib.hid (show ∀ j, j < k + 1 → eqB (at_ l1 j) (at_ l2 j) = true from fun j hj => by
            rcases Nat.lt_or_ge j k with h | h
            · exact HE.out j h
            · obtain rfl : j = k := by omega
              exact hq2)
          clear hq2 hc hd
          go_wp2
          go_roundw
          case rel => exact ⟨k + 1, by omega, by go_num, HE2, h1, h2, hB.drew⟩
          case measure => simp [intOf]; omega
      · obtain rfl : k = n1 := by omega
        have hrt : r = true := by rw [← HR.out]; exact eqL_yes (by have := HN.out; omega) (by have := HN.out.1; rw [this]; exact HE.out)
        subst hrt
        go_wp2
        go_ret
        exact ⟨rfl, hB⟩
  · have hi : ¬ ((n1 : Int) = (n2 : Int)) := by omega
    rw [eqL_len (by omega)]
    clear hn1 hn2 hne
    go_enter Tryd.func60, Tryd.ntmps60
    go_wp2
    go_ret
    exact ⟨rfl, Below.refl _ _⟩
theorem equal_any {w : World} {b1 b2 k1 k2 : Nat} {l1 l2 : List Ck} (hm : l1.length ≤ 65536) (h1 : PRow w b1 68 l1 k1) (h2 : PRow w b2 68 l2 k2) :
    Calls Tryd.prog 60 #[.slice (some ⟨b1, 0, none⟩) l1.length k1, .slice (some ⟨b2, 0, none⟩) l2.length k2] w fun e w' => e = .returned (.bool (eqL l1 l2)) ∧ Below w.heap.size w w' := equal_in rfl rfl hm h1 h2

set_option maxRecDepth 100000 in
set_option maxHeartbeats 4000000 in
theorem rsame_in {w : World} {b1 b2 k1 k2 n1 n2 : Nat} {l1 l2 : List Ck} (hn1 : l1.length = n1) (hn2 : l2.length = n2) (hm : n1 ≤ 65536) (h1 : PRow w b1 23 l1 k1) (h2 : PRow w b2 23 l2 k2) :
    Calls Tryd.prog 61 #[.slice (some ⟨b1, 0, none⟩) n1 k1, .slice (some ⟨b2, 0, none⟩) n2 k2] w fun e w' => e = .returned (.bool (eqL l1 l2)) ∧ Below w.heap.size w w' := by
  have hmx : Tryd.prog.follows .mixedOrders = true := by kernel_rfl
  by_cases hne : n1 = n2
  · subst hne
    have HN := Lib.hid (And.intro hn1 hn2)
    clear hn1 hn2
    obtain ⟨r, hr⟩ : ∃ r, eqL l1 l2 = r := ⟨_, rfl⟩
    have HR := Lib.hid hr
    rw [hr]
    clear hr
    have hB := Below.refl w.heap.size w
    go_enter Tryd.func61, Tryd.ntmps61
    go_wp2_with fail
    go_loopw [5] (fun i wr => ∃ k : Nat, k ≤ n1 ∧ i = .int .i64 k ∧ Hid (∀ j, j < k → eqB (at_ l1 j) (at_ l2 j) = true) ∧ PRow wr b1 23 l1 k1 ∧ PRow wr b2 23 l2 k2 ∧ Below w.heap.size w wr) (fun i _ => n1 - (intOf i).toNat)
    case atStart => exact ⟨0, by omega, rfl, Lib.hid (fun j hj => by omega), h1, h2, hB⟩
    case round =>
      clear h1 h2 hB
      obtain ⟨k, hk, rfl, HE, h1, h2, hB⟩ := hrel
      by_cases hlk : k < n1
      · have hp0 : (0 : Int) ≤ (k : Int) := by omega
        have hp1 : (k : Int) < (n1 : Int) := by omega
        obtain ⟨c, hc⟩ : ∃ c, at_ l1 k = c := ⟨_, rfl⟩
        obtain ⟨d, hd⟩ : ∃ d, at_ l2 k = d := ⟨_, rfl⟩
        have hlt : k < l1.length := by have := HN.out; omega
        have hlt2 : k < l2.length := by have := HN.out; omega
        obtain ⟨q, hq⟩ : ∃ q, eqB c d = q := ⟨_, rfl⟩
        have HQ := Lib.hid hq
        have heq := fun w => eqc_run Tryd.underlying23 c d w
        rw [hq] at heq
        clear hq
        go_wp2_with fail
        refine wp_region_x [] (fun W1 => PRow W1 b1 23 l1 k1 ∧ PRow W1 b2 23 l2 k2) hmx ?_
        have HS := Lib.hid (show PRow wr.drew b1 23 l1 k1 ∧ PRow wr.drew b2 23 l2 k2 from ⟨h1, h2⟩)
        refine wpX_take 0 (v := ?v0) rfl (by kernel_rfl) (by kernel_rfl) (by kernel_rfl) (by kernel_rfl) (fun _ _ _ h => h) HS.out (Or.inl ⟨by rfl, ?h0⟩) ?_
        case h0 =>
          intro W1 hS1
          clear hS1
          go_simp
          with_reducible rfl
        refine wpX_take 1 (v := ?v1) rfl (by kernel_rfl) (by kernel_rfl) (by kernel_rfl) (by kernel_rfl) (fun _ _ _ h => h) HS.out (Or.inl ⟨by rfl, ?h1⟩) ?_
        case h1 =>
          intro W1 hS1
          clear hS1
          go_simp
          with_reducible rfl
        refine wpX_take 2 (v := ?v2) rfl (by kernel_rfl) (by kernel_rfl) (by kernel_rfl) (by kernel_rfl) (fun _ _ _ h => h) HS.out (Or.inl ⟨by rfl, ?h2⟩) ?_
        case h2 =>
          intro W1 hS1
          clear hS1
          go_simp
          with_reducible rfl
        refine wpX_take 3 (v := ?v3) rfl (by kernel_rfl) (by kernel_rfl) (by kernel_rfl) (by kernel_rfl) (fun _ _ _ h => h) HS.out (Or.inl ⟨by rfl, ?h3⟩) ?_
        case h3 =>
          intro W1 hS1
          have x0 := hS1.1.cell (j := 0) hlt (by decide)
          have x1 := hS1.1.cell (j := 1) hlt (by decide)
          have x2 := hS1.1.cell (j := 2) hlt (by decide)
          have x3 := hS1.1.cell (j := 3) hlt (by decide)
          have x4 := hS1.1.cell (j := 4) hlt (by decide)
          have x5 := hS1.1.cell (j := 5) hlt (by decide)
          have x6 := hS1.1.cell (j := 6) hlt (by decide)
          have x7 := hS1.1.cell (j := 7) hlt (by decide)
          rw [Nat.add_zero] at x0
          rw [hc] at x0 x1 x2 x3 x4 x5 x6 x7
          clear hS1
          go_simp
          with_reducible rfl
        refine wpX_take 4 (v := ?v4) rfl (by kernel_rfl) (by kernel_rfl) (by kernel_rfl) (by kernel_rfl) (fun _ _ _ h => h) HS.out (Or.inl ⟨by rfl, ?h4⟩) ?_
        case h4 =>
          intro W1 hS1
          clear hS1
          go_simp
          with_reducible rfl
        refine wpX_take 5 (v := ?v5) rfl (by kernel_rfl) (by kernel_rfl) (by kernel_rfl) (by kernel_rfl) (fun _ _ _ h => h) HS.out (Or.inl ⟨by rfl, ?h5⟩) ?_
        case h5 =>
          intro W1 hS1
          clear hS1
          go_simp
          with_reducible rfl
        refine wpX_take 6 (v := ?v6) rfl (by kernel_rfl) (by kernel_rfl) (by kernel_rfl) (by kernel_rfl) (fun _ _ _ h => h) HS.out (Or.inl ⟨by rfl, ?h6⟩) ?_
        case h6 =>
          intro W1 hS1
          clear hS1
          go_simp
          with_reducible rfl
        refine wpX_take 7 (v := ?v7) rfl (by kernel_rfl) (by kernel_rfl) (by kernel_rfl) (by kernel_rfl) (fun _ _ _ h => h) HS.out (Or.inl ⟨by rfl, ?h7⟩) ?_
        case h7 =>
          intro W1 hS1
          have x0 := hS1.2.cell (j := 0) hlt2 (by decide)
          have x1 := hS1.2.cell (j := 1) hlt2 (by decide)
          have x2 := hS1.2.cell (j := 2) hlt2 (by decide)
          have x3 := hS1.2.cell (j := 3) hlt2 (by decide)
          have x4 := hS1.2.cell (j := 4) hlt2 (by decide)
          have x5 := hS1.2.cell (j := 5) hlt2 (by decide)
          have x6 := hS1.2.cell (j := 6) hlt2 (by decide)
          have x7 := hS1.2.cell (j := 7) hlt2 (by decide)
          rw [Nat.add_zero] at x0
          rw [hd] at x0 x1 x2 x3 x4 x5 x6 x7
          clear hS1
          go_simp
          with_reducible rfl
        refine wpX_one 8 (by kernel_rfl) rfl (fun K hK => ?_)
        go_simp
        refine hK _ _ (fun _ => HS.out) ?_
        clear hK K
        refine wpX_done (by kernel_rfl) ?_ _
        cases q
        · have hrf : r = false := by rw [← HR.out]; exact eqL_no hlt (by rw [hc, hd]; exact HQ.out)
          subst hrf
          go_wp2
          go_ret
          exact ⟨rfl, hB.drew⟩
        · have hq2 : eqB (at_ l1 k) (at_ l2 k) = true := by rw [hc, hd]; exact HQ.out
          have HE2 := Lib.hid (show ∀ j, j < k + 1 → eqB (at_ l1 j) (at_ l2 j) = true from fun j hj => by
            rcases Nat.lt_or_ge j k with h | h
            · exact HE.out j h
            · obtain rfl : j = k := by omega
              exact hq2)
          clear hq2 hc hd
          go_wp2
          go_roundw
          case rel => exact ⟨k + 1, by omega, by go_num, HE2, h1, h2, hB.drew⟩
          case measure => simp [intOf]; omega
      · obtain rfl : k = n1 := by omega
        have hrt : r = true := by rw [← HR.out]; exact eqL_yes (by have := HN.out; omega) (by have := HN.out.1; rw [this]; exact HE.out)
        subst hrt
        go_wp2
        go_ret
        exact ⟨rfl, hB⟩
  · have hi : ¬ ((n1 : Int) = (n2 : Int)) := by omega
    rw [eqL_len (by omega)]
    clear hn1 hn2 hne
    go_enter Tryd.func61, Tryd.ntmps61
    go_wp2
    go_ret
    exact ⟨rfl, Below.refl _ _⟩
theorem rsame_any {w : World} {b1 b2 k1 k2 : Nat} {l1 l2 : List Ck} (hm : l1.length ≤ 65536) (h1 : PRow w b1 23 l1 k1) (h2 : PRow w b2 23 l2 k2) :
    Calls Tryd.prog 61 #[.slice (some ⟨b1, 0, none⟩) l1.length k1, .slice (some ⟨b2, 0, none⟩) l2.length k2] w fun e w' => e = .returned (.bool (eqL l1 l2)) ∧ Below w.heap.size w w' := rsame_in rfl rfl hm h1 h2

set_option maxRecDepth 100000 in
set_option maxHeartbeats 4000000 in
/-- Two watches are the same just if their lists are. -/
theorem same_any {w : World} {p tb pb k1 k2 p2 tb2 pb2 j1 j2 : Nat} {th pl th2 pl2 : List Ck} (h1 : WtC w p tb pb k1 k2 th pl) (h2 : WtC w p2 tb2 pb2 j1 j2 th2 pl2) (ht : 0 < th.length) (ht2 : 0 < th2.length) (hn : th.length ≤ 8) (hm : pl.length ≤ 65536) :
    Calls Tryd.prog 40 #[.pointer (some ⟨p, 0, none⟩), .pointer (some ⟨p2, 0, none⟩)] w fun e w' => e = .returned (.bool (eqL th th2 && eqL pl pl2)) ∧ Below w.heap.size w w' := by
  have hmx : Tryd.prog.follows .mixedOrders = true := by kernel_rfl
  obtain ⟨q, hq⟩ : ∃ q, eqL th th2 = q := ⟨_, rfl⟩
  obtain ⟨r, hr⟩ : ∃ r, eqL pl pl2 = r := ⟨_, rfl⟩
  rw [hq, hr]
  have HQ := Lib.hid hq
  have HR := Lib.hid hr
  clear hq hr
  go_enter Tryd.func40, Tryd.ntmps40
  go_wp2_with fail
  refine (c_there h1 ht).mono ?_
  rintro e w' ⟨rfl, rfl⟩
  go_wp2_with fail
  refine (c_there h2 ht2).mono ?_
  rintro e w' ⟨rfl, rfl⟩
  go_wp2_with fail
  have hB := (Below.refl w.heap.size w).drew
  refine wp_region_x [] (fun W1 => WtC W1 p tb pb k1 k2 th pl ∧ WtC W1 p2 tb2 pb2 j1 j2 th2 pl2) hmx ?_
  have HS := Lib.hid (show WtC w.drew p tb pb k1 k2 th pl ∧ WtC w.drew p2 tb2 pb2 j1 j2 th2 pl2 from ⟨h1.drew, h2.drew⟩)
  clear h1 h2
  refine wpX_take 0 (v := ?v0) rfl (by kernel_rfl) (by kernel_rfl) (by kernel_rfl) (by kernel_rfl) (fun _ _ _ h => h) HS.out (Or.inl ⟨by rfl, ?h0⟩) ?_
  case h0 =>
    intro W1 hS1
    clear hS1
    go_simp
    with_reducible rfl
  refine wpX_take 1 (v := ?v1) rfl (by kernel_rfl) (by kernel_rfl) (by kernel_rfl) (by kernel_rfl) (fun _ _ _ h => h) HS.out (Or.inl ⟨by rfl, ?h1⟩) ?_
  case h1 =>
    intro W1 hS1
    clear hS1
    go_simp
    with_reducible rfl
  refine wpX_take 2 (v := ?v2) rfl (by kernel_rfl) (by kernel_rfl) (by kernel_rfl) (by kernel_rfl) (fun _ _ _ h => h) HS.out (Or.inl ⟨by rfl, ?h2⟩) ?_
  case h2 =>
    intro W1 hS1
    clear hS1
    go_simp
    with_reducible rfl
  refine wpX_take 3 (v := ?v3) rfl (by kernel_rfl) (by kernel_rfl) (by kernel_rfl) (by kernel_rfl) (fun _ _ _ h => h) HS.out (Or.inl ⟨by rfl, ?h3⟩) ?_
  case h3 =>
    intro W1 hS1
    have b0 := hS1.1.c0
    have b1 := hS1.1.c1
    clear hS1
    go_simp
    with_reducible rfl
  refine wpX_take 4 (v := ?v4) rfl (by kernel_rfl) (by kernel_rfl) (by kernel_rfl) (by kernel_rfl) (fun _ _ _ h => h) HS.out (Or.inl ⟨by rfl, ?h4⟩) ?_
  case h4 =>
    intro W1 hS1
    clear hS1
    go_simp
    with_reducible rfl
  refine wpX_take 5 (v := ?v5) rfl (by kernel_rfl) (by kernel_rfl) (by kernel_rfl) (by kernel_rfl) (fun _ _ _ h => h) HS.out (Or.inl ⟨by rfl, ?h5⟩) ?_
  case h5 =>
    intro W1 hS1
    clear hS1
    go_simp
    with_reducible rfl
  refine wpX_take 6 (v := ?v6) rfl (by kernel_rfl) (by kernel_rfl) (by kernel_rfl) (by kernel_rfl) (fun _ _ _ h => h) HS.out (Or.inl ⟨by rfl, ?h6⟩) ?_
  case h6 =>
    intro W1 hS1
    clear hS1
    go_simp
    with_reducible rfl
  refine wpX_take 7 (v := ?v7) rfl (by kernel_rfl) (by kernel_rfl) (by kernel_rfl) (by kernel_rfl) (fun _ _ _ h => h) HS.out (Or.inl ⟨by rfl, ?h7⟩) ?_
  case h7 =>
    intro W1 hS1
    have b0 := hS1.2.c0
    have b1 := hS1.2.c1
    clear hS1
    go_simp
    with_reducible rfl
  refine wpX_one 8 (by kernel_rfl) rfl (fun K hK => ?_)
  go_simp
  refine (equal_any (Nat.le_trans hn (by decide)) HS.out.1.tc HS.out.2.tc).mono ?_
  rintro e w1 ⟨rfl, hb1⟩
  rw [HQ.out]
  have hB1 := hB.trans (hb1.mono hB.size)
  have HS1 := Lib.hid (show WtC w1 p tb pb k1 k2 th pl ∧ WtC w1 p2 tb2 pb2 j1 j2 th2 pl2 from ⟨HS.out.1.below hb1, HS.out.2.below hb1⟩)
  clear HS hB hb1
  have HS := HS1
  clear HS1
  refine hK _ _ (fun _ => HS.out) ?_
  clear hK K
  cases q
  · refine wpX_one 9 (by kernel_rfl) rfl (fun K hK => ?_)
    go_simp
    refine hK _ _ (fun _ => HS.out) ?_
    clear hK K
    refine wpX_take 10 rfl (by kernel_rfl) (by kernel_rfl) (by kernel_rfl) (by kernel_rfl) (fun _ _ _ h => h) HS.out (Or.inr ⟨by rfl, rfl⟩) ?_
    refine wpX_take 11 rfl (by kernel_rfl) (by kernel_rfl) (by kernel_rfl) (by kernel_rfl) (fun _ _ _ h => h) HS.out (Or.inr ⟨by rfl, rfl⟩) ?_
    refine wpX_take 12 rfl (by kernel_rfl) (by kernel_rfl) (by kernel_rfl) (by kernel_rfl) (fun _ _ _ h => h) HS.out (Or.inr ⟨by rfl, rfl⟩) ?_
    refine wpX_take 13 rfl (by kernel_rfl) (by kernel_rfl) (by kernel_rfl) (by kernel_rfl) (fun _ _ _ h => h) HS.out (Or.inr ⟨by rfl, rfl⟩) ?_
    refine wpX_take 14 rfl (by kernel_rfl) (by kernel_rfl) (by kernel_rfl) (by kernel_rfl) (fun _ _ _ h => h) HS.out (Or.inr ⟨by rfl, rfl⟩) ?_
    refine wpX_take 15 rfl (by kernel_rfl) (by kernel_rfl) (by kernel_rfl) (by kernel_rfl) (fun _ _ _ h => h) HS.out (Or.inr ⟨by rfl, rfl⟩) ?_
    refine wpX_take 16 rfl (by kernel_rfl) (by kernel_rfl) (by kernel_rfl) (by kernel_rfl) (fun _ _ _ h => h) HS.out (Or.inr ⟨by rfl, rfl⟩) ?_
    refine wpX_take 17 rfl (by kernel_rfl) (by kernel_rfl) (by kernel_rfl) (by kernel_rfl) (fun _ _ _ h => h) HS.out (Or.inr ⟨by rfl, rfl⟩) ?_
    refine wpX_one 18 (by kernel_rfl) rfl (fun K hK => ?_)
    go_simp
    refine hK _ _ (fun _ => HS.out) ?_
    clear hK K
    refine wpX_one 19 (by kernel_rfl) rfl (fun K hK => ?_)
    go_simp
    refine hK _ _ (fun _ => HS.out) ?_
    clear hK K
    refine wpX_one 20 (by kernel_rfl) rfl (fun K hK => ?_)
    go_simp
    refine hK _ _ (fun _ => HS.out) ?_
    clear hK K
    refine wpX_done (by kernel_rfl) ?_ _
    go_wp2
    go_ret
    exact ⟨rfl, hB1⟩
  · refine wpX_one 9 (by kernel_rfl) rfl (fun K hK => ?_)
    go_simp
    refine hK _ _ (fun _ => HS.out) ?_
    clear hK K
    refine wpX_take 10 (v := ?vg10) rfl (by kernel_rfl) (by kernel_rfl) (by kernel_rfl) (by kernel_rfl) (fun _ _ _ h => h) HS.out (Or.inl ⟨by rfl, ?hg10⟩) ?_
    case hg10 =>
      intro W1 hS1
      clear hS1
      go_simp
      with_reducible rfl
    refine wpX_take 11 (v := ?vg11) rfl (by kernel_rfl) (by kernel_rfl) (by kernel_rfl) (by kernel_rfl) (fun _ _ _ h => h) HS.out (Or.inl ⟨by rfl, ?hg11⟩) ?_
    case hg11 =>
      intro W1 hS1
      clear hS1
      go_simp
      with_reducible rfl
    refine wpX_take 12 (v := ?vg12) rfl (by kernel_rfl) (by kernel_rfl) (by kernel_rfl) (by kernel_rfl) (fun _ _ _ h => h) HS.out (Or.inl ⟨by rfl, ?hg12⟩) ?_
    case hg12 =>
      intro W1 hS1
      clear hS1
      go_simp
      with_reducible rfl
    refine wpX_take 13 (v := ?vg13) rfl (by kernel_rfl) (by kernel_rfl) (by kernel_rfl) (by kernel_rfl) (fun _ _ _ h => h) HS.out (Or.inl ⟨by rfl, ?hg13⟩) ?_
    case hg13 =>
      intro W1 hS1
      have b0 := hS1.1.c0
      have b1 := hS1.1.c1
      clear hS1
      go_simp
      with_reducible rfl
    refine wpX_take 14 (v := ?vg14) rfl (by kernel_rfl) (by kernel_rfl) (by kernel_rfl) (by kernel_rfl) (fun _ _ _ h => h) HS.out (Or.inl ⟨by rfl, ?hg14⟩) ?_
    case hg14 =>
      intro W1 hS1
      clear hS1
      go_simp
      with_reducible rfl
    refine wpX_take 15 (v := ?vg15) rfl (by kernel_rfl) (by kernel_rfl) (by kernel_rfl) (by kernel_rfl) (fun _ _ _ h => h) HS.out (Or.inl ⟨by rfl, ?hg15⟩) ?_
    case hg15 =>
      intro W1 hS1
      clear hS1
      go_simp
      with_reducible rfl
    refine wpX_take 16 (v := ?vg16) rfl (by kernel_rfl) (by kernel_rfl) (by kernel_rfl) (by kernel_rfl) (fun _ _ _ h => h) HS.out (Or.inl ⟨by rfl, ?hg16⟩) ?_
    case hg16 =>
      intro W1 hS1
      clear hS1
      go_simp
      with_reducible rfl
    refine wpX_take 17 (v := ?vg17) rfl (by kernel_rfl) (by kernel_rfl) (by kernel_rfl) (by kernel_rfl) (fun _ _ _ h => h) HS.out (Or.inl ⟨by rfl, ?hg17⟩) ?_
    case hg17 =>
      intro W1 hS1
      have b0 := hS1.2.c0
      have b1 := hS1.2.c1
      clear hS1
      go_simp
      with_reducible rfl
    refine wpX_one 18 (by kernel_rfl) rfl (fun K hK => ?_)
    go_simp
    refine (equal_any hm HS.out.1.pc HS.out.2.pc).mono ?_
    rintro e w2 ⟨rfl, hb2⟩
    rw [HR.out]
    have hB2 := hB1.trans (hb2.mono hB1.size)
    have HS1 := Lib.hid (show WtC w2 p tb pb k1 k2 th pl ∧ WtC w2 p2 tb2 pb2 j1 j2 th2 pl2 from ⟨HS.out.1.below hb2, HS.out.2.below hb2⟩)
    clear HS hB1 hb2
    have HS := HS1
    clear HS1
    refine hK _ _ (fun _ => HS.out) ?_
    clear hK K
    refine wpX_one 19 (by kernel_rfl) rfl (fun K hK => ?_)
    go_simp
    refine hK _ _ (fun _ => HS.out) ?_
    clear hK K
    refine wpX_one 20 (by kernel_rfl) rfl (fun K hK => ?_)
    go_simp
    refine hK _ _ (fun _ => HS.out) ?_
    clear hK K
    refine wpX_done (by kernel_rfl) ?_ _
    go_wp2
    go_ret
    exact ⟨rfl, hB2⟩

set_option maxHeartbeats 1000000 in
/-- The document's two watches are the same just if their lists are. -/
theorem rSame_any {w : World} {g1 k1 g2 k2 g3 k3 g4 k4 : Nat} {th pl th2 pl2 : List Ck} (h1 : RL w g1 k1 th) (h2 : RL w g2 k2 pl) (h3 : RL w g3 k3 th2) (h4 : RL w g4 k4 pl2) (hn : th.length ≤ 8) (hm : pl.length ≤ 65536) :
    Calls Tryd.prog 41 #[.agg #[.slice (some ⟨g1, 0, none⟩) th.length k1, .slice (some ⟨g2, 0, none⟩) pl.length k2], .agg #[.slice (some ⟨g3, 0, none⟩) th2.length k3, .slice (some ⟨g4, 0, none⟩) pl2.length k4]] w
      fun e w' => e = .returned (.bool (eqL th th2 && eqL pl pl2)) ∧ Below w.heap.size w w' := by
  have hA := (Bx.new w (.slice (some ⟨g1, 0, none⟩) th.length k1) (.slice (some ⟨g2, 0, none⟩) pl.length k2)).alloc (.cells #[.slice (some ⟨g3, 0, none⟩) th2.length k3, .slice (some ⟨g4, 0, none⟩) pl2.length k4] 41)
  have hC := Bx.new (w.alloc (.cells #[.slice (some ⟨g1, 0, none⟩) th.length k1, .slice (some ⟨g2, 0, none⟩) pl.length k2] 41)) (.slice (some ⟨g3, 0, none⟩) th2.length k3) (.slice (some ⟨g4, 0, none⟩) pl2.length k4)
  have hB : Below w.heap.size w ((w.alloc (.cells #[.slice (some ⟨g1, 0, none⟩) th.length k1, .slice (some ⟨g2, 0, none⟩) pl.length k2] 41)).alloc (.cells #[.slice (some ⟨g3, 0, none⟩) th2.length k3, .slice (some ⟨g4, 0, none⟩) pl2.length k4] 41)) := ((Below.refl _ w).alloc (Nat.le_refl _) _).alloc (by simp) _
  rw [World.size_alloc] at hC
  obtain ⟨q, hq⟩ : ∃ q, eqL th th2 = q := ⟨_, rfl⟩
  obtain ⟨r, hr⟩ : ∃ r, eqL pl pl2 = r := ⟨_, rfl⟩
  rw [hq, hr]
  have HQ := Lib.hid hq
  have HR := Lib.hid hr
  clear hq hr
  go_enter Tryd.func41, Tryd.ntmps41
  go_wp2_with fail
  change Calls _ _ _ ((w.alloc (.cells #[.slice (some ⟨g1, 0, none⟩) th.length k1, .slice (some ⟨g2, 0, none⟩) pl.length k2] 41)).alloc (.cells #[.slice (some ⟨g3, 0, none⟩) th2.length k3, .slice (some ⟨g4, 0, none⟩) pl2.length k4] 41)) _
  generalize (w.alloc (.cells #[.slice (some ⟨g1, 0, none⟩) th.length k1, .slice (some ⟨g2, 0, none⟩) pl.length k2] 41)).alloc (.cells #[.slice (some ⟨g3, 0, none⟩) th2.length k3, .slice (some ⟨g4, 0, none⟩) pl2.length k4] 41) = W0 at *
  refine (rsame_any (Nat.le_trans hn (by decide)) (h1.below hB h1.lt).2 (h3.below hB h3.lt).2).mono ?_
  rintro e w1 ⟨rfl, hb1⟩
  rw [HQ.out]
  have hA1 := hA.belowS hb1
  have hC1 := hC.belowS hb1
  have hB1 := hB.trans (hb1.mono hB.size)
  clear hA hC hB hb1
  cases q
  · go_wp2
    go_ret
    exact ⟨rfl, hB1⟩
  · have b0 := hA1.c1
    have b1 := hC1.c1
    go_wp2_with fail
    refine (rsame_any hm (h2.below hB1 h2.lt).2 (h4.below hB1 h4.lt).2).mono ?_
    rintro e w2 ⟨rfl, hb2⟩
    rw [HR.out]
    go_wp2
    go_ret
    exact ⟨rfl, hB1.trans (hb2.mono hB1.size)⟩

end Go.Proofs.YtnalpladieoegaaDoor
