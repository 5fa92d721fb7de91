/- The document's Check: may a module be. Asked: the module lies. -/
import Derived.Test.YtjbinejaagpleaaDoorRefL
namespace Go.Proofs.YtjbinejaagpleaaDoor
open Go.RowKit

def chkN (r : Bool) : Int := if r then 0 else 2
set_option maxRecDepth 100000 in
set_option maxHeartbeats 16000000 in
theorem rcheck_core {w : World} {va aa ca ta : Option Addr} {vcap acap ccap tcap nv na nc nt : Nat} {vars arrays chans : List Int} {mu co : Int} {threads : List CodeM}
    (hv : Ints w va vars) (ha : Ints w aa arrays) (hc : Ints w ca chans) (ht : Cds w ta threads) (hnv : vars.length = nv) (hna : arrays.length = na) (hnc : chans.length = nc) (hnt : threads.length = nt)
    (bv : nv ≤ 281474976710656) (ba : na ≤ 281474976710656) (bc : nc ≤ 281474976710656) (bt : nt ≤ 281474976710656) :
    Calls Tryd.prog 8 #[.agg #[.slice va nv vcap, .slice aa na acap, .slice ca nc ccap, .int .i64 mu, .int .i64 co, .slice ta nt tcap]] w fun e w' => e = .returned (.int .i64 (chkN (mMay ⟨va, vcap, vars, aa, acap, arrays, ca, ccap, chans, mu, co, ta, tcap, threads⟩))) ∧ Below w.heap.size w w' := by
  obtain ⟨R, hR⟩ : ∃ R, mMay ⟨va, vcap, vars, aa, acap, arrays, ca, ccap, chans, mu, co, ta, tcap, threads⟩ = R := ⟨_, rfl⟩
  rw [hR]
  have HR := Lib.hid hR
  clear hR
  have HS : Hid (Below w.heap.size w (w.alloc (.cells #[.slice va nv vcap, .slice aa na acap, .slice ca nc ccap, .int .i64 mu, .int .i64 co, .slice ta nt tcap] 27)) ∧ (w.alloc (.cells #[.slice va nv vcap, .slice aa na acap, .slice ca nc ccap, .int .i64 mu, .int .i64 co, .slice ta nt tcap] 27)).heap[w.heap.size]? = some (.cells #[.slice va nv vcap, .slice aa na acap, .slice ca nc ccap, .int .i64 mu, .int .i64 co, .slice ta nt tcap] 27 (0, 0))) := Lib.hid ⟨(Below.refl _ _).alloc (Nat.le_refl _) _, World.alloc_heap_new _ _⟩
  have HV := Lib.hid (And.intro hv hnv)
  have HA := Lib.hid (And.intro ha hna)
  have HC := Lib.hid (And.intro hc hnc)
  have HT := Lib.hid (And.intro ht hnt)
  have pm := rwithin_any mu 0 64
  have pc := rwithin_any co 0 64
  obtain ⟨rm, hrm⟩ : ∃ x, bMay 0 64 mu = x := ⟨_, rfl⟩
  obtain ⟨rc, hrc⟩ : ∃ x, bMay 0 64 co = x := ⟨_, rfl⟩
  rw [hrm] at pm
  rw [hrc] at pc
  have HM := Lib.hid hrm
  have HO := Lib.hid hrc
  clear hv ha hc ht hnv hna hnc hnt hrm hrc
  by_cases h1 : 64 < (nv : Int)
  · skip
    go_enter Tryd.func8, Tryd.ntmps8
    go_wp2
    go_ret
    have hr : R = false := by
      rw [← HR.out]
      simp only [mMay, vOk, HV.out.2]
      rw [decide_eq_false (show ¬ nv ≤ 64 by omega)]
      simp
    exact ⟨by rw [hr]; rfl, HS.out.1⟩
  by_cases h2 : 64 < (na : Int)
  · skip
    go_enter Tryd.func8, Tryd.ntmps8
    go_wp2
    go_ret
    have hr : R = false := by
      rw [← HR.out]
      simp only [mMay, aOk, HA.out.2]
      rw [decide_eq_false (show ¬ na ≤ 64 by omega)]
      simp
    exact ⟨by rw [hr]; rfl, HS.out.1⟩
  by_cases h3 : 64 < (nc : Int)
  · skip
    go_enter Tryd.func8, Tryd.ntmps8
    go_wp2
    go_ret
    have hr : R = false := by
      rw [← HR.out]
      simp only [mMay, cOk, HC.out.2]
      rw [decide_eq_false (show ¬ nc ≤ 64 by omega)]
      simp
    exact ⟨by rw [hr]; rfl, HS.out.1⟩
  by_cases h4 : 64 < (nt : Int)
  · skip
    go_enter Tryd.func8, Tryd.ntmps8
    go_wp2
    go_ret
    have hr : R = false := by
      rw [← HR.out]
      simp only [mMay, tOk, HT.out.2]
      rw [decide_eq_false (show ¬ nt ≤ 64 by omega)]
      simp
    exact ⟨by rw [hr]; rfl, HS.out.1⟩
  cases rm with
  | false =>
    go_enter Tryd.func8, Tryd.ntmps8
    go_wp2_with fail
    refine (pm _).mono ?_
    rintro e w1 ⟨rfl, rfl⟩
    go_wp2
    go_ret
    have hr : R = false := by
      rw [← HR.out]
      simp [mMay, HM.out]
    exact ⟨by rw [hr]; rfl, HS.out.1⟩
  | true =>
  cases rc with
  | false =>
    go_enter Tryd.func8, Tryd.ntmps8
    go_wp2_with fail
    refine (pm _).mono ?_
    rintro e w1 ⟨rfl, rfl⟩
    go_wp2_with fail
    refine (pc _).mono ?_
    rintro e w1 ⟨rfl, rfl⟩
    go_wp2
    go_ret
    have hr : R = false := by
      rw [← HR.out]
      simp [mMay, HO.out]
    exact ⟨by rw [hr]; rfl, HS.out.1⟩
  | true =>
  go_enter Tryd.func8, Tryd.ntmps8
  go_wp2_with fail
  refine (pm _).mono ?_
  rintro e w1 ⟨rfl, rfl⟩
  go_wp2_with fail
  refine (pc _).mono ?_
  rintro e w1 ⟨rfl, rfl⟩
  generalize w.alloc (.cells #[.slice va nv vcap, .slice aa na acap, .slice ca nc ccap, .int .i64 mu, .int .i64 co, .slice ta nt tcap] 27) = W0 at *
  clear pm pc
  have c1 := cell_blk (k := 0) HS.out.2 rfl
  go_wp2_with fail
  go_loopw [3] (fun x wr => ∃ k : Nat, k ≤ nv ∧ x = .int .i64 k ∧ Hid (∀ j, j < k → vMay (vars.getD j 0) = true) ∧ Hid (Below w.heap.size w wr ∧ wr.heap[w.heap.size]? = some (.cells #[.slice va nv vcap, .slice aa na acap, .slice ca nc ccap, .int .i64 mu, .int .i64 co, .slice ta nt tcap] 27 (0, 0)))) (fun x _ => nv - (intOf x).toNat)
  case atStart => exact ⟨0, Nat.zero_le _, rfl, Lib.hid (fun j hj => by omega), HS⟩
  case round =>
    clear HS c1
    obtain ⟨k, hk, rfl, HJ, HS⟩ := hrel
    have r0 := cell_blk (k := 0) HS.out.2 rfl
    by_cases hkn : k < nv
    · skip
      have hki : (k : Int) < (nv : Int) := by omega
      obtain ⟨b1, o1, rfl, y0⟩ := (HV.out.1.below HS.out.1 (Nat.le_refl _)) k (by rw [HV.out.2]; exact hkn)
      have pl := rwithin_any (vars.getD k 0) (-2147483648) 2147483647 wr
      obtain ⟨y, hy⟩ : ∃ y, vars.getD k 0 = y := ⟨_, rfl⟩
      rw [hy] at y0 pl
      obtain ⟨s1, hs1⟩ : ∃ s, bMay (-2147483648) 2147483647 y = s := ⟨_, rfl⟩
      rw [hs1] at pl
      have HY := Lib.hid (And.intro hy (show vMay y = s1 from hs1))
      clear hy hs1
      go_wp2_with fail
      refine pl.mono ?_
      rintro e w3 ⟨rfl, rfl⟩
      cases s1 with
      | false =>
        go_wp2
        go_ret
        have hr : R = false := by
          rw [← HR.out]
          have hn := not_all (l := vars) (p := vMay) (d := 0) (j := k) (by rw [HV.out.2]; exact hkn) (by rw [HY.out.1]; exact HY.out.2)
          simp [mMay, vOk, hn]
        exact ⟨by rw [hr]; rfl, HS.out.1⟩
      | true =>
        go_wp2
        case roundEnd =>
          refine ⟨⟨k + 1, by omega, by go_num, Lib.hid (fun j hj => ?_), HS⟩, by simp [intOf]; omega⟩
          rcases Nat.lt_or_ge j k with h | h
          · exact HJ.out j h
          · obtain rfl : j = k := by omega
            rw [HY.out.1]
            exact HY.out.2
    · skip
      have A1 : Hid (vars.all vMay = true) := Lib.hid (all_of (d := 0) (fun j hj => HJ.out j (by have := HV.out.2; omega)))
      obtain rfl : nv = k := by omega
      clear HJ hkn
      have c2 := cell_blk (k := 1) HS.out.2 rfl
      go_wp2_with fail
      clear r0
      go_loopw [4] (fun x wr => ∃ k : Nat, k ≤ na ∧ x = .int .i64 k ∧ Hid (∀ j, j < k → (bMay 0 256) (arrays.getD j 0) = true) ∧ Hid (Below w.heap.size w wr ∧ wr.heap[w.heap.size]? = some (.cells #[.slice va nv vcap, .slice aa na acap, .slice ca nc ccap, .int .i64 mu, .int .i64 co, .slice ta nt tcap] 27 (0, 0)))) (fun x _ => na - (intOf x).toNat)
      case atStart => exact ⟨0, Nat.zero_le _, rfl, Lib.hid (fun j hj => by omega), HS⟩
      case round =>
        clear HS c2
        obtain ⟨k, hk, rfl, HJ, HS⟩ := hrel
        have r0 := cell_blk (k := 1) HS.out.2 rfl
        by_cases hkn : k < na
        · skip
          have hki : (k : Int) < (na : Int) := by omega
          obtain ⟨b1, o1, rfl, y0⟩ := (HA.out.1.below HS.out.1 (Nat.le_refl _)) k (by rw [HA.out.2]; exact hkn)
          have pl := rwithin_any (arrays.getD k 0) 0 256 wr
          obtain ⟨y, hy⟩ : ∃ y, arrays.getD k 0 = y := ⟨_, rfl⟩
          rw [hy] at y0 pl
          obtain ⟨s1, hs1⟩ : ∃ s, bMay 0 256 y = s := ⟨_, rfl⟩
          rw [hs1] at pl
          have HY := Lib.hid (And.intro hy (show (bMay 0 256) y = s1 from hs1))
          clear hy hs1
          go_wp2_with fail
          refine pl.mono ?_
          rintro e w3 ⟨rfl, rfl⟩
          cases s1 with
          | false =>
            go_wp2
            go_ret
            have hr : R = false := by
              rw [← HR.out]
              have hn := not_all (l := arrays) (p := (bMay 0 256)) (d := 0) (j := k) (by rw [HA.out.2]; exact hkn) (by rw [HY.out.1]; exact HY.out.2)
              simp [mMay, aOk, hn]
            exact ⟨by rw [hr]; rfl, HS.out.1⟩
          | true =>
            go_wp2
            case roundEnd =>
              refine ⟨⟨k + 1, by omega, by go_num, Lib.hid (fun j hj => ?_), HS⟩, by simp [intOf]; omega⟩
              rcases Nat.lt_or_ge j k with h | h
              · exact HJ.out j h
              · obtain rfl : j = k := by omega
                rw [HY.out.1]
                exact HY.out.2
        · skip
          have A2 : Hid (arrays.all (bMay 0 256) = true) := Lib.hid (all_of (d := 0) (fun j hj => HJ.out j (by have := HA.out.2; omega)))
          obtain rfl : na = k := by omega
          clear HJ hkn
          have c3 := cell_blk (k := 2) HS.out.2 rfl
          go_wp2_with fail
          clear r0
          go_loopw [5] (fun x wr => ∃ k : Nat, k ≤ nc ∧ x = .int .i64 k ∧ Hid (∀ j, j < k → (bMay 1 16) (chans.getD j 0) = true) ∧ Hid (Below w.heap.size w wr ∧ wr.heap[w.heap.size]? = some (.cells #[.slice va nv vcap, .slice aa na acap, .slice ca nc ccap, .int .i64 mu, .int .i64 co, .slice ta nt tcap] 27 (0, 0)))) (fun x _ => nc - (intOf x).toNat)
          case atStart => exact ⟨0, Nat.zero_le _, rfl, Lib.hid (fun j hj => by omega), HS⟩
          case round =>
            clear HS c3
            obtain ⟨k, hk, rfl, HJ, HS⟩ := hrel
            have r0 := cell_blk (k := 2) HS.out.2 rfl
            by_cases hkn : k < nc
            · skip
              have hki : (k : Int) < (nc : Int) := by omega
              obtain ⟨b1, o1, rfl, y0⟩ := (HC.out.1.below HS.out.1 (Nat.le_refl _)) k (by rw [HC.out.2]; exact hkn)
              have pl := rwithin_any (chans.getD k 0) 1 16 wr
              obtain ⟨y, hy⟩ : ∃ y, chans.getD k 0 = y := ⟨_, rfl⟩
              rw [hy] at y0 pl
              obtain ⟨s1, hs1⟩ : ∃ s, bMay 1 16 y = s := ⟨_, rfl⟩
              rw [hs1] at pl
              have HY := Lib.hid (And.intro hy (show (bMay 1 16) y = s1 from hs1))
              clear hy hs1
              go_wp2_with fail
              refine pl.mono ?_
              rintro e w3 ⟨rfl, rfl⟩
              cases s1 with
              | false =>
                go_wp2
                go_ret
                have hr : R = false := by
                  rw [← HR.out]
                  have hn := not_all (l := chans) (p := (bMay 1 16)) (d := 0) (j := k) (by rw [HC.out.2]; exact hkn) (by rw [HY.out.1]; exact HY.out.2)
                  simp [mMay, cOk, hn]
                exact ⟨by rw [hr]; rfl, HS.out.1⟩
              | true =>
                go_wp2
                case roundEnd =>
                  refine ⟨⟨k + 1, by omega, by go_num, Lib.hid (fun j hj => ?_), HS⟩, by simp [intOf]; omega⟩
                  rcases Nat.lt_or_ge j k with h | h
                  · exact HJ.out j h
                  · obtain rfl : j = k := by omega
                    rw [HY.out.1]
                    exact HY.out.2
            · skip
              have A3 : Hid (chans.all (bMay 1 16) = true) := Lib.hid (all_of (d := 0) (fun j hj => HJ.out j (by have := HC.out.2; omega)))
              obtain rfl : nc = k := by omega
              clear HJ hkn
              have c4 := cell_blk (k := 5) HS.out.2 rfl
              go_wp2_with fail
              clear r0
              go_loopw [6] (fun x wr => ∃ k : Nat, k ≤ nt ∧ x = .int .i64 k ∧ Hid (∀ j, j < k → tMay (threads.getD j default) = true) ∧ Hid (Below w.heap.size w wr ∧ wr.heap[w.heap.size]? = some (.cells #[.slice va nv vcap, .slice aa na acap, .slice ca nc ccap, .int .i64 mu, .int .i64 co, .slice ta nt tcap] 27 (0, 0)))) (fun x _ => nt - (intOf x).toNat)
              case atStart => exact ⟨0, Nat.zero_le _, rfl, Lib.hid (fun j hj => by omega), HS⟩
              case round =>
                clear HS c4
                obtain ⟨k, hk, rfl, HJ, HS⟩ := hrel
                have r0 := cell_blk (k := 5) HS.out.2 rfl
                by_cases hkn : k < nt
                · skip
                  have hki : (k : Int) < (nt : Int) := by omega
                  obtain ⟨b1, o1, rfl, y0, y1, y2, y3, hok⟩ := (HT.out.1.below HS.out.1 (Nat.le_refl _)) k (by rw [HT.out.2]; exact hkn)
                  obtain ⟨y, hy⟩ : ∃ y, threads.getD k default = y := ⟨_, rfl⟩
                  rw [hy] at y0 y1 y2 y3 hok
                  have pl := mcode_core (lo := y.locals) (icap := y.icap) (lcap := y.lcap) (w := wr) rfl rfl hok.ib hok.lb hok.ni hok.ii hok.ll
                  obtain ⟨s1, hs1⟩ : ∃ s, tMay y = s := ⟨_, rfl⟩
                  have HY := Lib.hid (And.intro hy hs1)
                  obtain ⟨nm, lo, ia, icap, is, la, lcap, ls⟩ := y
                  dsimp only at y0 y1 y2 y3 pl
                  rw [hs1] at pl
                  clear hy hs1 hok
                  go_wp2_with fail
                  refine pl.mono ?_
                  rintro e w3 ⟨rfl, hb3⟩
                  have HS3 : Hid (Below w.heap.size w w3 ∧ w3.heap[w.heap.size]? = _) := Lib.hid ⟨HS.out.1.trans (hb3.mono HS.out.1.size), (hb3.block _ (Array.getElem?_eq_some_iff.1 HS.out.2).1).trans HS.out.2⟩
                  clear pl hb3 y0 y1 y2 y3 r0 HS
                  cases s1 with
                  | false =>
                    go_wp2
                    go_ret
                    have hr : R = false := by
                      rw [← HR.out]
                      have hn := not_all (l := threads) (p := tMay) (d := default) (j := k) (by rw [HT.out.2]; exact hkn) (by rw [HY.out.1]; exact HY.out.2)
                      simp [mMay, tOk, hn]
                    exact ⟨by rw [hr]; rfl, HS3.out.1⟩
                  | true =>
                    go_wp2
                    case roundEnd =>
                      refine ⟨⟨k + 1, by omega, by go_num, Lib.hid (fun j hj => ?_), HS3⟩, by simp [intOf]; omega⟩
                      rcases Nat.lt_or_ge j k with h | h
                      · exact HJ.out j h
                      · obtain rfl : j = k := by omega
                        rw [HY.out.1]
                        exact HY.out.2
                · skip
                  have A4 : Hid (threads.all tMay = true) := Lib.hid (all_of (d := default) (fun j hj => HJ.out j (by have := HT.out.2; omega)))
                  obtain rfl : nt = k := by omega
                  clear HJ hkn
                  go_wp2
                  go_ret
                  have hr : R = true := by
                    rw [← HR.out]
                    have e1 := HV.out.2
                    have e2 := HA.out.2
                    have e3 := HC.out.2
                    have e4 := HT.out.2
                    simp only [mMay, vOk, aOk, cOk, tOk, HM.out, HO.out, A1.out, A2.out, A3.out, A4.out]
                    rw [decide_eq_true (show vars.length ≤ 64 by omega), decide_eq_true (show arrays.length ≤ 64 by omega), decide_eq_true (show chans.length ≤ 64 by omega), decide_eq_true (show threads.length ≤ 64 by omega)]
                    rfl
                  exact ⟨by rw [hr]; rfl, HS.out.1⟩
theorem rcheck_any {w : World} {m : ModM} (h : ModOk w m) : Calls Tryd.prog 8 #[.agg m.cells] w fun e w' => e = .returned (.int .i64 (chkN (mMay m))) ∧ Below w.heap.size w w' :=
  rcheck_core h.vv h.av h.cv h.tv rfl rfl rfl rfl h.vb h.ab h.cb h.tb
end Go.Proofs.YtjbinejaagpleaaDoor
