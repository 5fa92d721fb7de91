/- How deep parts may be, and one more. Asked: the program's tables are laid. -/
import Derived.Test.YtjmlmelcppbefaaGreatDoorT46
import Derived.Test.YtjmlmelcppbefaaGreatDoorT38
import Derived.Test.YtjmlmelcppbefaaGreatDoorU1
namespace Go.Proofs.YtjmlmelcppbefaaGreatDoor
open Go.RowKit Go.Maps

def dIf : Nat → ByteArray
  | 0 => ⟨#[116, 104, 114, 101, 97, 100, 32, 116, 32, 123, 10]⟩
  | k + 1 => dIf k ++ ⟨#[105, 102, 32, 49, 32, 123, 10]⟩
def dSg (s : ByteArray) : Nat → ByteArray
  | 0 => s
  | k + 1 => dSg s k ++ ⟨#[45]⟩
def dCl (s : ByteArray) : Nat → ByteArray
  | 0 => s
  | k + 1 => dCl s k ++ ⟨#[125]⟩
def dPar : ByteArray := ⟨#[40, 40, 40, 40, 40, 40, 40, 40, 40, 40, 40, 40, 40, 40, 40, 40, 40, 40, 40, 40, 40, 40, 40, 40, 40, 40, 40, 40, 40, 40, 40, 49, 41, 41, 41, 41, 41, 41, 41, 41, 41, 41, 41, 41, 41, 41, 41, 41, 41, 41, 41, 41, 41, 41, 41, 41, 41, 41, 41, 41, 41, 41, 41, 59]⟩
theorem app_list (a b : ByteArray) : (a ++ b).data.toList = a.data.toList ++ b.data.toList := by rw [ByteArray.data_append, Array.toList_append]
theorem dIf_list : ∀ k, (dIf k).data.toList = [116, 104, 114, 101, 97, 100, 32, 116, 32, 123, 10] ++ (List.replicate k ifB).flatten
  | 0 => by simp [dIf]
  | k + 1 => by
    rw [dIf, app_list, dIf_list k, List.replicate_succ', List.flatten_append]
    simp [ifB]
theorem dSg_list (s : ByteArray) : ∀ k, (dSg s k).data.toList = s.data.toList ++ List.replicate k 45
  | 0 => by simp [dSg]
  | k + 1 => by
    rw [dSg, app_list, dSg_list s k, List.replicate_succ']
    simp
theorem dCl_list (s : ByteArray) : ∀ k, (dCl s k).data.toList = s.data.toList ++ List.replicate k 125
  | 0 => by simp [dCl]
  | k + 1 => by
    rw [dCl, app_list, dCl_list s k, List.replicate_succ']
    simp
theorem stB_flat (m : Nat) : ∀ n, stB m n = (List.replicate n ifB).flatten ++ (stB m 0 ++ List.replicate n 125)
  | 0 => by simp
  | n + 1 => by
    show ifB ++ (stB m n ++ [125]) = _
    rw [stB_flat m n, List.replicate_succ, List.flatten_cons, List.replicate_succ']
    simp
theorem deep_list (m n : Nat) : (dCl (dSg (dIf n ++ ⟨#[112, 114, 105, 110, 116, 32]⟩) m ++ dPar) (n + 1)).data.toList = deepB m n := by
  rw [dCl_list, app_list, dSg_list, app_list, dIf_list, deepB, stB_flat, List.replicate_succ']
  rw [show dPar.data.toList = parB 31 ++ [59] from by decide]
  simp [stB, exB]
theorem sz_list (s : ByteArray) : s.size = s.data.toList.length := Array.length_toList.symm
theorem flat_len (k : Nat) : ((List.replicate k ifB).flatten).length = 7 * k := by
  induction k with
  | zero => rfl
  | succ k ih => rw [List.replicate_succ, List.flatten_cons, List.length_append, ih, show ifB.length = 7 from rfl]; omega
theorem dIf_size (k : Nat) : (dIf k).size = 11 + 7 * k := by rw [sz_list, dIf_list, List.length_append, flat_len]; rfl
theorem dSg_size (s : ByteArray) (k : Nat) : (dSg s k).size = s.size + k := by rw [sz_list, dSg_list, List.length_append, List.length_replicate, ← sz_list]
theorem dCl_size (s : ByteArray) (k : Nat) : (dCl s k).size = s.size + k := by rw [sz_list, dCl_list, List.length_append, List.length_replicate, ← sz_list]
theorem i64w {k : Nat} (h : k ≤ 100) : Go.RowKit.wrap64 ((k : Int) + 1) = (k : Int) + 1 := by
  rw [← IntWalk.i64_left, IntWalk.i64_in _ (by omega)]
theorem ap_size (a b : ByteArray) : (a ++ b).size = a.size + b.size := by rw [sz_list, app_list, List.length_append, ← sz_list, ← sz_list]

set_option maxRecDepth 100000 in
set_option maxHeartbeats 16000000 in
theorem lawDeep_any (zm zn : Int) (w : World) (hW : Wf w) : Calls Tryz.prog 7 #[.int .i64 zm, .int .i64 zn] w (Tru w) := by
  have hout : (zm < 0 ∨ ¬ zm < 0 ∧ 60 < zm ∨ (¬ zm < 0 ∧ ¬ 60 < zm ∧ zn < 0) ∨ (¬ zm < 0 ∧ ¬ 60 < zm ∧ ¬ zn < 0 ∧ 60 < zn)) ∨ ∃ m n : Nat, zm = m ∧ zn = n ∧ m ≤ 60 ∧ n ≤ 60 := by
    by_cases h1 : zm < 0
    · exact .inl (.inl h1)
    by_cases h2 : 60 < zm
    · exact .inl (.inr (.inl ⟨h1, h2⟩))
    by_cases h3 : zn < 0
    · exact .inl (.inr (.inr (.inl ⟨h1, h2, h3⟩)))
    by_cases h4 : 60 < zn
    · exact .inl (.inr (.inr (.inr ⟨h1, h2, h3, h4⟩)))
    · exact .inr ⟨zm.toNat, zn.toNat, by omega, by omega, by omega, by omega⟩
  rcases hout with hout | ⟨m, n, rfl, rfl, hm60, hn60⟩
  · rcases hout with h1 | ⟨h1, h2⟩ | ⟨h1, h2, h3⟩ | ⟨h1, h2, h3, h4⟩
    · go_enter Tryz.func7, Tryz.ntmps7
      go_wp2_with fail
      refine (works_any w hW).mono ?_
      rintro e w1 ⟨rfl, hb1⟩
      go_wp2
      go_ret
      exact ⟨rfl, hb1⟩
    · go_enter Tryz.func7, Tryz.ntmps7
      go_wp2_with fail
      refine (works_any w hW).mono ?_
      rintro e w1 ⟨rfl, hb1⟩
      go_wp2
      go_ret
      exact ⟨rfl, hb1⟩
    · go_enter Tryz.func7, Tryz.ntmps7
      go_wp2_with fail
      refine (works_any w hW).mono ?_
      rintro e w1 ⟨rfl, hb1⟩
      go_wp2
      go_ret
      exact ⟨rfl, hb1⟩
    · go_enter Tryz.func7, Tryz.ntmps7
      go_wp2_with fail
      refine (works_any w hW).mono ?_
      rintro e w1 ⟨rfl, hb1⟩
      go_wp2
      go_ret
      exact ⟨rfl, hb1⟩
  · have HS := Lib.hid (And.intro hm60 hn60)
    have hi1 : ¬ (m : Int) < 0 := by omega
    have hi2 : ¬ (60 : Int) < (m : Int) := by omega
    have hi3 : ¬ (n : Int) < 0 := by omega
    have hi4 : ¬ (60 : Int) < (n : Int) := by omega
    have hcase : (parseR (dCl (dSg (dIf n ++ ⟨#[112, 114, 105, 110, 116, 32]⟩) m ++ dPar) (n + 1))).2.2 = 0 ↔ (m ≤ 23 ∧ n ≤ 23) := deep_read (deep_list m n) (by
      rw [dCl_size, ap_size, dSg_size, ap_size, dIf_size, show dPar.size = 64 from rfl, show (⟨#[112, 114, 105, 110, 116, 32]⟩ : ByteArray).size = 6 from rfl]
      omega)
    have HCA := Lib.hid hcase
    clear hm60 hn60 hcase
    go_enter Tryz.func7, Tryz.ntmps7
    go_wp2_with fail
    clear hi1 hi2 hi3 hi4
    go_loopw [5, 6] (fun t i wr => ∃ k : Nat, k ≤ n ∧ i = .int .i64 k ∧ t = .string (dIf k) ∧ w = wr) (fun _ i _ => n - (intOf i).toNat)
    case atStart => exact ⟨0, Nat.zero_le _, rfl, rfl, rfl⟩
    case round =>
      obtain ⟨k, hk, rfl, rfl, rfl⟩ := hrel
      by_cases hkn : k < n
      · have hp1 : (k : Int) < (n : Int) := by omega
        have hz : ¬ 9223372036854775807 < (dIf k).size + 7 := by rw [dIf_size]; have := HS.out; omega
        go_wp2
        go_roundw
        case rel => exact ⟨k + 1, by omega, by rw [i64w (by have := HS.out; omega)]; go_num, rfl, trivial⟩
        case measure => rw [i64w (by have := HS.out; omega)]; simp [intOf]; omega
      · obtain rfl : k = n := by omega
        have hp1 : ¬ (k : Int) < (k : Int) := by omega
        have hz : ¬ 9223372036854775807 < (dIf k).size + 6 := by rw [dIf_size]; have := HS.out; omega
        go_wp2_with fail
        clear hz hp1
        obtain ⟨S1, hS1⟩ : ∃ S, (dIf k ++ ⟨#[112, 114, 105, 110, 116, 32]⟩) = S := ⟨_, rfl⟩
        have hz1 : S1.size = 17 + 7 * k := by rw [← hS1, ap_size, dIf_size]; show 11 + 7 * k + 6 = _; omega
        rw [hS1] at HCA ⊢
        have HZ1 := Lib.hid hz1
        clear hS1 hz1
        go_loopw [5, 7] (fun t i wr => ∃ j : Nat, j ≤ m ∧ i = .int .i64 j ∧ t = .string (dSg S1 j) ∧ w = wr) (fun _ i _ => m - (intOf i).toNat)
        case atStart => exact ⟨0, Nat.zero_le _, rfl, rfl, rfl⟩
        case round =>
          obtain ⟨j, hj, rfl, rfl, rfl⟩ := hrel
          by_cases hjm : j < m
          · have hp1 : (j : Int) < (m : Int) := by omega
            have hz : ¬ 9223372036854775807 < (dSg S1 j).size + 1 := by rw [dSg_size, HZ1.out]; have := HS.out; omega
            go_wp2
            go_roundw
            case rel => exact ⟨j + 1, by omega, by rw [i64w (by have := HS.out; omega)]; go_num, rfl, trivial⟩
            case measure => rw [i64w (by have := HS.out; omega)]; simp [intOf]; omega
          · obtain rfl : j = m := by omega
            have hp1 : ¬ (j : Int) < (j : Int) := by omega
            have hz : ¬ 9223372036854775807 < (dSg S1 j).size + 64 := by rw [dSg_size, HZ1.out]; have := HS.out; omega
            go_wp2_with fail
            clear hz hp1
            obtain ⟨S2, hS2⟩ : ∃ S, (dSg S1 j ++ dPar) = S := ⟨_, rfl⟩
            have hz2 : S2.size = 81 + 7 * k + j := by rw [← hS2, ap_size, dSg_size, HZ1.out]; show 17 + 7 * k + j + 64 = _; omega
            rw [show (⟨#[40, 40, 40, 40, 40, 40, 40, 40, 40, 40, 40, 40, 40, 40, 40, 40, 40, 40, 40, 40, 40, 40, 40, 40, 40, 40, 40, 40, 40, 40, 40, 49, 41, 41, 41, 41, 41, 41, 41, 41, 41, 41, 41, 41, 41, 41, 41, 41, 41, 41, 41, 41, 41, 41, 41, 41, 41, 41, 41, 41, 41, 41, 41, 59]⟩ : ByteArray) = dPar from rfl, hS2]
            rw [hS2] at HCA
            have HZ2 := Lib.hid hz2
            clear hS2 hz2 HZ1
            go_loopw [5, 8] (fun t i wr => ∃ q : Nat, q ≤ k + 1 ∧ i = .int .i64 q ∧ t = .string (dCl S2 q) ∧ w = wr) (fun _ i _ => k + 1 - (intOf i).toNat)
            case atStart => exact ⟨0, Nat.zero_le _, rfl, rfl, rfl⟩
            case round =>
              obtain ⟨q, hq, rfl, rfl, rfl⟩ := hrel
              by_cases hqn : q ≤ k
              · have hp1 : (q : Int) ≤ (k : Int) := by omega
                have hz : ¬ 9223372036854775807 < (dCl S2 q).size + 1 := by rw [dCl_size, HZ2.out]; have := HS.out; omega
                go_wp2
                go_roundw
                case rel => exact ⟨q + 1, by omega, by rw [i64w (by have := HS.out; omega)]; go_num, rfl, trivial⟩
                case measure => rw [i64w (by have := HS.out; omega)]; simp [intOf]; omega
              · obtain rfl : q = k + 1 := by omega
                have hp1 : ¬ ((k + 1 : Nat) : Int) ≤ (k : Int) := by omega
                have hcase := HCA.out
                obtain ⟨S, hS⟩ : ∃ S, dCl S2 (k + 1) = S := ⟨_, rfl⟩
                rw [hS] at hcase ⊢
                clear HCA HZ2 hS
                have c1 := parse_any S w hW.e hW.o
                have c2 := fun v => rparse_any S v
                generalize parseR S = R at c1 c2 hcase
                obtain ⟨l, ⟨x, y⟩, er⟩ := R
                dsimp only at hcase
                have HC := Lib.hid hcase
                clear hcase
                go_wp2_with fail
                refine c1.mono ?_
                rintro e w1 ⟨hb1, a, cap, rfl, hroom, hds⟩
                dsimp only at hroom hds ⊢
                clear c1
                have hds1 : DesL (fun _ => True) w1 a l := hds.weak (fun _ _ => trivial)
                have hA : Blk (w1.alloc (.cells #[.int .i64 x, .int .i64 y] 25)) w1.heap.size 25 [.int .i64 x, .int .i64 y] := Blk.new w1 25 _
                have hBA : Below w1.heap.size w1 (w1.alloc (.cells #[.int .i64 x, .int .i64 y] 25)) := (Below.refl _ w1).alloc (Nat.le_refl _) _
                have hB2 := hb1.trans (hBA.mono hb1.size)
                have hds2 := hds1.below hBA
                clear hb1 hBA hds1 hds
                have HX := Lib.hid (And.intro hA (And.intro hB2 hds2))
                clear hA hB2 hds2
                go_wp2_with fail
                obtain ⟨hA, hB2, hds2⟩ := HX.out
                clear HX
                change Calls _ _ _ (w1.alloc (.cells #[.int .i64 x, .int .i64 y] 25)) _
                obtain ⟨ba, hba⟩ : ∃ ba, w1.heap.size = ba := ⟨_, rfl⟩
                rw [hba] at hA ⊢
                clear hba
                generalize w1.alloc (.cells #[.int .i64 x, .int .i64 y] 25) = wA at *
                refine (c2 _).mono ?_
                rintro e w2 ⟨hb2, a2, cap2, rfl, hroom2, hds3⟩
                dsimp only at hroom2 hds3 ⊢
                clear c2
                have hds4 : DesL (fun _ => True) w2 a2 l := hds3.weak (fun _ _ => trivial)
                have hC : Blk (w2.alloc (.cells #[.int .i64 x, .int .i64 y] 25)) w2.heap.size 25 [.int .i64 x, .int .i64 y] := Blk.new w2 25 _
                have hBC : Below w2.heap.size w2 (w2.alloc (.cells #[.int .i64 x, .int .i64 y] 25)) := (Below.refl _ w2).alloc (Nat.le_refl _) _
                have hb3 := hb2.trans (hBC.mono hb2.size)
                have hA3 := hA.below hb3
                have hds5 := hds4.below hBC
                have hds6 := hds2.below hb3
                have hB3 := hB2.trans (hb3.mono hB2.size)
                have HX := Lib.hid (And.intro hA3 (And.intro hC (And.intro hds5 (And.intro hds6 hB3))))
                clear hds4 hds3 hA hB2 hds2 hb2 hBC hb3 hA3 hC hds5 hds6 hB3
                have HRM := Lib.hid (And.intro hroom hroom2)
                clear hroom hroom2
                go_wp2_with fail
                obtain ⟨hA, hC, hds5, hds6, hB3⟩ := HX.out
                clear HX
                change Calls _ _ _ (w2.alloc (.cells #[.int .i64 x, .int .i64 y] 25)) _
                obtain ⟨bc, hbc⟩ : ∃ bc, w2.heap.size = bc := ⟨_, rfl⟩
                rw [hbc] at hC ⊢
                clear hbc
                generalize w2.alloc (.cells #[.int .i64 x, .int .i64 y] 25) = W at *
                have c3 := rsame2_any true l l a a2 cap cap2 W HRM.out.1 HRM.out.2 hds6 hds5
                rw [desS_refl] at c3
                refine c3.mono ?_
                rintro e w3 ⟨rfl, hb3⟩
                clear c3 hds5 hds6 HRM
                have hA4 := hA.below hb3
                have hC4 := hC.below hb3
                have hB4 := hB3.trans (hb3.mono hB3.size)
                have a0 := hA4.cell 0
                have a1 := hA4.cell 1
                have b0 := hC4.cell 0
                have b1 := hC4.cell 1
                simp only [List.getElem?_cons_zero, List.getElem?_cons_succ] at a0 a1 b0 b1
                clear hA4 hC4 hA hC hB3 hb3
                have q1 := eqp_any x y x y
                simp only [beq_self_eq_true, Bool.and_self] at q1
                have HW4 := Lib.hid (hW.below hB4)
                have HB4 := Lib.hid hB4
                clear hW hB4
                have hcase2 : (er = 0 ∧ (j : Int) ≤ 23 ∧ (k : Int) ≤ 23) ∨ ((¬ er = 0) ∧ ¬ (j : Int) ≤ 23) ∨ ((¬ er = 0) ∧ (j : Int) ≤ 23 ∧ ¬ (k : Int) ≤ 23) := by have := HC.out; omega
                clear HC
                rcases hcase2 with ⟨he, hm23, hn23⟩ | ⟨he, hm23⟩ | ⟨he, hm23, hn23⟩
                · subst he
                  clear HS
                  go_wp2_with (go_at_call 19; refine (num_any _ _).mono ?_; rintro e w' ⟨rfl, rfl⟩)
                  refine (works_any w3 HW4.out).mono ?_
                  rintro e w4 ⟨rfl, hb5⟩
                  have hB5 := HB4.out.trans (hb5.mono HB4.out.size)
                  go_wp2
                  go_ret
                  exact ⟨rfl, hB5⟩
                · have he2 : (er == 0) = false := by simpa using he
                  clear HS he
                  go_wp2_with (go_at_call 19; refine (num_any _ _).mono ?_; rintro e w' ⟨rfl, rfl⟩)
                  refine (works_any w3 HW4.out).mono ?_
                  rintro e w4 ⟨rfl, hb5⟩
                  have hB5 := HB4.out.trans (hb5.mono HB4.out.size)
                  go_wp2
                  go_ret
                  exact ⟨by first | rfl | simp [he2], hB5⟩
                · have he2 : (er == 0) = false := by simpa using he
                  clear HS he
                  go_wp2_with (go_at_call 19; refine (num_any _ _).mono ?_; rintro e w' ⟨rfl, rfl⟩)
                  refine (works_any w3 HW4.out).mono ?_
                  rintro e w4 ⟨rfl, hb5⟩
                  have hB5 := HB4.out.trans (hb5.mono HB4.out.size)
                  go_wp2
                  go_ret
                  exact ⟨by simp; omega, hB5⟩
end Go.Proofs.YtjmlmelcppbefaaGreatDoor
