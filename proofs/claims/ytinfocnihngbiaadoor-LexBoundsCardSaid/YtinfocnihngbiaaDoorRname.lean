/- Is a text a name, by the document. No condition but its size. -/
import Derived.Test.YtinfocnihngbiaaDoorName
namespace Go.Proofs.YtinfocnihngbiaaDoor
open Go.RowKit

set_option maxRecDepth 100000 in
set_option maxHeartbeats 4000000 in
theorem rname_any (s : ByteArray) (w : World) (hs : s.size ≤ 4294967296) : Calls Tryd.prog 20 #[.string s] w fun e w' => e = .returned (.bool (isName s)) ∧ Below w.heap.size w w' := by
  by_cases h0 : s.size = 0
  · have h0i : (s.size : Int) < 1 := by omega
    rw [show isName s = false by unfold isName; rw [decide_eq_false (by omega)]; rfl]
    clear h0
    go_enter Tryd.func20, Tryd.ntmps20
    go_wp2
    go_ret
    exact ⟨rfl, Below.refl _ _⟩
  · have hpos : 0 < s.size := by omega
    have h0i : ¬ (s.size : Int) < 1 := by omega
    by_cases h16 : s.size ≤ 16
    · have h16i : ¬ (16 : Int) < (s.size : Int) := by omega
      have hz0 : (0 : Int) < (s.size : Int) := by omega
      have hb0 := byte_at hpos
      obtain ⟨c, hc⟩ : ∃ c, byte s 0 = c := ⟨_, rfl⟩
      rw [hc] at hb0
      obtain ⟨q, hq⟩ : ∃ q, isLet c = q := ⟨_, rfl⟩
      obtain ⟨kw, hkw⟩ : ∃ kw, isKw s.data.toList = kw := ⟨_, rfl⟩
      obtain ⟨R, hR⟩ : ∃ R, isName s = R := ⟨_, rfl⟩
      rw [hR]
      have hR2 : R = (q && (s.data.toList.all isAny && !kw)) := by
        rw [← hR]
        unfold isName
        rw [decide_eq_true hpos, decide_eq_true h16, hc, hq, hkw]
        rfl
      have HR := Lib.hid hR2
      have cl := rletter_any c w
      rw [hq] at cl
      have ck := rkeyword_any s w
      rw [hkw] at ck
      clear hR hR2 hc hq h0 hkw
      go_enter Tryd.func20, Tryd.ntmps20
      go_wp2_with fail
      refine cl.mono ?_
      rintro e w' ⟨rfl, rfl⟩
      cases q
      · obtain rfl : R = false := HR.out
        go_wp2
        go_ret
        exact ⟨rfl, Below.refl _ _⟩
      · clear cl hb0
        go_wp2_with fail
        refine ck.mono ?_
        rintro e w1 ⟨rfl, hb1⟩
        clear ck
        cases kw
        · go_wp2_with fail
          go_loopw [3] (fun i wr => ∃ k : Nat, k ≤ s.size ∧ i = .int .i64 k ∧ w1 = wr ∧ Hid ((s.data.toList.drop k).all isAny = R)) (fun i _ => s.size - (intOf i).toNat)
          case atStart => exact ⟨0, by omega, rfl, rfl, Lib.hid (by rw [HR.out]; simp)⟩
          case round =>
            obtain ⟨k, hk, rfl, rfl, HJ⟩ := hrel
            by_cases hks : k < s.size
            · have hz : (k : Int) < (s.size : Int) := by omega
              have hbt := byte_at hks
              obtain ⟨d, hd⟩ : ∃ d, byte s k = d := ⟨_, rfl⟩
              have hdr := drop_byte hks
              rw [hd] at hbt hdr
              obtain ⟨q1, h1⟩ : ∃ q, isLet d = q := ⟨_, rfl⟩
              obtain ⟨q2, h2⟩ : ∃ q, isDig d = q := ⟨_, rfl⟩
              have c1 := rletter_any d w1
              have c2 := rdigit_any d w1
              rw [h1] at c1
              rw [h2] at c2
              have hJ2 : ((q1 || q2) && (s.data.toList.drop (k + 1)).all isAny) = R := by
                rw [← HJ.out, hdr, List.all_cons]
                unfold isAny
                rw [h1, h2]
              have HJ2 := Lib.hid hJ2
              clear h1 h2 hd hdr hJ2
              go_wp2_with fail
              refine c1.mono ?_
              rintro e w' ⟨rfl, rfl⟩
              cases q1
              · go_wp2_with fail
                refine c2.mono ?_
                rintro e w' ⟨rfl, rfl⟩
                cases q2
                · obtain rfl : R = false := by rw [← HJ2.out]; rfl
                  go_wp2
                  go_ret
                  exact ⟨rfl, hb1⟩
                · have HJ3 := Lib.hid (show (s.data.toList.drop (k + 1)).all isAny = R by rw [← HJ2.out]; rfl)
                  go_wp2
                  go_roundw
                  case rel => exact ⟨k + 1, by omega, by go_num, trivial, HJ3⟩
                  case measure => simp [intOf]; omega
              · have HJ3 := Lib.hid (show (s.data.toList.drop (k + 1)).all isAny = R by rw [← HJ2.out]; rfl)
                go_wp2
                go_roundw
                case rel => exact ⟨k + 1, by omega, by go_num, trivial, HJ3⟩
                case measure => simp [intOf]; omega
            · obtain rfl : k = s.size := by omega
              obtain rfl : R = true := by
                rw [← HJ.out, List.drop_eq_nil_of_le (by rw [size_list]; exact Nat.le_refl _)]
                rfl
              go_wp2
              go_ret
              exact ⟨rfl, hb1⟩
        · obtain rfl : R = false := by rw [HR.out]; simp
          go_wp2
          go_ret
          exact ⟨rfl, hb1⟩
    · have h16i : (16 : Int) < (s.size : Int) := by omega
      rw [show isName s = false by unfold isName; rw [decide_eq_true hpos, decide_eq_false h16]; rfl]
      clear h0 h16 hpos
      go_enter Tryd.func20, Tryd.ntmps20
      go_wp2
      go_ret
      exact ⟨rfl, Below.refl _ _⟩
end Go.Proofs.YtinfocnihngbiaaDoor
