/- The document's number. Asked: the text is not empty. -/
import Derived.Test.YtinfocnihngbiaaDoorWord4
namespace Go.Proofs.YtinfocnihngbiaaDoor
open Go.RowKit

theorem fv_snoc (l : List UInt8) (c : UInt8) : ∀ acc, fv acc (l ++ [c]) = fv acc l * 10 + (c.toNat - 48) := by
  induction l with
  | nil => intro acc; rfl
  | cons x r ih => intro acc; exact ih _
theorem take_byte {s : ByteArray} {j : Nat} (h : j < s.size) : s.data.toList.take (j + 1) = s.data.toList.take j ++ [byte s j] := by
  have h' : j < s.data.toList.length := by rw [size_list]; exact h
  rw [List.take_add_one, List.getElem?_eq_getElem h']
  unfold byte
  rw [List.getD_eq_getElem?_getD, List.getElem?_eq_getElem h']
  rfl
theorem step_le (acc d P : Nat) (h : d ≤ 9) : (acc * 10 + d + 1) * P ≤ (acc + 1) * (P * 10) := by
  have h1 : acc * 10 + d + 1 ≤ (acc + 1) * 10 := by omega
  have h2 := Nat.mul_le_mul_right P h1
  rw [Nat.mul_comm P 10, ← Nat.mul_assoc]
  exact h2
theorem fv_lt (l : List UInt8) : (∀ c ∈ l, isDig c = true) → ∀ acc, fv acc l < (acc + 1) * 10 ^ l.length := by
  induction l with
  | nil =>
    intro _ acc
    show acc < (acc + 1) * 10 ^ 0
    rw [Nat.pow_zero, Nat.mul_one]
    exact Nat.lt_succ_self _
  | cons x r ih =>
    intro hl acc
    have hx := dig_range (hl x (List.mem_cons_self ..))
    have h := ih (fun c hc => hl c (List.mem_cons_of_mem _ hc)) (acc * 10 + (x.toNat - 48))
    have h2 := step_le acc (x.toNat - 48) (10 ^ r.length) (by omega)
    rw [List.length_cons, Nat.pow_succ]
    exact Nat.lt_of_lt_of_le h h2
/-- What the document's number tells of bytes. -/
def rnumP (l : List UInt8) : Int × Bool :=
  if l.all isDig = true ∧ l.length ≤ 10 then (fv 0 l, decide (fv 0 l ≤ 2147483647) && (l.length == 1 || !(l.head? == some 48))) else (0, false)

set_option maxRecDepth 100000 in
set_option maxHeartbeats 4000000 in
theorem rnumber_any (s : ByteArray) (w : World) (hs : s.size ≤ 4294967296) (hne : 0 < s.size) :
    Calls Tryd.prog 39 #[.string s] w fun e w' => e = .returned (.tuple #[.int .i64 (rnumP s.data.toList).1, .bool (rnumP s.data.toList).2]) ∧ Below w.heap.size w w' := by
  obtain ⟨R1, hR1⟩ : ∃ x, (rnumP s.data.toList).1 = x := ⟨_, rfl⟩
  obtain ⟨R2, hR2⟩ : ∃ x, (rnumP s.data.toList).2 = x := ⟨_, rfl⟩
  rw [hR1, hR2]
  have H1 := Lib.hid hR1
  have H2 := Lib.hid hR2
  clear hR1 hR2
  have hls := size_list s
  have HLS := Lib.hid hls
  clear hls
  have hb := Below.refl w.heap.size w
  go_enter Tryd.func39, Tryd.ntmps39
  go_wp2_with fail
  go_loopw [4, 5] (fun nv i wr => ∃ j : Nat, j ≤ s.size ∧ j ≤ 10 ∧ i = .int .i64 j ∧ nv = .int .i64 (fv 0 (s.data.toList.take j) : Nat) ∧ w = wr ∧ Hid (∀ c ∈ s.data.toList.take j, isDig c = true)) (fun _ i _ => s.size - (intOf i).toNat)
  case atStart => exact ⟨0, by omega, by omega, rfl, rfl, rfl, Lib.hid (fun c hc => by simp at hc)⟩
  case round =>
    obtain ⟨j, hj, hj10, rfl, rfl, rfl, HD⟩ := hrel
    have hlt := fv_lt (s.data.toList.take j) HD.out 0
    have hpw : 10 ^ (s.data.toList.take j).length ≤ 10 ^ 10 := Nat.pow_le_pow_right (by decide) (by rw [List.length_take]; omega)
    obtain ⟨v, hv⟩ : ∃ v, fv 0 (s.data.toList.take j) = v := ⟨_, rfl⟩
    rw [hv] at hlt ⊢
    have hvb : v < 10000000000 := by
      have e : (10 : Nat) ^ 10 = 10000000000 := by decide
      rw [e] at hpw
      omega
    have HV := Lib.hid hv
    clear hv hlt hpw
    by_cases hjs : j < s.size
    · have hz : (j : Int) < (s.size : Int) := by omega
      have hbt := byte_at hjs
      obtain ⟨c, hc⟩ : ∃ c, byte s j = c := ⟨_, rfl⟩
      have HC := Lib.hid hc
      rw [hc] at hbt
      clear hc
      have c1 := rdigit_any c w
      obtain ⟨q, hq⟩ : ∃ q, isDig c = q := ⟨_, rfl⟩
      rw [hq] at c1
      have HQ := Lib.hid hq
      clear hq
      have hno : (q = false ∨ 9 < j) → R1 = 0 ∧ R2 = false := fun h => by
        have hn : ¬ (s.data.toList.all isDig = true ∧ s.data.toList.length ≤ 10) := by
          rintro ⟨ha, hl⟩
          rcases h with h | h
          · have hm : byte s j ∈ s.data.toList := by
              have h' : j < s.data.toList.length := by rw [HLS.out]; exact hjs
              unfold byte
              rw [List.getD_eq_getElem?_getD, List.getElem?_eq_getElem h']
              exact List.getElem_mem h'
            have := List.all_eq_true.1 ha _ hm
            rw [HC.out, HQ.out, h] at this
            cases this
          · rw [HLS.out] at hl
            omega
        rw [← H1.out, ← H2.out]
        unfold rnumP
        rw [if_neg hn]
        exact ⟨rfl, rfl⟩
      go_wp2_with fail
      refine c1.mono ?_
      rintro e w' ⟨rfl, rfl⟩
      cases q
      · obtain ⟨rfl, rfl⟩ := hno (.inl rfl)
        clear hno
        go_wp2
        go_ret2
        exact ⟨rfl, hb⟩
      · by_cases h9 : 9 < j
        · obtain ⟨rfl, rfl⟩ := hno (.inr h9)
          have h9i : (9 : Int) < (j : Int) := by omega
          clear hno
          go_wp2
          go_ret2
          exact ⟨rfl, hb⟩
        · have h9i : ¬ (9 : Int) < (j : Int) := by omega
          have hdr := dig_range HQ.out
          clear hno
          go_wp2
          go_roundw
          case rel =>
            refine ⟨j + 1, by omega, by omega, by go_num, ?_, trivial, Lib.hid ?_⟩
            · rw [take_byte hjs, fv_snoc, HV.out, HC.out]
              have e : ((v * 10 + (c.toNat - 48) : Nat) : Int) = (v : Int) * 10 + ((c.toNat : Int) - 48) := by omega
              rw [e]
            · rw [take_byte hjs]
              intro x hx
              rcases List.mem_append.1 hx with h | h
              · exact HD.out x h
              · rw [List.mem_singleton.1 h, HC.out]
                exact HQ.out
          case measure => simp [intOf]; omega
    · have hjE : j = s.size := by omega
      have htk : s.data.toList.take j = s.data.toList := by
        rw [hjE, ← HLS.out]
        exact List.take_length
      have hvl : fv 0 s.data.toList = v := by rw [← HV.out, htk]
      have hall : s.data.toList.all isDig = true := List.all_eq_true.2 (by rw [← htk]; exact HD.out)
      have hlen : s.data.toList.length ≤ 10 := by rw [HLS.out]; omega
      have hb0 := byte_at hne
      obtain ⟨c, hc⟩ : ∃ c, byte s 0 = c := ⟨_, rfl⟩
      have hhead : s.data.toList.head? = some c := by
        rw [← hc, ← List.drop_zero (l := s.data.toList), drop_byte hne]
        rfl
      rw [hc] at hb0
      have hR1 : R1 = (v : Int) := by
        rw [← H1.out]
        unfold rnumP
        rw [if_pos ⟨hall, hlen⟩, hvl]
      have hR2 : R2 = (decide (v ≤ 2147483647) && (s.size == 1 || !(c == 48))) := by
        rw [← H2.out]
        unfold rnumP
        rw [if_pos ⟨hall, hlen⟩, hvl, HLS.out, hhead]
        rfl
      subst hR1
      have HR2 := Lib.hid hR2
      have hz : ¬ (j : Int) < (s.size : Int) := by omega
      clear htk hvl hall hlen hc hhead hR2 HV HD hjE
      by_cases hv : v ≤ 2147483647
      · have hvi : (v : Int) ≤ 2147483647 := by omega
        by_cases h1 : s.size = 1
        · have h1i : ((s.size : Int) == 1) = true := by rw [beq_iff_eq]; omega
          obtain rfl : R2 = true := by rw [HR2.out, decide_eq_true hv, h1]; rfl
          clear HR2 h1
          go_wp2_with fail
          go_quiet (fail)
          go_wp2
          go_ret2
          exact ⟨rfl, ⟨rfl, rfl, rfl, Nat.le_refl _, fun _ _ => rfl⟩⟩
        · have h1i : ((s.size : Int) == 1) = false := by rw [beq_eq_false_iff_ne]; omega
          obtain ⟨q, hq⟩ : ∃ q, ((c.toNat : Int) == 48) = q := ⟨_, rfl⟩
          have hq2 : ((c.toNat : Int) != 48) = !q := by rw [← hq]; rfl
          have hz0 : (0 : Int) < (s.size : Int) := by omega
          have hR : R2 = !q := by
            rw [HR2.out, decide_eq_true hv, show (s.size == 1) = false from beq_eq_false_iff_ne.2 h1, ← hq]
            simp only [Bool.true_and, Bool.false_or]
            congr 1
            rw [Bool.eq_iff_iff, beq_iff_eq, beq_iff_eq]
            constructor
            · intro h
              rw [h]
              rfl
            · intro h
              have h' : c.toNat = 48 := by omega
              exact UInt8.toNat_inj.1 (by simpa using h')
          subst hR
          clear HR2 h1
          go_wp2_with fail
          go_quiet (fail)
          go_wp2
          go_ret2
          exact ⟨rfl, ⟨rfl, rfl, rfl, Nat.le_refl _, fun _ _ => rfl⟩⟩
      · have hvi : ¬ (v : Int) ≤ 2147483647 := by omega
        have hvd : decide ((v : Int) ≤ 2147483647) = false := decide_eq_false hvi
        obtain rfl : R2 = false := by rw [HR2.out, decide_eq_false hv]; rfl
        clear HR2
        go_wp2_with fail
        go_quiet (fail)
        go_wp2
        go_ret2
        exact ⟨rfl, ⟨rfl, rfl, rfl, Nat.le_refl _, fun _ _ => rfl⟩⟩
end Go.Proofs.YtinfocnihngbiaaDoor
