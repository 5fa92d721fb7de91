/- Bytes are read: taken off, a number, a count, a number with a sign. Asked: the reader lies, with the bytes that are left. -/
import Derived.Test.YtjbinejaagpleaaDoorWr2
import Derived.Laws.BitsAllLaws
namespace Go.Proofs.YtjbinejaagpleaaDoor
open Go.RowKit

/-- What a reader gives up with. -/
def noM : PanicEntry := { v := .iface 98 (.agg #[]), recovered := false }
/-- A reader in block b: bytes l are left. -/
structure Rr (w : World) (b D : Nat) (l : List Nat) : Prop where
  ex : ∃ g off cap, Boxed w b 68 (.slice (some ⟨g, off, none⟩) l.length cap) ∧ l.length ≤ cap ∧ g ≠ b ∧ g < D ∧ ∀ i, i < l.length → w.cell? ⟨g, off + i, none⟩ = some (.int .u8 ((l.getD i 0 : Nat) : Int))
  lt : ∀ x ∈ l, x < 256
  le : l.length ≤ 281474976710656
  bD : b < D
  Dw : D ≤ w.heap.size
theorem fail_any (w : World) : Calls Tryd.prog 56 #[] w fun e w' => e = .panicked [noM] ∧ w = w' := by
  go_enter Tryd.func56, Tryd.ntmps56
  go_wp2
  exact ⟨rfl, rfl, rfl⟩
set_option maxRecDepth 100000 in
theorem take_yes {w : World} {b g off cap len n : Nat} (hb : Boxed w b 68 (.slice (some ⟨g, off, none⟩) len cap)) (hc : len ≤ cap) (hn : n ≤ len) (_hl : len ≤ 281474976710656) :
    Calls Tryd.prog 55 #[.pointer (some ⟨b, 0, none⟩), .int .i64 n] w fun e w' => e = .returned (.slice (some ⟨g, off, none⟩) n cap) ∧ w' = w.setCell ⟨b, 0, none⟩ (.slice (if cap = n then some ⟨g, off, none⟩ else some ⟨g, off + n, none⟩) (len - n) (cap - n)) := by
  have c0 := hb.cell
  have f0 := hb.frozen
  have h1 : ¬ (len : Int) < (n : Int) := by omega
  go_enter Tryd.func55, Tryd.ntmps55
  go_wp2
  all_goals
    go_ret
    exact ⟨rfl, rfl⟩
set_option maxRecDepth 100000 in
theorem take_no {w : World} {b len n cap : Nat} {a : Option Addr} (hb : Boxed w b 68 (.slice a len cap)) (hn : len < n) (_hl : len ≤ 281474976710656) :
    Calls Tryd.prog 55 #[.pointer (some ⟨b, 0, none⟩), .int .i64 n] w fun e w' => e = .panicked [noM] ∧ w = w' := by
  have c0 := hb.cell
  have f0 := hb.frozen
  have h1 : (len : Int) < (n : Int) := by omega
  go_enter Tryd.func55, Tryd.ntmps55
  go_wp2_with fail
  refine (fail_any w).mono ?_
  rintro e w' ⟨rfl, rfl⟩
  exact ⟨rfl, rfl, rfl⟩
/-- What is taken, what is left. -/
theorem take_any {w : World} {b D : Nat} {l : List Nat} (h : Rr w b D l) (n : Nat) :
    Calls Tryd.prog 55 #[.pointer (some ⟨b, 0, none⟩), .int .i64 n] w fun e w' => Kp w w' b b ∧
      ((n ≤ l.length ∧ ∃ g off cap, e = .returned (.slice (some ⟨g, off, none⟩) n cap) ∧ g ≠ b ∧ g < D ∧ (∀ i, i < n → w'.cell? ⟨g, off + i, none⟩ = some (.int .u8 ((l.getD i 0 : Nat) : Int))) ∧ Rr w' b D (l.drop n)) ∨
       (l.length < n ∧ e = .panicked [noM])) := by
  obtain ⟨⟨g, off, cap, hb, hc, hg, hgD, hcell⟩, hlt, hle, hbD, hDw⟩ := h
  rcases Nat.lt_or_ge l.length n with hn | hn
  · refine (take_no hb hn hle).mono ?_
    rintro e w' ⟨rfl, rfl⟩
    exact ⟨Kp.refl _ _ _, .inr ⟨hn, rfl⟩⟩
  · refine (take_yes hb hc hn hle).mono ?_
    rintro e w' ⟨rfl, rfl⟩
    have hcl : ∀ (u : Value) i, i < l.length → (w.setCell ⟨b, 0, none⟩ u).cell? ⟨g, off + i, none⟩ = some (.int .u8 ((l.getD i 0 : Nat) : Int)) := fun u i hi =>
      (World.cell?_setCell_far w ⟨b, 0, none⟩ ⟨g, off + i, none⟩ u (Ne.symm hg)).trans (hcell i hi)
    refine ⟨(Kp.refl w b b).setB 0 _, .inl ⟨hn, g, off, cap, rfl, hg, hgD, fun i hi => hcl _ i (by omega), ⟨?_, fun x hx => hlt x (List.mem_of_mem_drop hx), by rw [List.length_drop]; omega, hbD, by simpa [World.setCell] using hDw⟩⟩⟩
    by_cases hcn : cap = n
    · refine ⟨g, off, cap - n, ?_, ?_, hg, hgD, fun i hi => ?_⟩
      · rw [if_pos hcn, List.length_drop]
        exact hb.set _
      · rw [List.length_drop]
        omega
      · rw [List.length_drop] at hi
        omega
    · refine ⟨g, off + n, cap - n, ?_, ?_, hg, hgD, fun i hi => ?_⟩
      · rw [if_neg hcn, List.length_drop]
        exact hb.set _
      · rw [List.length_drop]
        omega
      · rw [List.length_drop] at hi
        have := hcl (.slice (if cap = n then some ⟨g, off, none⟩ else some ⟨g, off + n, none⟩) (l.length - n) (cap - n)) (n + i) (by omega)
        rw [Nat.add_assoc, this]
        simp [List.getD_eq_getElem?_getD, List.getElem?_drop]
theorem and127 (x : Nat) (hx : x < 256) : IntKind.u64.wrap (bits .and .u8 (x : Int) 127) = ((x % 128 : Nat) : Int) := by
  have h1 : ∀ x : Fin 256, IntKind.u64.wrap (bits .and .u8 ((x.val : Nat) : Int) 127) = ((x.val % 128 : Nat) : Int) := by decide +kernel
  exact h1 ⟨x, hx⟩
theorem or_acc (acc x i at' : Nat) (hx : x < 256) (ha : acc < 128 ^ i) (hi : i < 5) (hat : 7 * i = at') :
    bits .or .u64 (acc : Int) (IntKind.u64.wrap (IntKind.u64.wrap (bits .and .u8 (x : Int) 127) * 2 ^ at')) = ((acc + x % 128 * 128 ^ i : Nat) : Int) := by
  rw [and127 x hx]
  have hp : (2 : Nat) ^ at' = 128 ^ i := by rw [← hat, Nat.pow_mul]
  have hle : 128 ^ i ≤ 128 ^ 4 := Nat.pow_le_pow_right (by decide) (by omega)
  have hm : x % 128 * 128 ^ i ≤ 127 * 128 ^ 4 := Nat.mul_le_mul (by omega) hle
  have hw : IntKind.u64.wrap (((x % 128 : Nat) : Int) * 2 ^ at') = ((x % 128 * 2 ^ at' : Nat) : Int) := by
    rw [IntKind.wrap_u64]
    have : (((x % 128 : Nat) : Int) * 2 ^ at') = ((x % 128 * 2 ^ at' : Nat) : Int) := by push_cast; rfl
    rw [this, hp]
    generalize x % 128 * 128 ^ i = z at *
    omega
  rw [hw, u64_or_nat _ _ (by omega) (by rw [hp]; omega)]
  congr 1
  have h2 := Nat.shiftLeft_add_eq_or_of_lt (a := x % 128) (b := acc) (i := at') (by rw [hp]; exact ha)
  rw [Nat.or_comm, ← Nat.shiftLeft_eq, ← h2, Nat.shiftLeft_eq, hp, Nat.add_comm]
theorem Rr.grown {w w' : World} {b D : Nat} {l : List Nat} {row : Option Nat} (h : Rr w b D l) (hg : w.grownBy w' row) (hr : ∀ r, row = some r → D ≤ r) : Rr w' b D l := by
  obtain ⟨⟨g, off, cap, hb, hc, hgb, hgD, hcell⟩, hlt, hle, hbD, hDw⟩ := h
  have hD2 := hg.size
  refine ⟨⟨g, off, cap, hb.kept hg (fun e => ?_), hc, hgb, hgD, fun i hi => ?_⟩, hlt, hle, hbD, by omega⟩
  · have := hr b e.symm
    omega
  · have he := hg.block g (by omega) (fun e => by have := hr g e.symm; omega)
    rw [← hcell i hi]
    simp [World.cell?, he]
theorem Kp.grownD {w W W' : World} {b D : Nat} {row : Option Nat} (h : Kp w W b b) (hg : W.grownBy W' row) (hr : ∀ r, row = some r → D ≤ r) (hD : w.heap.size ≤ D) : Kp w W' b b :=
  ⟨hg.os.trans h.os, hg.tape.trans h.tape, hg.output.trans h.output, Nat.le_trans h.size hg.size, fun k hk h1 h2 => (hg.block k (Nat.lt_of_lt_of_le hk h.size) (fun e => by have := hr k e.symm; omega)).trans (h.block k hk h1 h2)⟩
/-- What reading leaves: of what was there nothing is written but the reader. -/
def RP {α : Type} (w : World) (b D : Nat) (r : Option (α × List Nat)) (val : α → Value) (e : Ending) (w' : World) : Prop :=
  Kp w w' b b ∧ match r with
    | some (x, q) => e = .returned (val x) ∧ Rr w' b D q
    | none => e = .panicked [noM]
set_option maxRecDepth 100000 in
set_option maxHeartbeats 4000000 in
theorem rnum_any {w : World} {b D : Nat} {l : List Nat} (h : Rr w b D l) :
    Calls Tryd.prog 77 #[.pointer (some ⟨b, 0, none⟩)] w (RP w b D (rdNum l) (fun n : Nat => .int .u64 (n : Int))) := by
  obtain ⟨R, hR⟩ : ∃ R, rdNum l = R := ⟨_, rfl⟩
  rw [hR]
  have hR2 : rdN 5 0 0 l = R := hR
  have HR := Lib.hid hR2
  have HW := Lib.hid h
  clear hR hR2 h
  go_enter Tryd.func77, Tryd.ntmps77
  go_wp2_with fail
  go_loopw [3, 4] (fun n at' wr => ∃ (i acc : Nat) (q : List Nat), i ≤ 5 ∧ n = .int .u64 acc ∧ at' = .int .i64 ((7 * i : Nat) : Int) ∧ Hid (acc < 128 ^ i) ∧ Hid (rdN (5 - i) i acc q = R) ∧ Hid (Rr wr b D q) ∧ Hid (Kp w wr b b)) (fun _ at' _ => 35 - (intOf at').toNat)
  case atStart => exact ⟨0, 0, l, by omega, rfl, rfl, Lib.hid (by decide), HR, HW, Lib.hid (Kp.refl _ _ _)⟩
  case round =>
    obtain ⟨i, acc, q, hi, rfl, rfl, HA, HQ, HRr, HK⟩ := hrel
    rcases Nat.lt_or_ge i 5 with hi5 | hi5
    · have h7 : (7 * i : Nat) < 35 := by omega
      obtain ⟨at', hat⟩ : ∃ a : Nat, 7 * i = a := ⟨_, rfl⟩
      rw [hat] at h7 ⊢
      have h7' : (at' : Int) < 35 := by omega
      have HAT := Lib.hid hat
      obtain ⟨f, hf⟩ : ∃ f, 5 - i = f + 1 := ⟨4 - i, by omega⟩
      have hq0 := HQ.out
      rw [hf] at hq0
      have HF := Lib.hid hf
      clear hat hf
      go_wp2_with fail
      refine (take_any HRr.out 1).mono ?_
      rintro e w1 ⟨hk1, ⟨hq1, g, off, cap, rfl, hg, -, hc, hr1⟩ | ⟨hq1, rfl⟩⟩
      · cases q with
        | nil => exact absurd hq1 (by simp)
        | cons x r =>
          have hx := HRr.out.lt x (List.mem_cons_self ..)
          have hc0 : w1.cell? ⟨g, off, none⟩ = some (.int .u8 (x : Int)) := hc 0 (by omega)
          have hr2 : Rr w1 b D r := hr1
          have hor := or_acc acc x i at' hx HA.out hi5 HAT.out
          simp only [rdN] at hq0
          have hA2 : acc + x % 128 * 128 ^ i < 128 ^ (i + 1) := by
            have h1 : x % 128 * 128 ^ i ≤ 127 * 128 ^ i := Nat.mul_le_mul_right _ (by omega)
            have h2 := HA.out
            rw [Nat.pow_succ]
            generalize 128 ^ i = z at *
            omega
          obtain ⟨V, hV⟩ : ∃ V, acc + x % 128 * 128 ^ i = V := ⟨_, rfl⟩
          rw [hV] at hor hq0 hA2
          have HQ0 := Lib.hid hq0
          have HA2 := Lib.hid hA2
          have HR2 := Lib.hid hr2
          have HK2 := Lib.hid (HK.out.trans hk1)
          have HV := Lib.hid hV
          clear hq0 hc hr1 hr2 hk1 hq1 hA2 hV HQ HRr hg
          by_cases hx7 : x < 128
          · have hxi : (x : Int) < 128 := by omega
            have hVx : acc + x * 128 ^ i = V := by rw [← HV.out, Nat.mod_eq_of_lt hx7]
            by_cases hx0 : x = 0
            · have hx0' : ((x : Int) == 0) = true := by rw [beq_iff_eq]; omega
              by_cases hi0 : i = 0
              · have ha0 : ¬ (0 : Int) < (at' : Int) := by have := HAT.out; omega
                have hres := HQ0.out
                rw [if_pos hx7, if_neg (by omega), hVx] at hres
                have HRES := Lib.hid hres
                clear hres hVx hx0 hi0
                go_wp2
                go_ret
                rw [← HRES.out]
                exact ⟨HK2.out, rfl, HR2.out⟩
              · have ha0 : (0 : Int) < (at' : Int) := by have := HAT.out; omega
                have hres := HQ0.out
                rw [if_pos hx7, if_pos ⟨hx0, by omega⟩] at hres
                have HRES := Lib.hid hres
                clear hres hVx hx0 hi0
                go_wp2_with fail
                refine (fail_any w1).mono ?_
                rintro e w2 ⟨rfl, rfl⟩
                refine ⟨rfl, ?_⟩
                rw [← HRES.out]
                exact ⟨HK2.out, rfl⟩
            · have hx0' : ((x : Int) == 0) = false := by rw [beq_eq_false_iff_ne]; omega
              have hres := HQ0.out
              rw [if_pos hx7, if_neg (by omega), hVx] at hres
              have HRES := Lib.hid hres
              clear hres hVx
              go_wp2
              go_ret
              rw [← HRES.out]
              exact ⟨HK2.out, rfl, HR2.out⟩
          · have hxi : ¬ (x : Int) < 128 := by omega
            have hres := HQ0.out
            rw [if_neg hx7] at hres
            have HRES := Lib.hid hres
            clear hres hx7
            go_wp2
            case roundEnd =>
              refine ⟨⟨i + 1, V, r, by omega, rfl, ?_, HA2, Lib.hid ?_, HR2, HK2⟩, ?_⟩
              · have := HAT.out
                congr 1
                omega
              · rw [show 5 - (i + 1) = f by have := HF.out; omega]
                exact HRES.out
              · simp [intOf]
                omega
      · have hq2 : q = [] := List.eq_nil_of_length_eq_zero (by omega)
        subst hq2
        simp only [rdN] at hq0
        refine ⟨rfl, ?_⟩
        rw [← hq0]
        exact ⟨HK.out.trans hk1, rfl⟩
    · obtain rfl : i = 5 := by omega
      go_wp2_with fail
      refine (fail_any wr).mono ?_
      rintro e w2 ⟨rfl, rfl⟩
      refine ⟨rfl, ?_⟩
      have hq0 := HQ.out
      simp only [Nat.sub_self, rdN] at hq0
      rw [← hq0]
      exact ⟨HK.out, rfl⟩
theorem rcount_any {w : World} {b D : Nat} {l : List Nat} (h : Rr w b D l) :
    Calls Tryd.prog 60 #[.pointer (some ⟨b, 0, none⟩)] w (RP w b D (rdCnt l) (fun n : Int => .int .i64 n)) := by
  have hc := rnum_any h
  have hb : ∀ n q, rdNum l = some (n, q) → n < 34359738368 := fun n q he => (rdNum_inv h.lt he).2
  unfold rdCnt
  obtain ⟨R, hR⟩ : ∃ R, rdNum l = R := ⟨_, rfl⟩
  rw [hR] at hc hb ⊢
  have HB := Lib.hid hb
  clear hR h hb
  go_enter Tryd.func60, Tryd.ntmps60
  go_wp2_with fail
  refine hc.mono ?_
  rintro e w1 ⟨hk, hm⟩
  cases R with
  | none =>
    obtain rfl := hm
    exact ⟨rfl, hk, rfl⟩
  | some nq =>
    obtain ⟨n, q⟩ := nq
    obtain ⟨rfl, hr⟩ := hm
    have hn := HB.out n q rfl
    have HK := Lib.hid hk
    have HR := Lib.hid hr
    have hwr : IntKind.i64.wrap (n : Int) = (n : Int) := by
      rw [IntKind.wrap_i64]
      omega
    clear hk hr hc
    go_wp2
    go_ret
    exact ⟨HK.out, rfl, HR.out⟩
theorem rsigned_any {w : World} {b D : Nat} {l : List Nat} (h : Rr w b D l) :
    Calls Tryd.prog 58 #[.pointer (some ⟨b, 0, none⟩)] w (RP w b D (rdSgn l) (fun n : Int => .int .i64 n)) := by
  have hc := rnum_any h
  have hb : ∀ n q, rdNum l = some (n, q) → n < 34359738368 := fun n q he => (rdNum_inv h.lt he).2
  unfold rdSgn
  obtain ⟨R, hR⟩ : ∃ R, rdNum l = R := ⟨_, rfl⟩
  rw [hR] at hc hb ⊢
  have HB := Lib.hid hb
  clear hR h hb
  go_enter Tryd.func58, Tryd.ntmps58
  go_wp2_with fail
  refine hc.mono ?_
  rintro e w1 ⟨hk, hm⟩
  cases R with
  | none =>
    obtain rfl := hm
    exact ⟨rfl, hk, rfl⟩
  | some nq =>
    obtain ⟨n, q⟩ := nq
    obtain ⟨rfl, hr⟩ := hm
    have hn := HB.out n q rfl
    have HK := Lib.hid hk
    have HR := Lib.hid hr
    clear hk hr hc
    go_wp2
    · rename_i hm
      go_ret
      refine ⟨HK.out, ?_, HR.out⟩
      rw [beq_iff_eq] at hm
      unfold unsN
      rw [if_pos (by omega)]
      congr 2
    · rename_i hm
      go_ret
      refine ⟨HK.out, ?_, HR.out⟩
      rw [beq_eq_false_iff_ne] at hm
      unfold unsN
      rw [if_neg (by omega)]
      congr 2
end Go.Proofs.YtjbinejaagpleaaDoor
