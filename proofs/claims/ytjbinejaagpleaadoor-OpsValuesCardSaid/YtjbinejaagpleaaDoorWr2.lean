/- The sum of bytes, and lists of numbers are written. Asked: the writer lies, with its own row of bytes; the list lies. -/
import Derived.Test.YtjbinejaagpleaaDoorWr
import Derived.Test.YtjbinejaagpleaaDoorPure2
import Derived.Test.YtjbinejaagpleaaDoorMay
namespace Go.Proofs.YtjbinejaagpleaaDoor
open Go.RowKit

/-- Bytes lie. -/
def Bys (w : World) (a : Option Addr) (l : List Nat) : Prop := ∀ i, i < l.length → ∃ b off, a = some ⟨b, off, none⟩ ∧ w.cell? ⟨b, off + i, none⟩ = some (.int .u8 ((l.getD i 0 : Nat) : Int))
theorem Bys.below {w w' : World} {a : Option Addr} {l : List Nat} {B : Nat} (h : Bys w a l) (hb : Below B w w') (hB : w.heap.size ≤ B) : Bys w' a l := fun i hi => by
  obtain ⟨b, off, h1, h2⟩ := h i hi
  exact ⟨b, off, h1, (hb.cell (p := ⟨b, off + i, none⟩) (Nat.lt_of_lt_of_le (World.block_lt_of_cell? w _ h2) hB)).trans h2⟩
theorem sumN_take (l : List Nat) (k : Nat) (h : k < l.length) : stepN (sumN (l.take k)) (l.getD k 0) = sumN (l.take (k + 1)) := by
  unfold sumN
  rw [List.take_add_one, List.foldl_append]
  simp [List.getD_eq_getElem?_getD, List.getElem?_eq_getElem h]
set_option maxRecDepth 100000 in
set_option maxHeartbeats 4000000 in
theorem sum_any {w : World} {a : Option Addr} {l : List Nat} {n cap : Nat} (hn : l.length = n) (hm : n ≤ 281474976710656) (hI : Bys w a l) :
    Calls Tryd.prog 28 #[.slice a n cap] w fun e w' => e = .returned (.int .u32 ((sumN l : Nat) : Int)) ∧ w = w' := by
  have HN := Lib.hid hn
  clear hn
  go_enter Tryd.func28, Tryd.ntmps28
  go_wp2_with fail
  go_loopw [3, 8] (fun s i wr => ∃ k : Nat, k ≤ n ∧ i = .int .i64 k ∧ Hid (s = .int .u32 ((sumN (l.take k) : Nat) : Int)) ∧ Hid (w = wr)) (fun _ i _ => n - (intOf i).toNat)
  case atStart => exact ⟨0, Nat.zero_le _, rfl, Lib.hid rfl, Lib.hid rfl⟩
  case round =>
    obtain ⟨k, hk, rfl, HS, HW⟩ := hrel
    obtain rfl := HS.out
    obtain rfl := HW.out
    by_cases hkn : k < n
    · obtain ⟨b, off, rfl, y0⟩ := hI k (by rw [HN.out]; exact hkn)
      have hs := sumN_take l k (by rw [HN.out]; exact hkn)
      obtain ⟨S, hS⟩ : ∃ S, sumN (l.take k) = S := ⟨_, rfl⟩
      obtain ⟨x, hx⟩ : ∃ x, l.getD k 0 = x := ⟨_, rfl⟩
      rw [hx] at y0
      rw [hS, hx] at hs
      rw [hS]
      have HS2 := Lib.hid hs
      clear hs hS hx HS hI
      go_wp2
      go_roundw
      case rel =>
        refine ⟨k + 1, by omega, by go_num, Lib.hid ?_, Lib.hid trivial⟩
        rw [← HS2.out]
        congr 1
        unfold stepN
        omega
      case measure => simp [intOf]; omega
    · obtain rfl : k = n := by omega
      go_wp2
      go_ret
      rw [show l.take k = l by rw [← HN.out]; exact List.take_length]
      exact ⟨rfl, rfl⟩

theorem sum4_take (S k : Nat) (hk : k < 4) : (sum4 S).take k ++ [S / 256 ^ k % 256] = (sum4 S).take (k + 1) := by
  match k, hk with
  | 0, _ => simp [sum4]
  | 1, _ => simp [sum4]
  | 2, _ => simp [sum4]
  | 3, _ => simp [sum4]
theorem bits255 (n : Nat) : ((n : Int) % 256) = ((n % 256 : Nat) : Int) := by omega
set_option maxRecDepth 100000 in
set_option maxHeartbeats 8000000 in
theorem last_any {w : World} {b base : Nat} {v : Value} {xs : List Nat} (hW : Wr w b base v xs) (hx : xs.length ≤ 1000000000000) :
    Calls Tryd.prog 25 #[.pointer (some ⟨b, 0, none⟩)] w fun e w' => e = .returned (.tuple #[]) ∧ ∃ v', Wr w' b base v' (sealB xs) ∧ WK w w' b v v' := by
  obtain ⟨i0, hi0, hz0, hz1, hz2⟩ := info_parts info5
  have HW := Lib.hid hW
  have c0 := hW.bx.cell
  have f0 := hW.bx.frozen
  have hbys : ∃ a cap, v = .slice a xs.length cap ∧ Bys w a xs := by
    rcases hW.ow.2 with ⟨h1, h2⟩ | ⟨g, cap, cur, h1, h2, h3, h4, h5, h6, h7⟩
    · have : xs = [] := List.eq_nil_of_length_eq_zero h2
      subst this
      exact ⟨none, 0, h1, fun i hi => absurd hi (Nat.not_lt_zero _)⟩
    · refine ⟨_, cap, h1, fun i hi => ⟨g, 0, rfl, ?_⟩⟩
      have hc := hW.ow.cells (g := g) (by rw [h1]; rfl) i (.int .u8 ((xs.getD i 0 : Nat) : Int)) (by simp [u8s, List.getD_eq_getElem?_getD, List.getElem?_eq_getElem hi])
      simpa [Addr.add_lit] using hc
  obtain ⟨a, cap, rfl, hby⟩ := hbys
  have hs := sum_any (w := w) (cap := cap) rfl (by omega) hby
  have hlt := sumN_lt xs
  obtain ⟨S, hS⟩ : ∃ S, sumN xs = S := ⟨_, rfl⟩
  obtain ⟨Z, hZ⟩ : ∃ Z, sealB xs = Z := ⟨_, rfl⟩
  have HZ : Hid (xs ++ sum4 S = Z) := Lib.hid (by rw [← hZ, ← hS]; rfl)
  rw [hS] at hs hlt
  rw [hZ]
  clear hS hZ hby hW
  have HX := Lib.hid hx
  clear hx
  go_enter Tryd.func25, Tryd.ntmps25
  go_wp2_with fail
  refine hs.mono ?_
  rintro e w' ⟨rfl, rfl⟩
  clear hs
  go_wp2_with fail
  have hb0 : bits .and .i64 4 4 = 4 := rfl
  go_loopw [2, 9] (fun s x wr => ∃ (k : Nat) (m : Nat) (ys : List Nat) (u : Value), k ≤ 4 ∧ x = .int .i64 k ∧ s = .int .u32 m ∧ Hid (S / 256 ^ k = m) ∧ Hid (xs ++ (sum4 S).take k = ys) ∧ Hid (Wr wr b base u ys) ∧ Hid (WK w wr b (.slice a xs.length cap) u)) (fun _ x _ => 4 - (intOf x).toNat)
  case atStart => exact ⟨0, S, xs, _, by omega, rfl, rfl, Lib.hid (by simp), Lib.hid (by simp), HW, Lib.hid (WK.refl _ _ _)⟩
  case round =>
    obtain ⟨k, m, ys, u, hk, rfl, rfl, HM, HY, HWr, HK⟩ := hrel
    have hbx := HWr.out.bx
    clear c0 f0
    have c0 := hbx.cell
    have f0 := hbx.frozen
    have hown := HWr.out.ow
    have hbs := HWr.out.bs
    by_cases hk4 : k < 4
    · have hki : (k : Int) < 4 := by omega
      have hl1 : ys.length + 1 ≤ 1000000000100 := by
        have := HX.out
        rw [← HY.out]
        simp [sum4_len]
        omega
      have hT := sum4_take S k hk4
      rw [HM.out] at hT
      have HT := Lib.hid hT
      clear hT
      have hown' := hown.alloc (Obj.cells #[Value.int .u8 ((m : Int) % 256)] 5)
      go_wp2_with (at_builtin; refine wpList_append_lies _ rfl (.tmp 16) (.tmp 19) 28 rfl base 5 i0 (.int .u8 0) 1 1 Tryd.underlying28 hi0 hz0 hz1 hz2 rfl (by decide) u ys.length (u8s ys) rfl hown' ⟨wr.heap.size, 0, none⟩ 1 1 [.int .u8 ((m : Int) % 256)] rfl rfl ?c2 ?c3 (by decide) ?c4 ?c5 ?c6 (wr.heap.size + 1) (by simp) ?_)
      case c3 => simp [Value.oneCell']
      case c4 => unfold maxLen; omega
      case c5 => omega
      case c6 => simp; omega
      case c2 => exact one_cell _ _ _
      intro g cap1 w1 hown1 hgrow hlies _
      rw [bits255] at hown1
      obtain ⟨d1, d2, d3⟩ := HWr.out.put1 hown1 hgrow hlies
      have e0 := d1.cell
      have e1 := d1.frozen
      have HD2 := Lib.hid d2
      have HD3 := Lib.hid d3
      clear d2 d3 hown1 hgrow hlies hown hown' d1
      go_wp2
      case roundEnd =>
        refine ⟨⟨k + 1, m / 256, ys ++ [m % 256], _, by omega, by simp, by simp, Lib.hid ?_, Lib.hid ?_, HD2, Lib.hid (HK.out.trans HD3.out)⟩, by simp [intOf]; omega⟩
        · rw [Nat.pow_succ, ← Nat.div_div_eq_div_mul, HM.out]
        · rw [← HY.out, ← HT.out, List.append_assoc]
    · obtain rfl : k = 4 := by omega
      go_wp2
      go_end0
      refine ⟨rfl, _, ?_, HK.out⟩
      rw [← HZ.out]
      have := HY.out
      rw [show (sum4 S).take 4 = sum4 S from rfl] at this
      rw [this]
      exact HWr.out

theorem WK.below {w w' : World} {b base : Nat} {v v' : Value} {xs : List Nat} (h : WK w w' b v v') (hw : Wr w b base v xs) (hb : base ≤ b) : Below base w w' := by
  refine ⟨h.os, h.tape, h.output, h.size, fun k hk => h.block k (Nat.lt_of_lt_of_le hk hw.bs) (by omega) (row_ne hw.ow hk)⟩
theorem flat_take_len {α : Type} (f : α → List Nat) : ∀ (l : List α) (k : Nat), ((l.take k).flatMap f).length ≤ (l.flatMap f).length
  | [], k => by simp
  | x :: l, 0 => by simp
  | x :: l, k + 1 => by
    simp only [List.take_succ_cons, List.flatMap_cons, List.length_append]
    have := flat_take_len f l k
    omega
theorem flat_take {α : Type} (f : α → List Nat) (d : α) (l : List α) (k : Nat) (h : k < l.length) : (l.take k).flatMap f ++ f (l.getD k d) = (l.take (k + 1)).flatMap f := by
  rw [List.take_add_one, List.flatMap_append]
  simp [List.getD_eq_getElem?_getD, List.getElem?_eq_getElem h]
set_option maxRecDepth 100000 in
set_option maxHeartbeats 8000000 in
theorem writeVars_any {w : World} {b base : Nat} {v : Value} {xs : List Nat} (hW : Wr w b base v xs) (hb : base ≤ b) {a : Option Addr} {l : List Int} {n cap : Nat} (hn : l.length = n)
    (hI : ∀ W, Below base w W → Ints W a l) (hv : ∀ z ∈ l, -4611686018427387904 ≤ z ∧ z < 4611686018427387904) (hx : xs.length + (listB sgnB l).length ≤ 1000000000000) :
    Calls Tryd.prog 19 #[.pointer (some ⟨b, 0, none⟩), .slice a n cap, .func (.func 20) #[.pointer (some ⟨b, 0, none⟩)] #[]] w fun e w' => e = .returned (.tuple #[]) ∧ ∃ v', Wr w' b base v' (xs ++ listB sgnB l) ∧ WK w w' b v v' := by
  have HN := Lib.hid hn
  have HI := Lib.hid hI
  have HV := Lib.hid hv
  have hnl : n ≤ 1000000000000 := by
    have h1 : ∀ l : List Int, l.length ≤ (l.flatMap sgnB).length := by
      intro l
      induction l with
      | nil => simp
      | cons x l ih =>
        simp only [List.length_cons, List.flatMap_cons, List.length_append]
        have : 0 < (sgnB x).length := by unfold sgnB; rw [numB.eq_def]; split <;> simp
        omega
    have := h1 l
    unfold listB at hx
    rw [List.length_append] at hx
    omega
  have hc := count_any hW n (by omega) (by omega)
  have HX := Lib.hid hx
  have HW := Lib.hid hW
  clear hn hI hv hx hW
  go_enter Tryd.func19, Tryd.ntmps19
  go_wp2_with fail
  refine hc.mono ?_
  rintro e w1 ⟨rfl, v1, hW1, hK1⟩
  have HW1 := Lib.hid hW1
  have HK1 := Lib.hid hK1
  clear hc hW1 hK1
  go_wp2_with fail
  go_loopw [14] (fun x wr => ∃ (k : Nat) (ys : List Nat) (u : Value), k ≤ n ∧ x = .int .i64 k ∧ Hid (xs ++ (numB n ++ (l.take k).flatMap sgnB) = ys) ∧ Hid (Wr wr b base u ys) ∧ Hid (WK w wr b v u)) (fun x _ => n - (intOf x).toNat)
  case atStart => exact ⟨0, _, _, by omega, rfl, Lib.hid (by simp), HW1, HK1⟩
  case round =>
    obtain ⟨k, ys, u, hk, rfl, HY, HWr, HK⟩ := hrel
    by_cases hkn : k < n
    · have hki : (k : Int) < (n : Int) := by omega
      have hlk : k < l.length := by rw [HN.out]; exact hkn
      obtain ⟨b1, off, rfl, y0⟩ := HI.out wr (HK.out.below HW.out hb) k hlk
      have hz := HV.out (l.getD k 0) (by rw [List.getD_eq_getElem?_getD, List.getElem?_eq_getElem hlk]; exact List.getElem_mem hlk)
      have hT := flat_take sgnB 0 l k hlk
      have hyl : ys.length + (sgnB (l.getD k 0)).length ≤ 1000000000000 := by
        have h1 := flat_take_len sgnB l (k + 1)
        rw [← hT] at h1
        have h2 := HX.out
        unfold listB at h2
        rw [← HY.out]
        simp only [List.length_append] at h1 h2 ⊢
        rw [HN.out] at h2
        omega
      obtain ⟨z, hz'⟩ : ∃ z, l.getD k 0 = z := ⟨_, rfl⟩
      rw [hz'] at y0 hz hT hyl
      have hs := signed_any HWr.out z hz.1 hz.2 (by omega)
      have HT := Lib.hid hT
      clear hz' hz hT hyl
      go_wp2_with fail
      refine hs.mono ?_
      rintro e w2 ⟨rfl, v2, hW2, hK2⟩
      have HW2 := Lib.hid hW2
      have HK2 := Lib.hid hK2
      clear hs hW2 hK2 y0
      go_wp2
      go_roundw
      case rel =>
        refine ⟨k + 1, _, _, by omega, by go_num, Lib.hid ?_, HW2, Lib.hid (HK.out.trans HK2.out)⟩
        rw [← HY.out, ← HT.out]
        simp only [List.append_assoc]
      case measure => simp [intOf]; omega
    · obtain rfl : k = n := by omega
      go_wp2
      go_end0
      refine ⟨rfl, _, ?_, HK.out⟩
      have := HY.out
      rw [show l.take k = l by rw [← HN.out]; exact List.take_length] at this
      unfold listB
      rw [HN.out, this]
      exact HWr.out
theorem countZ_any {w : World} {b base : Nat} {v : Value} {xs : List Nat} (hW : Wr w b base v xs) (z : Int) (hz0 : 0 ≤ z) (hz1 : z < 9223372036854775808) (hx : xs.length ≤ 1000000000000) :
    Calls Tryd.prog 22 #[.pointer (some ⟨b, 0, none⟩), .int .i64 z] w fun e w' => e = .returned (.tuple #[]) ∧ ∃ v', Wr w' b base v' (xs ++ cntB z) ∧ WK w w' b v v' := by
  obtain ⟨n, rfl⟩ : ∃ n : Nat, z = n := ⟨z.toNat, by omega⟩
  exact count_any hW n (by omega) hx
set_option maxRecDepth 100000 in
set_option maxHeartbeats 8000000 in
theorem writeInts_any {w : World} {b base : Nat} {v : Value} {xs : List Nat} (hW : Wr w b base v xs) (hb : base ≤ b) {a : Option Addr} {l : List Int} {n cap : Nat} (hn : l.length = n)
    (hI : ∀ W, Below base w W → Ints W a l) (hv : ∀ z ∈ l, 0 ≤ z ∧ z < 9223372036854775808) (hx : xs.length + (listB cntB l).length ≤ 1000000000000) :
    Calls Tryd.prog 21 #[.pointer (some ⟨b, 0, none⟩), .slice a n cap, .func (.func 22) #[.pointer (some ⟨b, 0, none⟩)] #[]] w fun e w' => e = .returned (.tuple #[]) ∧ ∃ v', Wr w' b base v' (xs ++ listB cntB l) ∧ WK w w' b v v' := by
  have HN := Lib.hid hn
  have HI := Lib.hid hI
  have HV := Lib.hid hv
  have hnl : n ≤ 1000000000000 := by
    have h1 : ∀ l : List Int, l.length ≤ (l.flatMap cntB).length := by
      intro l
      induction l with
      | nil => simp
      | cons x l ih =>
        simp only [List.length_cons, List.flatMap_cons, List.length_append]
        have : 0 < (cntB x).length := by unfold cntB; rw [numB.eq_def]; split <;> simp
        omega
    have := h1 l
    unfold listB at hx
    rw [List.length_append] at hx
    omega
  have hc := count_any hW n (by omega) (by omega)
  have HX := Lib.hid hx
  have HW := Lib.hid hW
  clear hn hI hv hx hW
  go_enter Tryd.func21, Tryd.ntmps21
  go_wp2_with fail
  refine hc.mono ?_
  rintro e w1 ⟨rfl, v1, hW1, hK1⟩
  have HW1 := Lib.hid hW1
  have HK1 := Lib.hid hK1
  clear hc hW1 hK1
  go_wp2_with fail
  go_loopw [14] (fun x wr => ∃ (k : Nat) (ys : List Nat) (u : Value), k ≤ n ∧ x = .int .i64 k ∧ Hid (xs ++ (numB n ++ (l.take k).flatMap cntB) = ys) ∧ Hid (Wr wr b base u ys) ∧ Hid (WK w wr b v u)) (fun x _ => n - (intOf x).toNat)
  case atStart => exact ⟨0, _, _, by omega, rfl, Lib.hid (by simp), HW1, HK1⟩
  case round =>
    obtain ⟨k, ys, u, hk, rfl, HY, HWr, HK⟩ := hrel
    by_cases hkn : k < n
    · have hki : (k : Int) < (n : Int) := by omega
      have hlk : k < l.length := by rw [HN.out]; exact hkn
      obtain ⟨b1, off, rfl, y0⟩ := HI.out wr (HK.out.below HW.out hb) k hlk
      have hz := HV.out (l.getD k 0) (by rw [List.getD_eq_getElem?_getD, List.getElem?_eq_getElem hlk]; exact List.getElem_mem hlk)
      have hT := flat_take cntB 0 l k hlk
      have hyl : ys.length + (cntB (l.getD k 0)).length ≤ 1000000000000 := by
        have h1 := flat_take_len cntB l (k + 1)
        rw [← hT] at h1
        have h2 := HX.out
        unfold listB at h2
        rw [← HY.out]
        simp only [List.length_append] at h1 h2 ⊢
        rw [HN.out] at h2
        omega
      obtain ⟨z, hz'⟩ : ∃ z, l.getD k 0 = z := ⟨_, rfl⟩
      rw [hz'] at y0 hz hT hyl
      have hs := countZ_any HWr.out z hz.1 hz.2 (by omega)
      have HT := Lib.hid hT
      clear hz' hz hT hyl
      go_wp2_with fail
      refine hs.mono ?_
      rintro e w2 ⟨rfl, v2, hW2, hK2⟩
      have HW2 := Lib.hid hW2
      have HK2 := Lib.hid hK2
      clear hs hW2 hK2 y0
      go_wp2
      go_roundw
      case rel =>
        refine ⟨k + 1, _, _, by omega, by go_num, Lib.hid ?_, HW2, Lib.hid (HK.out.trans HK2.out)⟩
        rw [← HY.out, ← HT.out]
        simp only [List.append_assoc]
      case measure => simp [intOf]; omega
    · obtain rfl : k = n := by omega
      go_wp2
      go_end0
      refine ⟨rfl, _, ?_, HK.out⟩
      have := HY.out
      rw [show l.take k = l by rw [← HN.out]; exact List.take_length] at this
      unfold listB
      rw [HN.out, this]
      exact HWr.out
end Go.Proofs.YtjbinejaagpleaaDoor
