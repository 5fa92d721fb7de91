/- The document's Sum and Sealed. Asked: the bytes lie. -/
import Derived.Test.YtjbinejaagpleaaDoorWka
namespace Go.Proofs.YtjbinejaagpleaaDoor
open Go.RowKit

set_option maxRecDepth 100000 in
set_option maxHeartbeats 4000000 in
theorem rsum_any {w : World} {a : Option Addr} {l : List Nat} {n cap : Nat} (hn : l.length = n) (hm : n ≤ 281474976710656) (hI : Bys w a l) (hlt : ∀ x ∈ l, x < 256) :
    Calls Tryd.prog 35 #[.slice a n cap] w fun e w' => e = .returned (.int .u32 ((sumN l : Nat) : Int)) ∧ w = w' := by
  have HN := Lib.hid hn
  have HLT := Lib.hid hlt
  clear hn hlt
  go_enter Tryd.func35, Tryd.ntmps35
  go_wp2_with fail
  go_loopw [3, 4] (fun s i wr => ∃ k : Nat, k ≤ n ∧ i = .int .i64 k ∧ Hid (s = .int .i64 ((sumN (l.take k) : Nat) : Int)) ∧ Hid (w = wr)) (fun _ i _ => n - (intOf i).toNat)
  case atStart => exact ⟨0, Nat.zero_le _, rfl, Lib.hid rfl, Lib.hid rfl⟩
  case round =>
    obtain ⟨k, hk, rfl, HS, HW⟩ := hrel
    obtain rfl := HS.out
    obtain rfl := HW.out
    by_cases hkn : k < n
    · obtain ⟨b, off, rfl, y0⟩ := hI k (by rw [HN.out]; exact hkn)
      have hs := sumN_take l k (by rw [HN.out]; exact hkn)
      have hsl := sumN_lt (l.take k)
      have hx8 : l.getD k 0 < 256 := by
        rw [List.getD_eq_getElem?_getD, List.getElem?_eq_getElem (by rw [HN.out]; exact hkn)]
        exact HLT.out _ (List.getElem_mem _)
      obtain ⟨S, hS⟩ : ∃ S, sumN (l.take k) = S := ⟨_, rfl⟩
      obtain ⟨x, hx⟩ : ∃ x, l.getD k 0 = x := ⟨_, rfl⟩
      rw [hx] at y0 hx8
      rw [hS, hx] at hs
      rw [hS] at hsl ⊢
      have hki : (k : Int) < (n : Int) := by omega
      have q1 : IntKind.i64.wrap (33 * (S : Int)) = 33 * (S : Int) := by rw [IntKind.wrap_i64]; omega
      have q2 : IntKind.i64.wrap (33 * (S : Int) + (x : Int)) = 33 * (S : Int) + (x : Int) := by rw [IntKind.wrap_i64]; omega
      have q3 : IntKind.i64.wrap (x : Int) = (x : Int) := by rw [IntKind.wrap_i64]; omega
      have q4 : (33 * (S : Int) + (x : Int)).tmod 4294967296 = ((stepN S x : Nat) : Int) := by
        rw [Int.tmod_eq_emod_of_nonneg (by omega)]
        unfold stepN
        omega
      have hst := stepN_lt S x
      have q5 : IntKind.i64.wrap ((stepN S x : Nat) : Int) = ((stepN S x : Nat) : Int) := by rw [IntKind.wrap_i64]; omega
      have HS2 := Lib.hid hs
      clear hs hS hx HS hI hsl hx8 hst
      go_wp2
      go_roundw
      case rel =>
        refine ⟨k + 1, by omega, by go_num, Lib.hid ?_, Lib.hid trivial⟩
        rw [← HS2.out]
        try rw [q4]
        try rfl
      case measure => simp [intOf]; omega
    · obtain rfl : k = n := by omega
      have hte : l.take k = l := by rw [← HN.out]; exact List.take_length
      rw [hte]
      have hsl := sumN_lt l
      have q1 : ((sumN l : Nat) : Int) % 4294967296 = ((sumN l : Nat) : Int) := by omega
      go_wp2
      try rw [q1]
      go_ret
      exact ⟨rfl, rfl⟩

set_option maxRecDepth 100000 in
set_option maxHeartbeats 8000000 in
theorem sealed_any {w : World} {a : Option Addr} {l : List Nat} {n cap : Nat} (hn : l.length = n) (hm : n ≤ 5000) (hI : Bys w a l) (hlt : ∀ x ∈ l, x < 256) :
    Calls Tryd.prog 14 #[.slice a n cap] w fun e w' => Below w.heap.size w w' ∧ ∃ v, e = .returned v ∧ w'.ownsRow w.heap.size 5 1 v (n + 4) (u8s (sealB l)) := by
  obtain ⟨i0, hi0, hz0, hz1, hz2⟩ := info_parts info5
  have hs := rsum_any (w := w) (cap := cap) hn (by omega) hI hlt
  have hlts := sumN_lt l
  obtain ⟨S, hS⟩ : ∃ S, sumN l = S := ⟨_, rfl⟩
  obtain ⟨Z, hZ⟩ : ∃ Z, sealB l = Z := ⟨_, rfl⟩
  have HZ : Hid (l ++ sum4 S = Z) := Lib.hid (by rw [← hZ, ← hS]; rfl)
  rw [hS] at hs hlts
  rw [hZ]
  clear hS hZ
  have HN := Lib.hid hn
  have HI := Lib.hid hI
  clear hn hI hlt
  go_enter Tryd.func14, Tryd.ntmps14
  go_wp2_with fail
  refine hs.mono ?_
  rintro e w' ⟨rfl, rfl⟩
  clear hs
  have hA : Below w.heap.size w (w.alloc (.cells #[] 5)) := (Below.refl _ w).alloc (Nat.le_refl _) _
  have hx : (w.alloc (.cells #[] 5)).heap[w.heap.size]? = some (.cells #[] 5 (0, 0)) := World.alloc_heap_new _ _
  by_cases hn0 : n = 0
  · subst hn0
    have hl0 : l = [] := List.eq_nil_of_length_eq_zero HN.out
    have HB : Hid (Below w.heap.size w (w.alloc (.cells #[] 5))) := Lib.hid hA
    have HO : Hid ((w.alloc (.cells #[] 5)).ownsRow w.heap.size 5 1 (.slice (some ⟨w.heap.size, 0, none⟩) 0 0) l.length (u8s l)) := Lib.hid (by
      rw [hl0]
      exact own_lit hx (Nat.le_refl _) (Nat.le_refl _) (by omega) rfl rfl rfl)
    clear hA hx
    cases a with
    | none =>
      go_wp2_with fail

      go_loopw [3, 4, 5] (fun s u x wr => ∃ (k : Nat) (m : Nat) (ys : List Nat), k ≤ 4 ∧ x = .int .i64 k ∧ s = .int .u32 m ∧ Hid (S / 256 ^ k = m) ∧ Hid (l ++ (sum4 S).take k = ys) ∧ Hid (wr.ownsRow w.heap.size 5 1 u ys.length (u8s ys)) ∧ Hid (Below w.heap.size w wr)) (fun _ _ x _ => 4 - (intOf x).toNat)
      case atStart => exact ⟨0, S, l, by omega, rfl, rfl, Lib.hid (by simp), Lib.hid (by simp), HO, HB⟩
      case round =>
        clear HO HB
        obtain ⟨k, m, ys, hk, rfl, rfl, HM, HY, HO, HB⟩ := hrel
        obtain ⟨ua, uc, rfl⟩ := own_form HO.out
        by_cases hk4 : k < 4
        · have hki : (k : Int) < 4 := by omega
          have hl1 : ys.length + 1 ≤ 5100 := by
            have := HN.out
            rw [← HY.out]
            simp [sum4_len]
            omega
          have hT := sum4_take S k hk4
          rw [HM.out] at hT
          have HT := Lib.hid hT
          clear hT
          have hmS : m ≤ 4294967295 := by have := HM.out; have := Nat.div_le_self S (256 ^ k); omega
          have hown' := HO.out.alloc (Obj.cells #[Value.int .u8 ((m : Int) % 256)] 5)
          have q7 : (m : Int).tmod 256 = (m : Int) % 256 := Int.tmod_eq_emod_of_nonneg (by omega)
          have q8 : (m : Int).tdiv 256 = (m : Int) / 256 := Int.tdiv_eq_ediv_of_nonneg (by omega)
          go_wp2_with (at_builtin; refine wpList_append_lies _ rfl (.tmp 15) (.tmp 19) 28 rfl w.heap.size 5 i0 (.int .u8 0) 1 1 Tryd.underlying28 hi0 hz0 hz1 hz2 rfl (by decide) (.slice ua ys.length uc) ys.length (u8s ys) rfl hown' ⟨wr.heap.size, 0, none⟩ 1 1 [.int .u8 ((m : Int) % 256)] rfl rfl ?c2d ?c3d (by decide) ?c4d ?c5d ?c6d (wr.heap.size + 1) (by simp) ?_)
          case c3d => simp [Value.oneCell']
          case c4d => unfold maxLen; omega
          case c5d => omega
          case c6d => have := HB.out.size; simp; omega
          case c2d => exact one_cell _ _ _
          intro g cap1 w1 hown1 hgrow hlies _
          rw [bits255] at hown1
          have HO1 : Hid (w1.ownsRow w.heap.size 5 1 (.slice (some ⟨g, 0, none⟩) (ys.length + 1) cap1) (ys ++ [m % 256]).length (u8s (ys ++ [m % 256]))) := Lib.hid (by
            have e1 : (ys ++ [m % 256]).length = ys.length + 1 := by simp
            rw [e1]
            simpa [u8s] using hown1)
          have HB1 : Hid (Below w.heap.size w w1) := Lib.hid ((HB.out.alloc HB.out.size _).grown hgrow (by have := HB.out.size; simp; omega) (own_ge HO.out (Nat.le_refl _)))
          clear hown1 hgrow hlies hown' HO HB
          go_wp2
          case roundEnd =>
            refine ⟨⟨k + 1, m / 256, ys ++ [m % 256], by omega, by simp, by simp, Lib.hid ?_, Lib.hid ?_, HO1, HB1⟩, by simp [intOf]; omega⟩
            · rw [Nat.pow_succ, ← Nat.div_div_eq_div_mul, HM.out]
            · rw [← HY.out, ← HT.out, List.append_assoc]
        · obtain rfl : k = 4 := by omega
          go_wp2
          go_ret
          refine ⟨HB.out, _, rfl, ?_⟩
          have e4 : (sum4 S).take 4 = sum4 S := by rw [List.take_of_length_le]; rw [sum4_len]; omega
          have ey := HY.out
          rw [e4, HZ.out] at ey
          subst ey
          have el : Z.length = 0 + 4 := by rw [← HZ.out, List.length_append, sum4_len, HN.out]
          have := HO.out
          rwa [el] at this ⊢
    | some a =>
      go_wp2_with fail

      go_loopw [3, 4, 5] (fun s u x wr => ∃ (k : Nat) (m : Nat) (ys : List Nat), k ≤ 4 ∧ x = .int .i64 k ∧ s = .int .u32 m ∧ Hid (S / 256 ^ k = m) ∧ Hid (l ++ (sum4 S).take k = ys) ∧ Hid (wr.ownsRow w.heap.size 5 1 u ys.length (u8s ys)) ∧ Hid (Below w.heap.size w wr)) (fun _ _ x _ => 4 - (intOf x).toNat)
      case atStart => exact ⟨0, S, l, by omega, rfl, rfl, Lib.hid (by simp), Lib.hid (by simp), HO, HB⟩
      case round =>
        clear HO HB
        obtain ⟨k, m, ys, hk, rfl, rfl, HM, HY, HO, HB⟩ := hrel
        obtain ⟨ua, uc, rfl⟩ := own_form HO.out
        by_cases hk4 : k < 4
        · have hki : (k : Int) < 4 := by omega
          have hl1 : ys.length + 1 ≤ 5100 := by
            have := HN.out
            rw [← HY.out]
            simp [sum4_len]
            omega
          have hT := sum4_take S k hk4
          rw [HM.out] at hT
          have HT := Lib.hid hT
          clear hT
          have hmS : m ≤ 4294967295 := by have := HM.out; have := Nat.div_le_self S (256 ^ k); omega
          have hown' := HO.out.alloc (Obj.cells #[Value.int .u8 ((m : Int) % 256)] 5)
          have q7 : (m : Int).tmod 256 = (m : Int) % 256 := Int.tmod_eq_emod_of_nonneg (by omega)
          have q8 : (m : Int).tdiv 256 = (m : Int) / 256 := Int.tdiv_eq_ediv_of_nonneg (by omega)
          go_wp2_with (at_builtin; refine wpList_append_lies _ rfl (.tmp 15) (.tmp 19) 28 rfl w.heap.size 5 i0 (.int .u8 0) 1 1 Tryd.underlying28 hi0 hz0 hz1 hz2 rfl (by decide) (.slice ua ys.length uc) ys.length (u8s ys) rfl hown' ⟨wr.heap.size, 0, none⟩ 1 1 [.int .u8 ((m : Int) % 256)] rfl rfl ?c2e ?c3e (by decide) ?c4e ?c5e ?c6e (wr.heap.size + 1) (by simp) ?_)
          case c3e => simp [Value.oneCell']
          case c4e => unfold maxLen; omega
          case c5e => omega
          case c6e => have := HB.out.size; simp; omega
          case c2e => exact one_cell _ _ _
          intro g cap1 w1 hown1 hgrow hlies _
          rw [bits255] at hown1
          have HO1 : Hid (w1.ownsRow w.heap.size 5 1 (.slice (some ⟨g, 0, none⟩) (ys.length + 1) cap1) (ys ++ [m % 256]).length (u8s (ys ++ [m % 256]))) := Lib.hid (by
            have e1 : (ys ++ [m % 256]).length = ys.length + 1 := by simp
            rw [e1]
            simpa [u8s] using hown1)
          have HB1 : Hid (Below w.heap.size w w1) := Lib.hid ((HB.out.alloc HB.out.size _).grown hgrow (by have := HB.out.size; simp; omega) (own_ge HO.out (Nat.le_refl _)))
          clear hown1 hgrow hlies hown' HO HB
          go_wp2
          case roundEnd =>
            refine ⟨⟨k + 1, m / 256, ys ++ [m % 256], by omega, by simp, by simp, Lib.hid ?_, Lib.hid ?_, HO1, HB1⟩, by simp [intOf]; omega⟩
            · rw [Nat.pow_succ, ← Nat.div_div_eq_div_mul, HM.out]
            · rw [← HY.out, ← HT.out, List.append_assoc]
        · obtain rfl : k = 4 := by omega
          go_wp2
          go_ret
          refine ⟨HB.out, _, rfl, ?_⟩
          have e4 : (sum4 S).take 4 = sum4 S := by rw [List.take_of_length_le]; rw [sum4_len]; omega
          have ey := HY.out
          rw [e4, HZ.out] at ey
          subst ey
          have el : Z.length = 0 + 4 := by rw [← HZ.out, List.length_append, sum4_len, HN.out]
          have := HO.out
          rwa [el] at this ⊢
  · obtain ⟨b, off, rfl, y0⟩ := HI.out 0 (by rw [HN.out]; omega)
    have hown0 : (w.alloc (.cells #[] 5)).ownsRow w.heap.size 5 1 (.slice (some ⟨w.heap.size, 0, none⟩) 0 0) 0 [] := own_lit hx (Nat.le_refl _) (Nat.le_refl _) (by omega) rfl rfl rfl
    go_wp2_with (at_builtin; refine wpList_append_lies _ rfl (.tmp 8) (.tmp 9) 28 rfl w.heap.size 5 i0 (.int .u8 0) 1 1 Tryd.underlying28 hi0 hz0 hz1 hz2 rfl (by decide) (.slice (some ⟨w.heap.size, 0, none⟩) 0 0) 0 [] rfl hown0 ⟨b, off, none⟩ n cap (u8s l) rfl ?c1 ?c2 ?c3 ?c7 ?c4 ?c5 ?c6 (w.heap.size + 1) (by simp) ?_)
    case c1 => simp [u8s, HN.out]
    case c2 =>
      intro j u hu
      have hj : j < l.length := by
        have := (List.getElem?_eq_some_iff.1 hu).1
        simpa [u8s] using this
      obtain ⟨b', off', he, hc⟩ := (HI.out.below hA (Nat.le_refl _)) j hj
      cases he
      have : u = .int .u8 ((l.getD j 0 : Nat) : Int) := by
        rw [u8s, List.getElem?_map, List.getElem?_eq_getElem hj] at hu
        rw [List.getD_eq_getElem?_getD, List.getElem?_eq_getElem hj]
        simpa using hu.symm
      rw [this]
      simpa [Addr.add_lit] using hc
    case c3 =>
      intro u hu
      obtain ⟨x, _, rfl⟩ := List.mem_map.1 hu
      rfl
    case c7 => omega
    case c4 => unfold maxLen; omega
    case c5 => omega
    case c6 => simp
    intro g cap1 w1 hown1 hgrow hlies _
    have HB : Hid (Below w.heap.size w w1) := Lib.hid (hA.grown hgrow hA.size (fun r hr => by
      have : w.heap.size = r := by simpa [Value.ownBlock] using hr
      omega))
    have HO : Hid (w1.ownsRow w.heap.size 5 1 (.slice (some ⟨g, 0, none⟩) n cap1) l.length (u8s l)) := Lib.hid (by
      rw [HN.out]
      simpa using hown1)
    clear hown1 hgrow hlies hown0 hA hx y0
    try simp only [Nat.zero_add]
    go_wp2_with fail

    go_loopw [3, 4, 5] (fun s u x wr => ∃ (k : Nat) (m : Nat) (ys : List Nat), k ≤ 4 ∧ x = .int .i64 k ∧ s = .int .u32 m ∧ Hid (S / 256 ^ k = m) ∧ Hid (l ++ (sum4 S).take k = ys) ∧ Hid (wr.ownsRow w.heap.size 5 1 u ys.length (u8s ys)) ∧ Hid (Below w.heap.size w wr)) (fun _ _ x _ => 4 - (intOf x).toNat)
    case atStart => exact ⟨0, S, l, by omega, rfl, rfl, Lib.hid (by simp), Lib.hid (by simp), HO, HB⟩
    case round =>
      clear HO HB
      obtain ⟨k, m, ys, hk, rfl, rfl, HM, HY, HO, HB⟩ := hrel
      obtain ⟨ua, uc, rfl⟩ := own_form HO.out
      by_cases hk4 : k < 4
      · have hki : (k : Int) < 4 := by omega
        have hl1 : ys.length + 1 ≤ 5100 := by
          have := HN.out
          rw [← HY.out]
          simp [sum4_len]
          omega
        have hT := sum4_take S k hk4
        rw [HM.out] at hT
        have HT := Lib.hid hT
        clear hT
        have hmS : m ≤ 4294967295 := by have := HM.out; have := Nat.div_le_self S (256 ^ k); omega
        have hown' := HO.out.alloc (Obj.cells #[Value.int .u8 ((m : Int) % 256)] 5)
        have q7 : (m : Int).tmod 256 = (m : Int) % 256 := Int.tmod_eq_emod_of_nonneg (by omega)
        have q8 : (m : Int).tdiv 256 = (m : Int) / 256 := Int.tdiv_eq_ediv_of_nonneg (by omega)
        go_wp2_with (at_builtin; refine wpList_append_lies _ rfl (.tmp 15) (.tmp 19) 28 rfl w.heap.size 5 i0 (.int .u8 0) 1 1 Tryd.underlying28 hi0 hz0 hz1 hz2 rfl (by decide) (.slice ua ys.length uc) ys.length (u8s ys) rfl hown' ⟨wr.heap.size, 0, none⟩ 1 1 [.int .u8 ((m : Int) % 256)] rfl rfl ?c2b ?c3b (by decide) ?c4b ?c5b ?c6b (wr.heap.size + 1) (by simp) ?_)
        case c3b => simp [Value.oneCell']
        case c4b => unfold maxLen; omega
        case c5b => omega
        case c6b => have := HB.out.size; simp; omega
        case c2b => exact one_cell _ _ _
        intro g cap1 w1 hown1 hgrow hlies _
        rw [bits255] at hown1
        have HO1 : Hid (w1.ownsRow w.heap.size 5 1 (.slice (some ⟨g, 0, none⟩) (ys.length + 1) cap1) (ys ++ [m % 256]).length (u8s (ys ++ [m % 256]))) := Lib.hid (by
          have e1 : (ys ++ [m % 256]).length = ys.length + 1 := by simp
          rw [e1]
          simpa [u8s] using hown1)
        have HB1 : Hid (Below w.heap.size w w1) := Lib.hid ((HB.out.alloc HB.out.size _).grown hgrow (by have := HB.out.size; simp; omega) (own_ge HO.out (Nat.le_refl _)))
        clear hown1 hgrow hlies hown' HO HB
        go_wp2
        case roundEnd =>
          refine ⟨⟨k + 1, m / 256, ys ++ [m % 256], by omega, by simp, by simp, Lib.hid ?_, Lib.hid ?_, HO1, HB1⟩, by simp [intOf]; omega⟩
          · rw [Nat.pow_succ, ← Nat.div_div_eq_div_mul, HM.out]
          · rw [← HY.out, ← HT.out, List.append_assoc]
      · obtain rfl : k = 4 := by omega
        go_wp2
        go_ret
        refine ⟨HB.out, _, rfl, ?_⟩
        have e4 : (sum4 S).take 4 = sum4 S := by rw [List.take_of_length_le]; rw [sum4_len]; omega
        have ey := HY.out
        rw [e4, HZ.out] at ey
        subst ey
        have el : Z.length = n + 4 := by rw [← HZ.out, List.length_append, sum4_len, HN.out]
        have := HO.out
        rwa [el] at this ⊢
end Go.Proofs.YtjbinejaagpleaaDoor
