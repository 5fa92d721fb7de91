/- The program's Encode. Asked: the module lies, its slices are within memory; the table of codes. -/
import Derived.Test.YtjbinejaagpleaaDoorWrC
import Derived.Test.YtjbinejaagpleaaDoorWr0
import Derived.Lib.SlBytesConst
import Derived.Test.YtjbinejaagpleaaDoorPure3
namespace Go.Proofs.YtjbinejaagpleaaDoor
open Go.RowKit

theorem flat_len {α : Type} (f : α → List Nat) (c : Nat) : ∀ l : List α, (∀ x ∈ l, (f x).length ≤ c) → (l.flatMap f).length ≤ l.length * c
  | [], _ => by simp
  | x :: l, h => by
    have h1 := h x (List.mem_cons_self ..)
    have h2 := flat_len f c l (fun y hy => h y (List.mem_cons_of_mem _ hy))
    simp only [List.flatMap_cons, List.length_append, List.length_cons]
    rw [Nat.add_mul]
    omega
theorem num10 {n : Nat} (h : n < 1180591620717411303424) : (numB n).length ≤ 10 := numB_len 9 n (by omega)
theorem sgn10 {z : Int} (h : -4611686018427387904 ≤ z ∧ z < 4611686018427387904) : (sgnB z).length ≤ 10 := by
  unfold sgnB
  refine num10 ?_
  unfold sgnN
  split <;> omega
theorem cnt10 {z : Int} (h : z < 4611686018427387904) : (cntB z).length ≤ 10 := by
  unfold cntB
  exact num10 (by omega)
theorem ins31 {i : InsP} (h : iMay i = true) : (insB i).length ≤ 31 := by
  obtain ⟨c, a, b, n⟩ := i
  simp only [iMay, Bool.and_eq_true] at h
  obtain ⟨hc, ha, hb, hn⟩ := h
  have h1 : (if fA c then cntB a else []).length ≤ 10 := by
    split
    · rename_i hf
      rw [hf] at ha
      have : 0 ≤ a ∧ a ≤ 65535 := by simpa [pMay, bMay] using ha
      exact cnt10 (by omega)
    · simp
  have h2 : (if fB c then cntB b else []).length ≤ 10 := by
    split
    · rename_i hf
      rw [hf] at hb
      have : 0 ≤ b ∧ b ≤ 65535 := by simpa [pMay, bMay] using hb
      exact cnt10 (by omega)
    · simp
  have h3 : (if fN c then sgnB n else []).length ≤ 10 := by
    split
    · rename_i hf
      rw [hf] at hn
      have : -2147483648 ≤ n ∧ n ≤ 2147483647 := by simpa [vMay] using hn
      exact sgn10 (by omega)
    · simp
  simp only [insB, List.length_cons, List.length_append]
  omega
theorem lin41 : ∀ (is : List InsP) (ls : List Int) (ah : Int), is.all iMay = true → (∀ x ∈ ls, 0 ≤ x ∧ x ≤ 65536) → 0 ≤ ah ∧ ah ≤ 65536 → (linB ah is ls).length ≤ is.length * 41
  | [], ls, ah, _, _, _ => by simp [linB]
  | i :: is, [], ah, _, _, _ => by simp [linB]
  | i :: is, l :: ls, ah, hi, hl, ha => by
    simp only [List.all_cons, Bool.and_eq_true] at hi
    have hl0 := hl l (List.mem_cons_self ..)
    have h1 := ins31 hi.1
    have h2 : (sgnB (l - ah)).length ≤ 10 := sgn10 (by omega)
    have h3 := lin41 is ls l hi.2 (fun x hx => hl x (List.mem_cons_of_mem _ hx)) hl0
    simp only [linB, List.length_append, List.length_cons]
    rw [Nat.add_mul]
    omega
theorem thr_len {c : CodeP} (h : tMayP c = true) : (thrP c).length ≤ 3000000 := by
  obtain ⟨nm, lo, is, ls⟩ := c
  simp only [tMayP, bMay, Bool.and_eq_true, decide_eq_true_eq, beq_iff_eq] at h
  obtain ⟨hn, hlo, he, ⟨hi6, hi⟩, hl6, hl⟩ := h
  have hl' : ∀ x ∈ ls, 0 ≤ x ∧ x ≤ 65536 := fun x hx => by
    have := List.all_eq_true.1 hl x hx
    simpa [bMay] using this
  have h1 : (numB nm.length).length ≤ 10 := num10 (by omega)
  have h2 : (cntB lo).length ≤ 10 := cnt10 (by omega)
  have h3 : (numB is.length).length ≤ 10 := num10 (by omega)
  have h4 := lin41 is ls 0 hi hl' ⟨by decide, by decide⟩
  simp only [thrP, List.length_append]
  omega
theorem list_len {α : Type} (f : α → List Nat) (c : Nat) (l : List α) (hl : l.length ≤ 64) (h : ∀ x ∈ l, (f x).length ≤ c) : (listB f l).length ≤ 10 + 64 * c := by
  have h1 := flat_len f c l h
  have h2 : (numB l.length).length ≤ 10 := num10 (by omega)
  have h3 : l.length * c ≤ 64 * c := Nat.mul_le_mul_right c hl
  unfold listB
  rw [List.length_append]
  omega
theorem mod_len {m : ModP} (h : mMayP m = true) : (modP m).length ≤ 200000000 := by
  obtain ⟨vs, ars, cs, mu, co, ts⟩ := m
  simp only [mMayP, bMay, Bool.and_eq_true, decide_eq_true_eq] at h
  obtain ⟨hmu, hco, ⟨hv, hva⟩, ⟨ha, haa⟩, ⟨hc, hca⟩, ht, hta⟩ := h
  have h1 := list_len sgnB 10 vs hv (fun x hx => by
    have := List.all_eq_true.1 hva x hx
    simp only [vMay, decide_eq_true_eq] at this
    exact sgn10 (by omega))
  have h2 := list_len cntB 10 ars ha (fun x hx => by
    have := List.all_eq_true.1 haa x hx
    simp only [bMay, decide_eq_true_eq] at this
    exact cnt10 (by omega))
  have h3 := list_len cntB 10 cs hc (fun x hx => by
    have := List.all_eq_true.1 hca x hx
    simp only [bMay, decide_eq_true_eq] at this
    exact cnt10 (by omega))
  have h4 : (cntB mu).length ≤ 10 := cnt10 (by omega)
  have h5 : (cntB co).length ≤ 10 := cnt10 (by omega)
  have h6 := list_len thrP 3000000 ts ht (fun x hx => thr_len (List.all_eq_true.1 hta x hx))
  simp only [modP, List.length_append, List.length_cons, List.length_nil]
  omega
theorem listB_map {α β : Type} (g : β → α) (f : α → List Nat) (f' : β → List Nat) (h : ∀ x, f (g x) = f' x) (l : List β) : listB f (l.map g) = listB f' l := by
  unfold listB
  rw [List.length_map, List.flatMap_map]
  congr 1
  have : (fun x => f (g x)) = f' := funext h
  rw [this]
/-- What Encode leaves. -/
def EPost (w : World) (m : ModM) (e : Ending) (w' : World) : Prop := Below w.heap.size w w' ∧
  if mMay m = true then ∃ v, e = .returned (.tuple #[v, .int .i64 0]) ∧ w'.ownsRow w.heap.size 5 1 v (sealB (modP m.p)).length (u8s (sealB (modP m.p)))
  else e = .returned (.tuple #[.slice none 0 0, .int .i64 2])
set_option maxRecDepth 100000 in
set_option maxHeartbeats 16000000 in
theorem encode_any (m : ModM) (w : World) (hT : TabC w) (hok : ModOk w m) (hwf : ∀ c ∈ m.threads, CodeW w.heap.size c) :
    Calls Tryd.prog 7 #[.agg #[.slice m.va m.vars.length m.vcap, .slice m.aa m.arrays.length m.acap, .slice m.ca m.chans.length m.ccap, .int .i64 m.mu, .int .i64 m.co, .slice m.ta m.threads.length m.tcap]] w (EPost w m) := by
  have hmf : ∀ (fn : Fn) (first cap : Array Value) (w : World), (Instr.makeFunc fn first cap).run Tryd.prog w = .ok (.func fn first cap) w := fun _ _ _ _ => rfl
  have hB0 : Below w.heap.size w (w.alloc (.cells #[.slice m.va m.vars.length m.vcap, .slice m.aa m.arrays.length m.acap, .slice m.ca m.chans.length m.ccap, .int .i64 m.mu, .int .i64 m.co, .slice m.ta m.threads.length m.tcap] 27)) := (Below.refl _ w).alloc (Nat.le_refl _) _
  have hx0 : (w.alloc (.cells #[.slice m.va m.vars.length m.vcap, .slice m.aa m.arrays.length m.acap, .slice m.ca m.chans.length m.ccap, .int .i64 m.mu, .int .i64 m.co, .slice m.ta m.threads.length m.tcap] 27)).heap[w.heap.size]? = some (.cells #[.slice m.va m.vars.length m.vcap, .slice m.aa m.arrays.length m.acap, .slice m.ca m.chans.length m.ccap, .int .i64 m.mu, .int .i64 m.co, .slice m.ta m.threads.length m.tcap] 27 (0, 0)) := World.alloc_heap_new _ _
  have hsz : (w.alloc (.cells #[.slice m.va m.vars.length m.vcap, .slice m.aa m.arrays.length m.acap, .slice m.ca m.chans.length m.ccap, .int .i64 m.mu, .int .i64 m.co, .slice m.ta m.threads.length m.tcap] 27)).heap.size = w.heap.size + 1 := by simp
  have hck := check_any m _ (hT.below hB0 hT.1) (hok.below hB0 (Nat.le_refl _))
  obtain ⟨W0, hW0⟩ : ∃ W0, w.alloc (.cells #[.slice m.va m.vars.length m.vcap, .slice m.aa m.arrays.length m.acap, .slice m.ca m.chans.length m.ccap, .int .i64 m.mu, .int .i64 m.co, .slice m.ta m.threads.length m.tcap] 27) = W0 := ⟨_, rfl⟩
  have HW0 := Lib.hid hW0
  rw [hW0] at hB0 hx0 hsz hck
  have HB0 := Lib.hid hB0
  have HX0 := Lib.hid hx0
  have HT := Lib.hid hT
  have HOK := Lib.hid hok
  have HWF := Lib.hid hwf
  have hw0 : 0 < w.heap.size := hT.1
  have HSZ := Lib.hid hsz
  clear hW0 hB0 hx0 hT hok hwf hsz
  cases hmy : mMay m with
  | false =>
    rw [hmy] at hck
    have HMY := Lib.hid hmy
    clear hmy
    go_enter Tryd.func7, Tryd.ntmps7
    go_wp2_with fail
    rw [HW0.out]
    refine hck.mono ?_
    rintro e w1 ⟨rfl, hb1⟩
    have HB1 := Lib.hid (HB0.out.trans (hb1.mono HB0.out.size))
    clear hb1 hck
    go_wp2
    go_ret2
    exact ⟨HB1.out, by rw [if_neg (by rw [HMY.out]; decide)]; rfl⟩
  | true =>
    rw [hmy] at hck
    have HMY := Lib.hid hmy
    clear hmy
    go_enter Tryd.func7, Tryd.ntmps7
    go_wp2_with fail
    rw [HW0.out]
    refine hck.mono ?_
    rintro e w1 ⟨rfl, hb1⟩
    have HB1 := Lib.hid (HB0.out.trans (hb1.mono HB0.out.size))
    have hx1 := (hb1.block w.heap.size (by rw [HSZ.out]; omega)).trans HX0.out
    have hs1 : w.heap.size < w1.heap.size := (Array.getElem?_eq_some_iff.1 hx1).1
    have HX1 := Lib.hid hx1
    clear hb1 hck hx1
    have kc := Lib.run_convert_bytes_const (P := Tryd.prog) w1 28 5 #[.int .u8 87, .int .u8 65, .int .u8 82, .int .u8 80] 4 4 Tryd.underlying28 Tryd.underlying5
    have hb2 : Below w1.heap.size w1 ((w1.alloc (.cells #[.int .u8 87, .int .u8 65, .int .u8 82, .int .u8 80] 5 (4, 5))).alloc (.cells #[.slice (some ⟨w1.heap.size, 0, none⟩) 4 4] 56)) := ((Below.refl _ w1).alloc (Nat.le_refl _) _).alloc (by simp) _
    have hwr0 : Wr0 ((w1.alloc (.cells #[.int .u8 87, .int .u8 65, .int .u8 82, .int .u8 80] 5 (4, 5))).alloc (.cells #[.slice (some ⟨w1.heap.size, 0, none⟩) 4 4] 56)) (w1.heap.size + 1) w1.heap.size w1.heap.size := by
      refine ⟨by have := World.alloc_heap_new (w1.alloc (.cells #[.int .u8 87, .int .u8 65, .int .u8 82, .int .u8 80] 5 (4, 5))) (.cells #[.slice (some ⟨w1.heap.size, 0, none⟩) 4 4] 56); rwa [World.size_alloc] at this, fun j u hu => ?_, Nat.le_refl _, by simp; omega, by omega⟩
      have hx : ((w1.alloc (.cells #[.int .u8 87, .int .u8 65, .int .u8 82, .int .u8 80] 5 (4, 5))).alloc (.cells #[.slice (some ⟨w1.heap.size, 0, none⟩) 4 4] 56)).heap[w1.heap.size]? = some (.cells #[.int .u8 87, .int .u8 65, .int .u8 82, .int .u8 80] 5 (4, 5)) := (Below.heap_alloc _ _ w1.heap.size (by simp)).trans (World.alloc_heap_new w1 _)
      rw [Addr.add_lit]
      have h2 : (#[.int .u8 87, .int .u8 65, .int .u8 82, .int .u8 80] : Array Value)[j]? = some u := by
        have h3 : u8s [87, 65, 82, 80] = (#[.int .u8 87, .int .u8 65, .int .u8 82, .int .u8 80] : Array Value).toList := rfl
        rw [h3] at hu
        simpa using hu
      have h4 : ((w1.alloc (.cells #[.int .u8 87, .int .u8 65, .int .u8 82, .int .u8 80] 5 (4, 5))).alloc (.cells #[.slice (some ⟨w1.heap.size, 0, none⟩) 4 4] 56)).cell? ⟨w1.heap.size, j, none⟩ = (#[.int .u8 87, .int .u8 65, .int .u8 82, .int .u8 80] : Array Value)[j]? := by simp [World.cell?, hx]
      rw [show 0 + j = j by omega, h4, h2]
    have hmp := (mMay_p m).symm.trans HMY.out
    have hlen := mod_len hmp
    have hmay := HMY.out
    simp only [mMay, vOk, aOk, cOk, tOk, bMay, Bool.and_eq_true, decide_eq_true_eq] at hmay
    obtain ⟨hmu, hco, ⟨hv6, hva⟩, ⟨ha6, haa⟩, ⟨hc6, hca⟩, ht6, hta⟩ := hmay
    have hB2 : Below w.heap.size w ((w1.alloc (.cells #[.int .u8 87, .int .u8 65, .int .u8 82, .int .u8 80] 5 (4, 5))).alloc (.cells #[.slice (some ⟨w1.heap.size, 0, none⟩) 4 4] 56)) := HB1.out.trans (hb2.mono HB1.out.size)
    have hbw : w.heap.size ≤ w1.heap.size := HB1.out.size
    have HOK2 := Lib.hid (fun W (h : Below w1.heap.size ((w1.alloc (.cells #[.int .u8 87, .int .u8 65, .int .u8 82, .int .u8 80] 5 (4, 5))).alloc (.cells #[.slice (some ⟨w1.heap.size, 0, none⟩) 4 4] 56)) W) => HOK.out.below (hB2.trans (h.mono hbw)) (Nat.le_refl _))
    have hT2 : TabC ((w1.alloc (.cells #[.int .u8 87, .int .u8 65, .int .u8 82, .int .u8 80] 5 (4, 5))).alloc (.cells #[.slice (some ⟨w1.heap.size, 0, none⟩) 4 4] 56)) := HT.out.below hB2 hw0
    have hx2 : ((w1.alloc (.cells #[.int .u8 87, .int .u8 65, .int .u8 82, .int .u8 80] 5 (4, 5))).alloc (.cells #[.slice (some ⟨w1.heap.size, 0, none⟩) 4 4] 56)).heap[w.heap.size]? = some (.cells #[.slice m.va m.vars.length m.vcap, .slice m.aa m.arrays.length m.acap, .slice m.ca m.chans.length m.ccap, .int .i64 m.mu, .int .i64 m.co, .slice m.ta m.threads.length m.tcap] 27 (0, 0)) := (hb2.block w.heap.size hs1).trans HX1.out
    have hbase0 : 0 < w1.heap.size := by omega
    have hm4 : magB.length = 4 := rfl
    have hcds : listB thrP m.p.threads = listB thrB m.threads := listB_map CodeM.p thrP thrB (fun c => (thrB_p c).symm) m.threads
    have hmod : modP m.p = magB ++ (listB sgnB m.vars ++ (listB cntB m.arrays ++ (listB cntB m.chans ++ (cntB m.mu ++ (cntB m.co ++ listB thrB m.threads))))) := by
      rw [← hcds]
      rfl
    rw [hmod] at hlen
    simp only [List.length_append] at hlen
    have hc1 := writeVars0_any hwr0 (Nat.le_succ _) (a := m.va) (l := m.vars) (n := m.vars.length) (cap := m.vcap) rfl (fun W h => (HOK2.out W h).vv) (fun z hz => by
      have := List.all_eq_true.1 hva z hz
      simp only [vMay, decide_eq_true_eq] at this
      omega) (by omega) (by omega)
    have q0 := cell_blk (k := 0) hx2 rfl
    have HWR0 := Lib.hid hwr0
    have HT2 := Lib.hid hT2
    have HX2 := Lib.hid hx2
    have HMOD := Lib.hid hmod
    have HHL := Lib.hid hlen
    have HVA := Lib.hid (And.intro hva (And.intro haa (And.intro hca hta)))
    have HB2 := Lib.hid hB2
    have hL4 : listB cntB m.arrays = listB cntB m.arrays := rfl
    clear hb2 hwr0 hmp hlen hB2 hT2 hx2 hcds hmod hva haa hca hta hL4
    go_wp2_with fail
    refine hc1.mono ?_
    rintro e w3 ⟨rfl, v3, hw3, hk3⟩
    have hts3 : Ts ((w1.alloc (.cells #[.int .u8 87, .int .u8 65, .int .u8 82, .int .u8 80] 5 (4, 5))).alloc (.cells #[.slice (some ⟨w1.heap.size, 0, none⟩) 4 4] 56)) w3 (w1.heap.size + 1) w1.heap.size (.slice (some ⟨w1.heap.size, 0, none⟩) 4 4) v3 (magB ++ listB sgnB m.vars) [(w.heap.size, .cells #[.slice m.va m.vars.length m.vcap, .slice m.aa m.arrays.length m.acap, .slice m.ca m.chans.length m.ccap, .int .i64 m.mu, .int .i64 m.co, .slice m.ta m.threads.length m.tcap] 27 (0, 0))] := by
      have hbl := HWR0.out.below hk3 (Nat.le_succ _)
      refine ⟨hw3, hk3, fun x hx => ?_, HT2.out.below hbl hbase0⟩
      obtain rfl : x = _ := by simpa using hx
      exact (hbl.block w.heap.size hs1).trans HX2.out
    have HS3 := Lib.hid hts3
    have HBW3 := Lib.hid (HWR0.out.below hk3 (Nat.le_succ _))
    generalize hWW2 : ((w1.alloc (.cells #[.int .u8 87, .int .u8 65, .int .u8 82, .int .u8 80] 5 (4, 5))).alloc (.cells #[.slice (some ⟨w1.heap.size, 0, none⟩) 4 4] 56)) = W2 at *
    clear hWW2 hc1 hw3 hk3 hts3 q0 kc
    have q0 := HS3.out.cA 0 (k := 1) rfl rfl
    have hc := writeInts_any HS3.out.wr (Nat.le_succ _) (a := m.aa) (l := m.arrays) (n := m.arrays.length) (cap := m.acap) rfl (fun W h => (HOK2.out W (HBW3.out.trans h)).av) (fun z hz => by have := List.all_eq_true.1 HVA.out.2.1 z hz; simp only [bMay, decide_eq_true_eq] at this; omega) (by have := HHL.out; simp only [List.length_append]; omega)
    go_wp2_with fail
    refine hc.mono ?_
    rintro e w4 ⟨rfl, v4, hw4, hk4⟩
    have HS4 := Lib.hid (HS3.out.go rfl (Nat.le_succ _) hbase0 hw4 hk4)
    have HBW4 := Lib.hid (HBW3.out.trans (hk4.below HS3.out.wr (Nat.le_succ _)))
    clear hc hw4 hk4 HS3 HBW3 q0
    have q0 := HS4.out.cA 0 (k := 2) rfl rfl
    have hc := writeInts_any HS4.out.wr (Nat.le_succ _) (a := m.ca) (l := m.chans) (n := m.chans.length) (cap := m.ccap) rfl (fun W h => (HOK2.out W (HBW4.out.trans h)).cv) (fun z hz => by have := List.all_eq_true.1 HVA.out.2.2.1 z hz; simp only [bMay, decide_eq_true_eq] at this; omega) (by have := HHL.out; simp only [List.length_append]; omega)
    go_wp2_with fail
    refine hc.mono ?_
    rintro e w5 ⟨rfl, v5, hw5, hk5⟩
    have HS5 := Lib.hid (HS4.out.go rfl (Nat.le_succ _) hbase0 hw5 hk5)
    have HBW5 := Lib.hid (HBW4.out.trans (hk5.below HS4.out.wr (Nat.le_succ _)))
    clear hc hw5 hk5 HS4 HBW4 q0
    have q0 := HS5.out.cA 0 (k := 3) rfl rfl
    have hc := countZ_any HS5.out.wr m.mu (by omega) (by omega) (by have := HHL.out; simp only [List.length_append]; omega)
    go_wp2_with fail
    refine hc.mono ?_
    rintro e w6 ⟨rfl, v6, hw6, hk6⟩
    have HS6 := Lib.hid (HS5.out.go rfl (Nat.le_succ _) hbase0 hw6 hk6)
    have HBW6 := Lib.hid (HBW5.out.trans (hk6.below HS5.out.wr (Nat.le_succ _)))
    clear hc hw6 hk6 HS5 HBW5 q0
    have q0 := HS6.out.cA 0 (k := 4) rfl rfl
    have hc := countZ_any HS6.out.wr m.co (by omega) (by omega) (by have := HHL.out; simp only [List.length_append]; omega)
    go_wp2_with fail
    refine hc.mono ?_
    rintro e w7 ⟨rfl, v7, hw7, hk7⟩
    have HS7 := Lib.hid (HS6.out.go rfl (Nat.le_succ _) hbase0 hw7 hk7)
    have HBW7 := Lib.hid (HBW6.out.trans (hk7.below HS6.out.wr (Nat.le_succ _)))
    clear hc hw7 hk7 HS6 HBW6 q0
    have q0 := HS7.out.cA 0 (k := 5) rfl rfl
    have hc := writeCodes_any HS7.out.wr (Nat.le_succ _) hbase0 HS7.out.tb (a := m.ta) (l := m.threads) (n := m.threads.length) (cap := m.tcap) rfl ht6 (fun W h => (HOK2.out W (HBW7.out.trans h)).tv) (fun c hc => ⟨⟨fun a ha => by have := (HWF.out c hc).1 a ha; omega, (HWF.out c hc).2⟩, List.all_eq_true.1 HVA.out.2.2.2 c hc⟩) (by have := HHL.out; simp only [List.length_append]; omega)
    go_wp2_with fail
    refine hc.mono ?_
    rintro e w8 ⟨rfl, v8, hw8, hk8⟩
    have HS8 := Lib.hid (HS7.out.go rfl (Nat.le_succ _) hbase0 hw8 hk8)
    have HBW8 := Lib.hid (HBW7.out.trans (hk8.below HS7.out.wr (Nat.le_succ _)))
    clear hc hw8 hk8 HS7 HBW7 q0
    have hc := last_any HS8.out.wr (by have := HHL.out; simp only [List.length_append]; omega)
    go_wp2_with fail
    refine hc.mono ?_
    rintro e w9 ⟨rfl, v9, hw9, hk9⟩
    have HS9 := Lib.hid (HS8.out.go rfl (Nat.le_succ _) hbase0 hw9 hk9)
    have HBW9 := Lib.hid (HBW8.out.trans (hk9.below HS8.out.wr (Nat.le_succ _)))
    have HY : Hid (sealB (magB ++ listB sgnB m.vars ++ listB cntB m.arrays ++ listB cntB m.chans ++ cntB m.mu ++ cntB m.co ++ listB thrB m.threads) = sealB (modP m.p)) := Lib.hid (by rw [HMOD.out]; simp only [List.append_assoc])
    clear hc hw9 hk9 HS8 HBW8
    have q0 := HS9.out.wr.bx.cell
    go_wp2
    go_ret2
    refine ⟨HB2.out.trans (HBW9.out.mono hbw), ?_⟩
    rw [if_pos HMY.out]
    have ho := HS9.out.wr.ow
    rw [HY.out] at ho
    exact ⟨_, rfl, ownsRow_base ho hbw⟩
end Go.Proofs.YtjbinejaagpleaaDoor
