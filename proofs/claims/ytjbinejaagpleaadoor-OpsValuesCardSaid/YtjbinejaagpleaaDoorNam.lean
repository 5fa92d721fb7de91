/- The iterator over instructions with what their codes name. Asked: the table of codes lies, the instructions lie. -/
import Derived.Test.YtjbinejaagpleaaDoorMay
namespace Go.Proofs.YtjbinejaagpleaaDoor
open Go.RowKit
attribute [local go_sem] Oper.semAt_some

def frmV (c : Int) : Value := .agg #[.string (nm c), .bool (fA c), .bool (fB c), .bool (fN c)]
abbrev encN (ins : List InsP) (k : Nat) : Array Value := #[.agg #[.string (nm (ins.getD k default).c), .bool (fA (ins.getD k default).c), .bool (fB (ins.getD k default).c), .bool (fN (ins.getD k default).c)],
  .agg #[.int .i64 (ins.getD k default).c, .int .i64 (ins.getD k default).a, .int .i64 (ins.getD k default).b, .int .i64 (ins.getD k default).n]]
def blkL (ia : Option Addr) (c : Nat) : List Nat := 0 :: c :: (match ia with
  | some a => [a.block]
  | none => [])
/-- A list's address, if there is something in it. -/
def nz (m : Nat) (ia : Option Addr) : Option Addr := if m = 0 then none else ia
theorem TabC.same {A B : World} {ia : Option Addr} {c : Nat} (h : TabC A) (hs : SameL (blkL ia c) A B) : TabC B := by
  have h0 : B.heap[0]? = A.heap[0]? := hs 0 (by simp [blkL])
  have hc : ∀ o, B.cell? ⟨0, o, none⟩ = A.cell? ⟨0, o, none⟩ := fun o => by simp [World.cell?, h0]
  refine ⟨?_, fun c hcc => ⟨(hc _).trans (h.2 c hcc).1, (hc _).trans (h.2 c hcc).2⟩⟩
  have := h.1
  rcases Nat.eq_zero_or_pos B.heap.size with h1 | h1
  · rw [Array.getElem?_eq_none (by omega), Array.getElem?_eq_getElem this] at h0
    cases h0
  · exact h1
theorem Inss.same {A B : World} {ia : Option Addr} {c m : Nat} {ins : List InsP} (h : Inss A ia ins) (hm : ins.length = m) (hs : SameL (blkL (nz m ia) c) A B) : Inss B ia ins := by
  intro i hi
  obtain ⟨b, off, rfl, h2⟩ := h i hi
  have hm0 : m ≠ 0 := by omega
  have h0 : B.heap[b]? = A.heap[b]? := hs b (by simp [blkL, nz, hm0])
  have hc : ∀ o, B.cell? ⟨b, o, none⟩ = A.cell? ⟨b, o, none⟩ := fun o => by simp [World.cell?, h0]
  refine ⟨b, off, rfl, ?_⟩
  simp only [hc]
  exact h2
theorem same_below {L : List Nat} {A B : World} (h : Below A.heap.size A B) (hl : ∀ j ∈ L, j < A.heap.size) : SameL L A B := fun j hj => h.block j (hl j hj)

theorem named_any {a : Option Addr} {n cap : Nat} (w : World) : Calls Tryd.prog 52 #[.slice a n cap] w fun e w' => e = .returned (.func (.func 75) #[] #[.pointer (some ⟨w.heap.size, 0, none⟩)]) ∧ w' = w.alloc (.cells #[.slice a n cap] 49) := by
  have hmf : ∀ (fn : Fn) (first cap : Array Value) (w : World), (Instr.makeFunc fn first cap).run Tryd.prog w = .ok (.func fn first cap) w := fun _ _ _ _ => rfl
  go_enter Tryd.func52, Tryd.ntmps52
  go_wp2
  go_ret
  exact ⟨rfl, rfl⟩

set_option maxRecDepth 100000 in
set_option maxHeartbeats 2000000 in
theorem named1_in (n : Nat) (hn : 1 ≤ n) {w : World} {c m icap : Nat} (d : Nat) {ia : Option Addr} {ins : List InsP} (hT : TabC w) (hb : w.heap[c]? = some (.cells #[.slice ia m icap] 49 (0, 0))) (hm : ins.length = m) (hm48 : m ≤ 281474976710656) (hI : Inss w ia ins)
    (hlt : ∀ j ∈ blkL (nz m ia) c, j < w.heap.size) :
    ItRun Fence.wide n Tryd.prog 75 #[.pointer (some ⟨c, 0, none⟩)] (encN ins) d (blkL (nz m ia) c) (fun k => k < m) (fun _ => True) (fun k => k = m) (fun k => k + 1) 0 w := by
  intro l J Jx W hS hJ hJx hY h0
  have hTW := hT.same hS
  have hIW := hI.same hm hS
  have hbW : W.heap[c]? = some (.cells #[.slice ia m icap] 49 (0, 0)) := (hS c (by simp [blkL])).trans hb
  have hltW : ∀ j ∈ blkL (nz m ia) c, j < W.heap.size := fun j hj => by
    have h1 := hlt j hj
    have h2 := hS j hj
    rcases Nat.lt_or_ge j W.heap.size with h3 | h3
    · exact h3
    · rw [Array.getElem?_eq_none h3, Array.getElem?_eq_getElem h1] at h2
      cases h2
  clear hT hI hb hlt hS
  have c0 : W.cell? ⟨c, 0, none⟩ = some (.slice ia m icap) := by simp [World.cell?, hbW]
  have HM := Lib.hid hm
  have HJ := Lib.hid hJ
  have HY := Lib.hid hY
  clear hm hJ hY
  refine callsIn_of_wp Tryd.func75 rfl trivial ?_ rfl
  simp only [Tryd.ntmps75, List.size_toArray, List.length_cons, List.length_nil, Nat.reduceAdd, Nat.reduceSub, Array.replicate_succ, Array.replicate_zero, List.push_toArray, List.append_toArray, List.nil_append, List.cons_append]
  gi_wp2_with fail
  clear c0 hbW
  have HT := Lib.hid hTW
  have HI := Lib.hid hIW
  have HL := Lib.hid hltW
  clear hTW hIW hltW
  gi_loopw [9] (fun x wr => ∃ k : Nat, k ≤ m ∧ x = .int .i64 k ∧ Hid (J k wr) ∧ Hid (SameL (blkL (nz m ia) c) W wr) ∧ Hid (W.heap.size ≤ wr.heap.size)) (fun x _ => m - (intOf x).toNat)
  case atStart => exact ⟨0, Nat.zero_le _, rfl, Lib.hid h0, Lib.hid (fun _ _ => rfl), Lib.hid (Nat.le_refl _)⟩
  case round =>
    clear h0
    obtain ⟨k, hk, rfl, HJ0, HS, HZ⟩ := hrel
    by_cases hkm : k < m
    · have hki : (k : Int) < (m : Int) := by omega
      have hI2 := HI.out.same HM.out HS.out
      obtain ⟨b, off, rfl, y0, y1, y2, y3⟩ := hI2 k (by rw [HM.out]; exact hkm)
      have hYk := HY.out k
      dsimp only [encN] at hYk
      obtain ⟨i, hi⟩ : ∃ i, ins.getD k default = i := ⟨_, rfl⟩
      rw [hi] at y0 y1 y2 y3 hYk
      obtain ⟨ci, ai, bi, ni⟩ := i
      dsimp only at y0 y1 y2 y3 hYk
      have HYK := Lib.hid hYk
      have htw := HT.out.same HS.out
      have hB1 : Below wr.heap.size wr (wr.alloc (.cells #[.int .i64 ci, .int .i64 ai, .int .i64 bi, .int .i64 ni] 48)) := (Below.refl _ _).alloc (Nat.le_refl _) _
      have hX : (wr.alloc (.cells #[.int .i64 ci, .int .i64 ai, .int .i64 bi, .int .i64 ni] 48)).heap[wr.heap.size]? = some (.cells #[.int .i64 ci, .int .i64 ai, .int .i64 bi, .int .i64 ni] 48 (0, 0)) := World.alloc_heap_new _ _
      have hszx : (wr.alloc (.cells #[.int .i64 ci, .int .i64 ai, .int .i64 bi, .int .i64 ni] 48)).heap.size = wr.heap.size + 1 := by simp
      have hcf := formOf_any ci _ (htw.below hB1 htw.1)
      unfold FPost at hcf
      obtain ⟨N, hN⟩ : ∃ x, nm ci = x := ⟨_, rfl⟩
      obtain ⟨xa, hxa⟩ : ∃ x, fA ci = x := ⟨_, rfl⟩
      obtain ⟨xb, hxb⟩ : ∃ x, fB ci = x := ⟨_, rfl⟩
      obtain ⟨xn, hxn⟩ : ∃ x, fN ci = x := ⟨_, rfl⟩
      rw [hN, hxa, hxb, hxn] at hcf HYK
      have HCF := Lib.hid hcf
      have HB1 := Lib.hid hB1
      have HX := Lib.hid (And.intro hX hszx)
      clear hi hN hxa hxb hxn hYk hI2 htw hcf hB1 hX hszx
      gi_wp2_with fail
      refine ⟨trivial, CallsIn.mono (callsIn_wide.2 HCF.out) ?_⟩
      rintro e W1 ⟨rfl, hb1⟩
      have HB2 := Lib.hid hb1
      have hX1 := (hb1.block wr.heap.size (by rw [HX.out.2]; exact Nat.lt_succ_self _)).trans HX.out.1
      have hs1 : wr.heap.size < W1.heap.size := Nat.lt_of_lt_of_le (by rw [HX.out.2]; exact Nat.lt_succ_self _) hb1.size
      have d0 : W1.cell? ⟨wr.heap.size, 0, none⟩ = some (.int .i64 ci) := by simp [World.cell?, hX1]
      have d1 : W1.cell? ⟨wr.heap.size, 1, none⟩ = some (.int .i64 ai) := by simp [World.cell?, hX1]
      have d2 : W1.cell? ⟨wr.heap.size, 2, none⟩ = some (.int .i64 bi) := by simp [World.cell?, hX1]
      have d3 : W1.cell? ⟨wr.heap.size, 3, none⟩ = some (.int .i64 ni) := by simp [World.cell?, hX1]
      have hBall : Below wr.heap.size wr (W1.alloc (.cells #[.string N, .bool xa, .bool xb, .bool xn] 86)) := (HB1.out.trans (hb1.mono (by rw [HX.out.2]; omega))).alloc (by omega) _
      have hj2 := HJ.out _ _ _ HJ0.out (Kp.below (a := d) (b := d) hBall)
      have hs2 := same_below hBall (fun j hj => Nat.lt_of_lt_of_le (HL.out j hj) HZ.out)
      have HS2 := Lib.hid (And.intro hs2 hBall.size)
      clear hb1 hX1 HCF HB1 HX y0 y1 y2 y3 hs2 hBall HB2
      gi_wp2_with fail
      obtain ⟨fn, tmps, assign, body, hy, hRR⟩ := HYK.out _ hj2 hkm
      clear hj2
      gi_wp2_with fail
      rw [hy]
      trace_state
      gi_wp2
      refine hRR.mono ?_
      rintro e W3 (⟨rfl, hJ3, hS3, hz3, -⟩ | ⟨rfl, hJx3⟩)
      · have hS4 := (HS.out.trans HS2.out.1).trans hS3
        have hz4 : W.heap.size ≤ W3.heap.size := Nat.le_trans (Nat.le_trans HZ.out HS2.out.2) hz3
        have HJ3 := Lib.hid hJ3
        have HS4 := Lib.hid hS4
        have HZ4 := Lib.hid hz4
        clear hJ3 hS4 hz4 hS3 hz3 hRR hy d0 d1 d2 d3
        gi_wp2
        go_roundw
        case rel => exact ⟨k + 1, by omega, by go_num, HJ3, HS4, HZ4⟩
        case measure => simp [intOf]; omega
      · gi_wp2
        refine bodyPost_ret (results_none rfl _ _ _) rfl ?_
        exact ⟨⟨_, rfl⟩, .inr hJx3⟩
    · obtain rfl : k = m := by omega
      gi_wp2
      go_end0
      exact ⟨⟨_, rfl⟩, .inl ⟨_, rfl, HJ0.out⟩⟩
end Go.Proofs.YtjbinejaagpleaaDoor
