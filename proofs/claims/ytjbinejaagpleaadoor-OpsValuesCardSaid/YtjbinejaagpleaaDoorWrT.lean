/- A thread's code is written. Asked: the writer lies, with its own row of bytes; the code lies and may be; the table of codes. -/
import Derived.Test.YtjbinejaagpleaaDoorHeld
import Derived.Test.YtjbinejaagpleaaDoorNam
namespace Go.Proofs.YtjbinejaagpleaaDoor
open Go.RowKit
attribute [local go_sem] Oper.semAt_some

def insB (i : InsP) : List Nat := i.c.toNat :: ((if fA i.c then cntB i.a else []) ++ ((if fB i.c then cntB i.b else []) ++ (if fN i.c then sgnB i.n else [])))
def linB : Int → List InsP → List Int → List Nat
  | ah, i :: is, l :: ls => insB i ++ (sgnB (l - ah) ++ linB l is ls)
  | _, _, _ => []
def headB (c : CodeM) : List Nat := numB c.name.size ++ (natsB c.name ++ (cntB c.locals ++ numB c.ins.length))
def thrB (c : CodeM) : List Nat := headB c ++ linB 0 c.ins c.lines
/-- The line ahead of the k-th. -/
def prevL (ls : List Int) (k : Nat) : Int := if k = 0 then 0 else ls.getD (k - 1) 0
theorem linB_take : ∀ (ins : List InsP) (ls : List Int) (ah : Int) (k : Nat), k < ins.length → ins.length = ls.length →
    linB ah (ins.take (k + 1)) (ls.take (k + 1)) = linB ah (ins.take k) (ls.take k) ++ (insB (ins.getD k default) ++ sgnB (ls.getD k 0 - (if k = 0 then ah else ls.getD (k - 1) 0)))
  | [], _, _, _, h, _ => by simp at h
  | _ :: _, [], _, _, _, h => by simp at h
  | i :: is, l :: ls, ah, 0, _, _ => by simp [linB]
  | i :: is, l :: ls, ah, k + 1, h, he => by
    have hr := linB_take is ls l k (by simpa using h) (by simpa using he)
    simp only [List.take_succ_cons, linB, List.append_assoc, List.getD_cons_succ] at hr ⊢
    rw [hr]
    simp only [List.append_assoc, Nat.add_eq_zero_iff, Nat.one_ne_zero, and_false, if_false, Nat.add_sub_cancel]
    congr 6
    by_cases hk : k = 0
    · subst hk; simp
    · rw [if_neg hk]
      obtain ⟨j, rfl⟩ : ∃ j, k = j + 1 := ⟨k - 1, by omega⟩
      simp

theorem linB_len : ∀ (ins : List InsP) (ls : List Int) (ah : Int) (k : Nat), (linB ah (ins.take k) (ls.take k)).length ≤ (linB ah ins ls).length
  | [], ls, _, k => by simp [linB]
  | i :: is, [], _, k => by cases k <;> simp [linB]
  | i :: is, l :: ls, ah, 0 => by simp [linB]
  | i :: is, l :: ls, ah, k + 1 => by
    have := linB_len is ls l k
    simp only [List.take_succ_cons, linB, List.length_append]
    omega
theorem wt_cases (c : Int) : wt c = 0 ∨ wt c = 1 ∨ wt c = 2 ∨ wt c = 3 := by
  unfold wt
  split
  · rename_i h
    simp only [isC, decide_eq_true_eq] at h
    have h1 : ∀ j : Fin 35, wtL.getD j 0 = 0 ∨ wtL.getD j 0 = 1 ∨ wtL.getD j 0 = 2 ∨ wtL.getD j 0 = 3 := by decide +kernel
    exact h1 ⟨c.toNat, by omega⟩
  · exact .inl rfl
theorem f_cases (c : Int) : (fA c = false ∧ fB c = false ∧ fN c = false) ∨ (fA c = true ∧ fB c = false ∧ fN c = false) ∨ (fA c = true ∧ fB c = true ∧ fN c = false) ∨ (fA c = false ∧ fB c = false ∧ fN c = true) := by
  unfold fA fB fN
  rcases wt_cases c with h | h | h | h <;> rw [h] <;> decide
/-- What is known between rounds. -/
def InvT (w : World) (b base : Nat) (v : Value) (p2 p4 p5 c N : Nat) (ia la : Option Addr) (m icap lcap : Nat) (ins : List InsP) (lines : List Int) (hd : List Nat) (k : Nat) (W : World) : Prop :=
  ∃ u ys lb lo cp, hd ++ linB 0 (ins.take k) (lines.take k) = ys ∧ (k < m → la = some ⟨lb, lo, none⟩) ∧ k ≤ m ∧ N ≤ W.heap.size ∧
    Rs w W (w.heap.size + 1) b base v u ys [(p2, .cells #[.pointer (some ⟨b, 0, none⟩)] 52 (0, 0)), (p4, .cells #[.int .i64 (prevL lines k)] 3 (0, 0)), (p5, .cells #[.slice (if k < m then some ⟨lb, lo + k, none⟩ else cp) (m - k) (lcap - k)] 23 (0, 0)), (c, .cells #[.slice ia m icap] 49 (0, 0))]
/-- The end of a round. -/
theorem rd_fin {w W2 Wn : World} {b base p4 p5 c N pf pi m icap lcap k lb lo' : Nat} {v u un : Value} {ys ysn hd : List Nat} {ia pa : Option Addr} {ins : List InsP} {lines : List Int} {i : InsP} {xl : Int} {fo io : Obj} {xs0 : List Nat} (hW : Wr w b base v xs0)
    (h2 : Rs w W2 (w.heap.size + 1) b base v u ys [(w.heap.size, .cells #[.pointer (some ⟨b, 0, none⟩)] 52 (0, 0)), (p4, .cells #[.int .i64 (prevL lines k)] 3 (0, 0)), (p5, .cells #[.slice (some ⟨lb, lo' + k, none⟩) (m - k) (lcap - k)] 23 (0, 0)), (c, .cells #[.slice ia m icap] 49 (0, 0)), (pf, fo), (pi, io)])
    (hn : Rs w Wn (w.heap.size + 1) b base v un ysn [(w.heap.size, .cells #[.pointer (some ⟨b, 0, none⟩)] 52 (0, 0)), (p4, .cells #[.int .i64 (prevL lines k)] 3 (0, 0)), (p5, .cells #[.slice (some ⟨lb, lo' + k, none⟩) (m - k) (lcap - k)] 23 (0, 0)), (c, .cells #[.slice ia m icap] 49 (0, 0)), (pf, fo), (pi, io)])
    (hk : WK W2 Wn b u un) (hpa : (if lcap - k = 1 then some (⟨lb, lo' + k, none⟩ : Addr) else some ⟨lb, lo' + k + 1, none⟩) = pa) (hcap : m ≤ lcap) (hkm : k < m)
    (hy : ys ++ (insB i ++ sgnB (xl - prevL lines k)) = ysn) (hg : hd ++ linB 0 (ins.take k) (lines.take k) = ys)
    (hT : linB 0 (ins.take (k + 1)) (lines.take (k + 1)) = linB 0 (ins.take k) (lines.take k) ++ (insB i ++ sgnB (xl - (if k = 0 then 0 else lines.getD (k - 1) 0)))) (hxl : lines.getD k 0 = xl)
    (_hN : N ≤ W2.heap.size) (hNn : N ≤ Wn.heap.size) (hcN : c < N) (hp4 : w.heap.size + 2 ≤ p4) (hp5 : w.heap.size + 2 ≤ p5) (hp45 : p4 ≠ p5) (hc4 : p4 < c) (hc5 : p5 < c) (hib : ∀ a, nz m ia = some a → a.block < base) (hb : base ≤ b) (h0 : 0 < base) (_hw0 : 0 < w.heap.size) :
    KeepsOthers W2 ((Wn.setCell ⟨p4, 0, none⟩ (.int .i64 xl)).setCell ⟨p5, 0, none⟩ (.slice pa (m - k - 1) (lcap - k - 1))).drew ∧ SameL (blkL (nz m ia) c) W2 ((Wn.setCell ⟨p4, 0, none⟩ (.int .i64 xl)).setCell ⟨p5, 0, none⟩ (.slice pa (m - k - 1) (lcap - k - 1))).drew ∧ True ∧
      InvT w b base v w.heap.size p4 p5 c N ia (some ⟨lb, lo', none⟩) m icap lcap ins lines hd (k + 1) ((Wn.setCell ⟨p4, 0, none⟩ (.int .i64 xl)).setCell ⟨p5, 0, none⟩ (.slice pa (m - k - 1) (lcap - k - 1))).drew := by
  have hbs := hW.bs
  have hbl := hW.bx.lt
  have b4 : p4 ≠ b := by omega
  have b5 : p5 ≠ b := by omega
  have r4 : some p4 ≠ un.ownBlock := fun e => by
    obtain ⟨cs, hc⟩ := row_obj hn.ts.wr.ow e.symm
    have h := hn.ts.hl (p4, .cells #[.int .i64 (prevL lines k)] 3 (0, 0)) (by simp)
    have h' := hc.symm.trans h
    simp at h'
  have r5 : some p5 ≠ un.ownBlock := fun e => by
    obtain ⟨cs, hc⟩ := row_obj hn.ts.wr.ow e.symm
    have h := hn.ts.hl (p5, .cells #[.slice (some ⟨lb, lo' + k, none⟩) (m - k) (lcap - k)] 23 (0, 0)) (by simp)
    have h' := hc.symm.trans h
    simp at h'
  have hother : ∀ j, j ≠ p4 → j ≠ p5 → ((Wn.setCell ⟨p4, 0, none⟩ (.int .i64 xl)).setCell ⟨p5, 0, none⟩ (.slice pa (m - k - 1) (lcap - k - 1))).drew.heap[j]? = Wn.heap[j]? := fun j h4 h5 =>
    (Below.heap_setCell _ ⟨p5, 0, none⟩ _ j h5).trans (Below.heap_setCell Wn ⟨p4, 0, none⟩ _ j h4)
  have hc2 := h2.ts.hl (c, .cells #[.slice ia m icap] 49 (0, 0)) (by simp)
  have hcn := hn.ts.hl (c, .cells #[.slice ia m icap] 49 (0, 0)) (by simp)
  have hp2n := hn.ts.hl (w.heap.size, .cells #[.pointer (some ⟨b, 0, none⟩)] 52 (0, 0)) (by simp)
  have h4n := hn.ts.hl (p4, .cells #[.int .i64 (prevL lines k)] 3 (0, 0)) (by simp)
  have h5n := hn.ts.hl (p5, .cells #[.slice (some ⟨lb, lo' + k, none⟩) (m - k) (lcap - k)] 23 (0, 0)) (by simp)
  have hbel := hk.below h2.ts.wr hb
  refine ⟨(hk.others h2.ts.wr).trans (((KeepsOthers.setCell _ _ _).trans (KeepsOthers.setCell _ _ _)).trans (KeepsOthers.drew _)), ?_, trivial, ?_⟩
  · intro j hj
    have hlow : j < base → ((Wn.setCell ⟨p4, 0, none⟩ (.int .i64 xl)).setCell ⟨p5, 0, none⟩ (.slice pa (m - k - 1) (lcap - k - 1))).drew.heap[j]? = W2.heap[j]? := fun h => (hother j (by omega) (by omega)).trans (hbel.block j h)
    unfold blkL at hj
    rcases List.mem_cons.1 hj with rfl | hj
    · exact hlow h0
    rcases List.mem_cons.1 hj with rfl | hj
    · exact (hother j (by omega) (by omega)).trans (hcn.trans hc2.symm)
    · cases hia : nz m ia with
      | none => rw [hia] at hj; cases hj
      | some a =>
        rw [hia] at hj
        obtain rfl : j = a.block := by simpa using hj
        exact hlow (hib a hia)
  · have hw := ((hn.ts.wr.other (j := 0) (u := .int .i64 xl) b4 r4).other (j := 0) (u := .slice pa (m - k - 1) (lcap - k - 1)) b5 r5).below (Below.refl _ _).drew
    refine ⟨un, ysn, lb, lo', pa, ?_, fun _ => rfl, hkm, by simpa [World.setCell, World.drew] using hNn, ⟨⟨hw, ?_, ?_, ?_⟩, hn.nr, by simpa [World.setCell, World.drew] using hn.sz⟩⟩
    · rw [hT, ← hy, ← hg]
      simp only [prevL, List.append_assoc]
    · refine ⟨hn.ts.wk.os, hn.ts.wk.tape, hn.ts.wk.output, by simpa [World.setCell, World.drew] using hn.ts.wk.size, fun j hj h1 h2 => ?_, hn.ts.wk.row⟩
      exact (hother j (by omega) (by omega)).trans (hn.ts.wk.block j hj h1 h2)
    · have e4 : (Wn.setCell ⟨p4, 0, none⟩ (.int .i64 xl)).heap[p4]? = some (.cells #[.int .i64 xl] 3 (0, 0)) := by simpa using heap_set (j := 0) h4n (.int .i64 xl)
      have e5 := heap_set (j := 0) ((Below.heap_setCell Wn ⟨p4, 0, none⟩ (.int .i64 xl) p5 (Ne.symm hp45)).trans h5n) (.slice pa (m - k - 1) (lcap - k - 1))
      have e4' : ((Wn.setCell ⟨p4, 0, none⟩ (.int .i64 xl)).setCell ⟨p5, 0, none⟩ (.slice pa (m - k - 1) (lcap - k - 1))).drew.heap[p4]? = some (.cells #[.int .i64 xl] 3 (0, 0)) := (Below.heap_setCell _ ⟨p5, 0, none⟩ _ p4 hp45).trans e4
      have e5' : ((Wn.setCell ⟨p4, 0, none⟩ (.int .i64 xl)).setCell ⟨p5, 0, none⟩ (.slice pa (m - k - 1) (lcap - k - 1))).drew.heap[p5]? = some (.cells #[.slice pa (m - k - 1) (lcap - k - 1)] 23 (0, 0)) := by
        simp only [List.setIfInBounds_toArray, List.set_cons_zero] at e5
        exact e5
      have hpv : prevL lines (k + 1) = xl := by simpa [prevL] using hxl
      have hsl : (if k + 1 < m then some (⟨lb, lo' + (k + 1), none⟩ : Addr) else pa) = pa := by
        split
        · rw [← hpa, if_neg (by omega)]
          rfl
        · rfl
      rw [hpv, hsl]
      intro x hx
      simp only [List.mem_cons, List.not_mem_nil, or_false] at hx
      rcases hx with rfl | rfl | rfl | rfl
      · exact (hother _ (by omega) (by omega)).trans hp2n
      · exact e4'
      · exact e5'
      · exact (hother _ (by omega) (by omega)).trans hcn
    · have hz := hother 0 (by omega) (by omega)
      have hc : ∀ o, ((Wn.setCell ⟨p4, 0, none⟩ (.int .i64 xl)).setCell ⟨p5, 0, none⟩ (.slice pa (m - k - 1) (lcap - k - 1))).drew.cell? ⟨0, o, none⟩ = Wn.cell? ⟨0, o, none⟩ := fun o => by simp only [World.cell?, hz]
      exact ⟨by simpa [World.setCell, World.drew] using hn.ts.tb.1, fun c hcc => ⟨(hc _).trans (hn.ts.tb.2 c hcc).1, (hc _).trans (hn.ts.tb.2 c hcc).2⟩⟩
set_option maxRecDepth 100000 in
set_option maxHeartbeats 16000000 in
theorem thread_in (n : Nat) (hn : 6 ≤ n) {w : World} {b base : Nat} {v : Value} {xs : List Nat} (hW : Wr w b base v xs) (hb : base ≤ b) (hx0 : 0 < xs.length) {nm : ByteArray} {lo : Int} {ia la : Option Addr} {icap lcap m : Nat} {ins : List InsP} {lines : List Int}
    (hni : ins.length = m) (hnl : lines.length = m) (hcap : m ≤ lcap) (hI : ∀ W, Below base w W → Inss W ia ins) (hL : ∀ W, Below base w W → Ints W la lines) (hT : TabC w) (h0 : 0 < base) (hib : ∀ a, nz m ia = some a → a.block < base)
    (hmay : tMay ⟨nm, lo, ia, icap, ins, la, lcap, lines⟩ = true) (hxl0 : xs.length ≤ 999999999000) (hx : xs.length + (thrB ⟨nm, lo, ia, icap, ins, la, lcap, lines⟩).length ≤ 1000000000000) :
    CallsIn Fence.wide n Tryd.prog 24 #[.pointer (some ⟨b, 0, none⟩), .agg #[.string nm, .int .i64 lo, .slice ia m icap, .slice la m lcap]] w fun e w' => e = .returned (.tuple #[]) ∧ ∃ v', Wr w' b base v' (xs ++ thrB ⟨nm, lo, ia, icap, ins, la, lcap, lines⟩) ∧ WK w w' b v v' := by
  have h1 : 1 ≤ n := by omega
  have hmay' := hmay
  simp only [tMay, bMay, Bool.and_eq_true, decide_eq_true_eq, beq_iff_eq] at hmay'
  obtain ⟨hnm, hlo, -, ⟨hm6, hin⟩, hln6, hln⟩ := hmay'
  rw [hni] at hm6
  have hsz0 : nm.size ≤ 16 := by omega
  have HX := Lib.hid hx
  have HW := Lib.hid hW
  have HNI := Lib.hid hni
  have HNL := Lib.hid hnl
  have HI := Lib.hid hI
  have HL := Lib.hid hL
  have HIN := Lib.hid hin
  have HLN := Lib.hid hln
  have HIB := Lib.hid hib
  have hxl : xs.length ≤ 999999999000 := hxl0
  have hts0 : Ts w ((w.alloc (.cells #[.pointer (some ⟨b, 0, none⟩)] 52)).alloc (.cells #[.string nm, .int .i64 lo, .slice ia m icap, .slice la m lcap] 51)) b base v v xs [(w.heap.size, .cells #[.pointer (some ⟨b, 0, none⟩)] 52 (0, 0)), (w.heap.size + 1, .cells #[.string nm, .int .i64 lo, .slice ia m icap, .slice la m lcap] 51 (0, 0))] := by
    have h1 : Ts w w b base v v xs [] := ⟨hW, WK.refl _ _ _, fun x hx => by (cases hx), hT⟩
    have h2 := (h1.add #[.pointer (some ⟨b, 0, none⟩)] 52).add #[.string nm, .int .i64 lo, .slice ia m icap, .slice la m lcap] 51
    simpa using h2
  have HT0 := Lib.hid hts0
  clear hx hni hnl hI hL hin hln hib hmay hW hln6 hT hts0
  refine callsIn_of_wp_marks Tryd.func24 rfl trivial ?_ rfl
  simp only [Tryd.ntmps24, List.size_toArray, List.length_cons, List.length_nil, Nat.reduceAdd, Nat.reduceSub, Array.replicate_succ, Array.replicate_zero, List.push_toArray, List.append_toArray, List.nil_append, List.cons_append]
  refine wpIn_wide.2 ?_
  go_wp2_with fail
  generalize (w.alloc (.cells #[.pointer (some ⟨b, 0, none⟩)] 52)).alloc (.cells #[.string nm, .int .i64 lo, .slice ia m icap, .slice la m lcap] 51) = W0 at *
  refine (count_any HT0.out.wr nm.size (by omega) (by omega)).mono ?_
  rintro e W1 ⟨rfl, v1, hw1, hk1⟩
  obtain ⟨ys1, hy1⟩ : ∃ ys, xs ++ numB nm.size = ys := ⟨_, rfl⟩
  rw [hy1] at hw1
  have HT1 := Lib.hid (HT0.out.go rfl hb h0 hw1 hk1)
  have hyl1 : ys1.length ≤ 999999999010 ∧ 0 < ys1.length := by
    have := numB_len 9 nm.size (by omega)
    rw [← hy1, List.length_append]
    omega
  have HY1 := Lib.hid hy1
  clear hw1 hk1 HT0 hy1
  have cA := HT1.out.cA 0 (k := 0) rfl rfl
  have cB := HT1.out.cA 1 (k := 0) rfl rfl
  have cC := HT1.out.wr.bx.cell
  go_wp2_with fail
  refine wp_calmly ?_
  refine wp_region_x [12] (fun W => W.cell? ⟨w.heap.size, 0, none⟩ = some (.pointer (some ⟨b, 0, none⟩)) ∧ W.cell? ⟨w.heap.size + 1, 0, none⟩ = some (.string nm) ∧ W.cell? ⟨b, 0, none⟩ = some v1) (by kernel_rfl) ?_
  have hS0 : W1.drew.cell? ⟨w.heap.size, 0, none⟩ = some (.pointer (some ⟨b, 0, none⟩)) ∧ W1.drew.cell? ⟨w.heap.size + 1, 0, none⟩ = some (.string nm) ∧ W1.drew.cell? ⟨b, 0, none⟩ = some v1 := ⟨cA, cB, cC⟩
  refine wpX_take 0 (v := ?v0) rfl (by kernel_rfl) (by kernel_rfl) (by kernel_rfl) (by kernel_rfl) (fun _ _ _ h => h) hS0 (Or.inl ⟨by kernel_rfl, ?h0⟩) ?_
  case h0 => (intro W2 hS1; obtain ⟨s0, s1, s2⟩ := hS1; go_simp; with_reducible rfl)
  refine wpX_take 1 (v := ?v1) rfl (by kernel_rfl) (by kernel_rfl) (by kernel_rfl) (by kernel_rfl) (fun _ _ _ h => h) hS0 (Or.inl ⟨by kernel_rfl, ?h1⟩) ?_
  case h1 => (intro W2 hS1; obtain ⟨s0, s1, s2⟩ := hS1; go_simp; with_reducible rfl)
  refine wpX_take 2 (v := ?v2) rfl (by kernel_rfl) (by kernel_rfl) (by kernel_rfl) (by kernel_rfl) (fun _ _ _ h => h) hS0 (Or.inl ⟨by kernel_rfl, ?h2⟩) ?_
  case h2 => (intro W2 hS1; obtain ⟨s0, s1, s2⟩ := hS1; go_simp; with_reducible rfl)
  refine wpX_take 3 (v := ?v3) rfl (by kernel_rfl) (by kernel_rfl) (by kernel_rfl) (by kernel_rfl) (fun _ _ _ h => h) hS0 (Or.inl ⟨by kernel_rfl, ?h3⟩) ?_
  case h3 => (intro W2 hS1; obtain ⟨s0, s1, s2⟩ := hS1; go_simp; with_reducible rfl)
  refine wpX_take 4 (v := ?v4) rfl (by kernel_rfl) (by kernel_rfl) (by kernel_rfl) (by kernel_rfl) (fun _ _ _ h => h) hS0 (Or.inl ⟨by kernel_rfl, ?h4⟩) ?_
  case h4 => (intro W2 hS1; obtain ⟨s0, s1, s2⟩ := hS1; go_simp; with_reducible rfl)
  refine wpX_take 5 (v := ?v5) rfl (by kernel_rfl) (by kernel_rfl) (by kernel_rfl) (by kernel_rfl) (fun _ _ _ h => h) hS0 (Or.inl ⟨by kernel_rfl, ?h5⟩) ?_
  case h5 => (intro W2 hS1; obtain ⟨s0, s1, s2⟩ := hS1; go_simp; with_reducible rfl)
  refine wpX_take 6 (v := ?v6) rfl (by kernel_rfl) (by kernel_rfl) (by kernel_rfl) (by kernel_rfl) (fun _ _ _ h => h) hS0 (Or.inl ⟨by kernel_rfl, ?h6⟩) ?_
  case h6 => (intro W2 hS1; obtain ⟨s0, s1, s2⟩ := hS1; go_simp; with_reducible rfl)
  refine wpX_take 7 (v := ?v7) rfl (by kernel_rfl) (by kernel_rfl) (by kernel_rfl) (by kernel_rfl) (fun _ _ _ h => h) hS0 (Or.inl ⟨by kernel_rfl, ?h7⟩) ?_
  case h7 => (intro W2 hS1; obtain ⟨s0, s1, s2⟩ := hS1; go_simp; with_reducible rfl)
  refine wpX_one 8 (by kernel_rfl) rfl (fun K hK => ?_)
  have htd := HT1.out.below (Below.refl _ W1).drew
  refine wp_str_lies W1.drew (.tmp 18) (.tmp 20) rfl base v1 ys1.length (u8s ys1) (by go_simp) htd.wr.ow hyl1.2 nm (by go_simp) (by omega) htd.wr.bs (by kernel_rfl) ?_
  intro g cap w2 hown2 hgrow hlies
  rw [nats_cells, ← u8s_append] at hown2
  obtain ⟨d1, d2, d3⟩ := htd.wr.putS hown2 (by rw [List.length_append]; congr 1; exact (natsB_len nm).symm) hgrow hlies
  have hl2 := htd.hl.grown hgrow (fun r hr x hx e => (htd.hl.ne rfl htd.wr hx).2 (by rw [e, hr]))
  have sA : w2.cell? ⟨w.heap.size, 0, none⟩ = some (.pointer (some ⟨b, 0, none⟩)) := hl2.cell 0 rfl rfl
  have sB : w2.cell? ⟨w.heap.size + 1, 0, none⟩ = some (.string nm) := hl2.cell 1 rfl rfl
  have sC : w2.cell? ⟨b, 0, none⟩ = some v1 := d1.cell
  have sF : w2.frozen? ⟨b, 0, none⟩ = false := d1.frozen
  obtain ⟨ys2, hy2⟩ : ∃ ys, ys1 ++ natsB nm = ys := ⟨_, rfl⟩
  rw [show ys1 ++ nm.data.toList.map UInt8.toNat = ys2 from hy2] at d2
  have HT2 := Lib.hid (htd.go rfl hb h0 d2 d3)
  have hyl2 : ys2.length ≤ 999999999030 := by
    rw [← hy2, List.length_append, natsB_len]
    omega
  have HY2 := Lib.hid hy2
  clear hown2 hgrow hlies d1 d2 d3 hl2 cA cB cC htd HT1 hy2
  refine hK _ _ (fun _ => ⟨sA, sB, sC⟩) ?_
  clear hK K hS0
  refine wpX_one 9 (by kernel_rfl) rfl (fun K hK => ?_)
  go_simp
  refine hK _ _ (fun h => ⟨sA, sB, sC⟩) ?_
  clear hK K
  refine wpX_one 10 (by kernel_rfl) rfl (fun K hK => ?_)
  go_simp
  refine hK _ _ (fun h => ⟨sA, sB, sC⟩) ?_
  clear hK K
  refine wpX_one 11 (by kernel_rfl) rfl (fun K hK => ?_)
  go_simp
  refine hK _ _ (fun h => ⟨sA, sB, sC⟩) ?_
  clear hK K
  refine wpX_one 12 (by kernel_rfl) rfl (fun K hK => ?_)
  go_simp
  refine hK _ _ (fun h => by cases h) ?_
  clear hK K
  refine wpX_done (by kernel_rfl) ?_ _
  go_simp
  clear sA sB sC sF
  have c2 := HT2.out.cA 0 (k := 0) rfl rfl
  have c3 := HT2.out.cA 1 (k := 1) rfl rfl
  generalize hU2 : Value.slice (some ⟨g, 0, none⟩) (ys1.length + nm.size) cap = u2 at *
  generalize hWW2 : w2.setCell ⟨b, 0, none⟩ u2 = W2 at *
  clear hU2 hWW2
  go_wp2_with fail
  refine (countZ_any HT2.out.wr lo (by omega) (by omega) (by omega)).mono ?_
  rintro e W3 ⟨rfl, v3, hw3, hk3⟩
  obtain ⟨ys3, hy3⟩ : ∃ ys, ys2 ++ cntB lo = ys := ⟨_, rfl⟩
  rw [hy3] at hw3
  have HT3 := Lib.hid (HT2.out.go rfl hb h0 hw3 hk3)
  have hyl3 : ys3.length ≤ 999999999050 := by
    have := numB_len 9 lo.toNat (by omega)
    rw [← hy3, List.length_append]
    unfold cntB
    omega
  have HY3 := Lib.hid hy3
  clear hw3 hk3 HT2 hy3 c2 c3
  have c2 := HT3.out.cA 0 (k := 0) rfl rfl
  have c3 := HT3.out.cA 1 (k := 2) rfl rfl
  go_wp2_with fail
  refine (count_any HT3.out.wr m (by omega) (by omega)).mono ?_
  rintro e W4 ⟨rfl, v4, hw4, hk4⟩
  obtain ⟨ys4, hy4⟩ : ∃ ys, ys3 ++ numB m = ys := ⟨_, rfl⟩
  rw [hy4] at hw4
  have HT4 := Lib.hid (HT3.out.go rfl hb h0 hw4 hk4)
  have hY4 : xs ++ headB ⟨nm, lo, ia, icap, ins, la, lcap, lines⟩ = ys4 := by
    rw [← hy4, ← HY3.out, ← HY2.out, ← HY1.out]
    simp only [headB, List.append_assoc, HNI.out]
  have HY4 := Lib.hid hY4
  clear hw4 hk4 HT3 hy4 c2 c3 HY1 HY2 HY3 hyl1 hyl2 hyl3 hY4
  go_wp2_with fail
  rename_i K hK
  have hT : ∀ (p4 p5 : Nat) (W : World), Ts w W b base v v4 ys4 [(w.heap.size, .cells #[.pointer (some ⟨b, 0, none⟩)] 52 (0, 0)), (w.heap.size + 1, .cells #[.string nm, .int .i64 lo, .slice ia m icap, .slice la m lcap] 51 (0, 0)), (p4, .cells #[.int .i64 0] 3 (0, 0)), (p5, .cells #[.slice la m lcap] 23 (0, 0))] → w.heap.size + 2 ≤ p4 → w.heap.size + 2 ≤ p5 → p4 ≠ p5 →
      K { tmps := #[.pointer (some ⟨b, 0, none⟩), .agg #[.string nm, .int .i64 lo, .slice ia m icap, .slice la m lcap], .pointer (some ⟨w.heap.size, 0, none⟩), .pointer (some ⟨w.heap.size + 1, 0, none⟩), .pointer (some ⟨p4, 0, none⟩), .pointer (some ⟨p5, 0, none⟩), undef, undef, .pointer (some ⟨b, 0, none⟩), .pointer (some ⟨w.heap.size + 1, 0, none⟩), .string nm, .int .i64 nm.size, .tuple #[], .pointer (some ⟨b, 0, none⟩), .pointer (some ⟨b, 0, none⟩), .pointer (some ⟨b, 0, none⟩), .pointer (some ⟨b, 0, none⟩), .pointer (some ⟨b, 0, none⟩), v1, .pointer (some ⟨w.heap.size + 1, 0, none⟩), .string nm, u2, .pointer (some ⟨b, 0, none⟩), .pointer (some ⟨b, 0, none⟩), .pointer (some ⟨b, 0, none⟩), .pointer (some ⟨b, 0, none⟩), .pointer (some ⟨w.heap.size + 1, 1, none⟩), .int .i64 lo, .tuple #[], .pointer (some ⟨b, 0, none⟩), .pointer (some ⟨w.heap.size + 1, 2, none⟩), .slice ia m icap, .int .i64 m, .tuple #[], .pointer (some ⟨w.heap.size + 1, 3, none⟩), .slice la m lcap, undef, undef, undef, undef, undef, undef, undef, undef, undef, undef, undef, undef, undef, undef, undef, undef, undef, undef, undef, undef, undef, undef, undef, undef, undef, undef, undef, undef, undef, undef, undef, undef, undef, undef, undef, undef, undef, undef, undef, undef, undef, undef, undef, undef, undef, undef, undef, undef, undef], defers := [] } W := by
    intro p4 p5 W hts hp4 hp5 hp45
    refine hK _ _ ?_
    clear hK K
    have c3 := hts.cA 1 (k := 2) rfl rfl
    go_wp2_with fail
    refine (named_any W).mono ?_
    rintro e Wn ⟨rfl, rfl⟩
    have hts5 := hts.add #[.slice ia m icap] 49
    have hszn : (W.alloc (.cells #[.slice ia m icap] 49)).heap.size = W.heap.size + 1 := by simp
    have hszW : p4 < W.heap.size := World.block_lt_of_cell? _ _ (hts.cA 2 (k := 0) rfl rfl)
    have hszW5 : p5 < W.heap.size := World.block_lt_of_cell? _ _ (hts.cA 3 (k := 0) rfl rfl)
    generalize hWL : W.alloc (.cells #[.slice ia m icap] 49) = WL at *
    have HZN := Lib.hid hszn
    clear hWL hts c3
    have hbxc : WL.heap[W.heap.size]? = some (.cells #[.slice ia m icap] 49 (0, 0)) := hts5.hl (W.heap.size, .cells #[.slice ia m icap] 49 (0, 0)) (by simp)
    have hLL : ∀ j ∈ blkL (nz m ia) W.heap.size, j < WL.heap.size := by
      intro j hj
      have hb1 := hts5.wr.bs
      unfold blkL at hj
      cases hia : nz m ia with
      | none =>
        simp [hia] at hj
        omega
      | some a =>
        have := HIB.out a hia
        simp [hia] at hj
        omega
    have hBL := hts5.base_le HW.out hb
    have hsq := named1_in (n - 1) (by omega) (w := WL) (c := W.heap.size) (m := m) (icap := icap) (ia := ia) (ins := ins) (w.heap.size + 1) hts5.tb hbxc HNI.out (by omega) (HI.out WL hBL) hLL
    have hw0 : 0 < w.heap.size := by
      have := HW.out.bs
      omega
    have HS5 := Lib.hid hts5
    have HLL := Lib.hid hLL
    clear hts5 hLL hszn hbxc hBL
    go_wp2_with fail
    have hszn := HZN.out
    refine (wpIn_wide (n := n)).1 ?_
    refine wpIn_rangeFunc_rd (F := Fence.wide) rfl h1 (gf := 75) (lb := #[.pointer (some ⟨W.heap.size, 0, none⟩)]) rfl trivial (enters_of Tryd.func75 (by kernel_rfl) rfl)
      hsq (by omega) HLL.out (fun _ => rfl)
      (InvT w b base v w.heap.size p4 p5 W.heap.size WL.heap.size ia la m icap lcap ins lines (xs ++ headB ⟨nm, lo, ia, icap, ins, la, lcap, lines⟩)) (fun _ _ => False) ?hI (fun c s W W' row h _ _ => h) ?hIb (fun c A B h _ => h) ?h0 ?round ?done (fun D c W _ h _ => h.elim)
    case hI =>
      rintro s A B row ⟨u, ys, lb, lo', cp, g1, g2, g3, g4, g5⟩ hg hr
      exact ⟨u, ys, lb, lo', cp, g1, g2, g3, Nat.le_trans g4 hg.size, g5.own hw0 (by simp [Obj.isCells]) hg (fun r e => ⟨by have := (hr r e).1; omega, (hr r e).2⟩)⟩
    case hIb =>
      rintro k A B ⟨u, ys, lb, lo', cp, g1, g2, g3, g4, g5⟩ hk
      refine ⟨u, ys, lb, lo', cp, g1, g2, g3, Nat.le_trans g4 hk.size, g5.kp ?_ (by omega) (Nat.le_succ _) ?_ hk⟩
      · have := HW.out.bx.lt
        omega
      · intro x hx
        simp at hx
        rcases hx with h | h | h | h <;> rw [h] <;> dsimp only <;> omega
    case h0 =>
      have h5 := HS5.out
      obtain ⟨lb, lo', hla⟩ : ∃ lb lo', 0 < m → la = some ⟨lb, lo', none⟩ := by
        rcases Nat.eq_zero_or_pos m with hm | hm
        · exact ⟨0, 0, fun h => by omega⟩
        · obtain ⟨b1, o1, h1, _⟩ := HL.out WL (h5.base_le HW.out hb) 0 (by rw [HNL.out]; exact hm)
          exact ⟨b1, o1, fun _ => h1⟩
      refine ⟨v4, ys4, lb, lo', la, by rw [List.take_zero, List.take_zero]; simpa [linB] using HY4.out, hla, Nat.zero_le _, Nat.le_refl _, ⟨⟨h5.wr, h5.wk, fun x hx => h5.hl x ?_, h5.tb⟩, ?_, by omega⟩⟩
      · simp only [prevL, if_true, Nat.add_zero, Nat.sub_zero] at hx
        have hcp : (if 0 < m then some (⟨lb, lo', none⟩ : Addr) else la) = la := by
          split
          · rename_i h; exact (hla h).symm
          · rfl
        rw [hcp] at hx
        simp at hx ⊢
        rcases hx with h | h | h | h <;> simp [h]
      · intro r hr e
        obtain ⟨cs, hc⟩ := row_obj h5.wr.ow hr
        have h6 := h5.hl (w.heap.size + 1, .cells #[.string nm, .int .i64 lo, .slice ia m icap, .slice la m lcap] 51 (0, 0)) (by simp)
        rw [e] at hc
        have h7 := hc.symm.trans h6
        simp at h7
    case round =>
      intro l k V hi hbd
      obtain ⟨u, ys, lb, lo', cp, g1, g2, g3, g4, g5⟩ := hi
      have hik : k < ins.length := by rw [HNI.out]; exact hbd
      have hmay1 := List.all_eq_true.1 HIN.out (ins.getD k default) (by rw [List.getD_eq_getElem?_getD, List.getElem?_eq_getElem hik]; exact List.getElem_mem hik)
      have hT1 := linB_take ins lines 0 k hik (by rw [HNI.out, HNL.out])
      obtain rfl := g2 hbd
      rw [if_pos hbd] at g5
      obtain ⟨i, hi0⟩ : ∃ i, ins.getD k default = i := ⟨_, rfl⟩
      dsimp only [encN]
      rw [hi0] at hmay1 hT1 ⊢
      obtain ⟨ci, ai, bi, ni⟩ := i
      dsimp only at hmay1 ⊢
      have hfc := f_cases ci
      have HT1 := Lib.hid hT1
      simp only [iMay, Bool.and_eq_true] at hmay1
      obtain ⟨hci, hma, hmb, hmn⟩ := hmay1
      have hci' : 1 ≤ ci ∧ ci ≤ 34 := by simpa [isC] using hci
      obtain ⟨N, hN⟩ : ∃ x, YtjbinejaagpleaaDoor.nm ci = x := ⟨_, rfl⟩
      obtain ⟨xa, hxa⟩ : ∃ x, fA ci = x := ⟨_, rfl⟩
      obtain ⟨xb, hxb⟩ : ∃ x, fB ci = x := ⟨_, rfl⟩
      obtain ⟨xn, hxn⟩ : ∃ x, fN ci = x := ⟨_, rfl⟩
      rw [hxa] at hma
      rw [hxb] at hmb
      rw [hxn] at hmn
      rw [hxa, hxb, hxn] at hfc
      rw [hN, hxa, hxb, hxn]
      have HIX := Lib.hid (And.intro hxa (And.intro hxb hxn))
      have HM1 := Lib.hid (And.intro hma (And.intro hmb hmn))
      have HFC := Lib.hid hfc
      have HCI := Lib.hid hci'
      have HG := Lib.hid (And.intro g1 (And.intro g3 g4))
      have HG5 := Lib.hid g5
      have HYL : Hid (ys.length ≤ xs.length + (thrB ⟨nm, lo, ia, icap, ins, some ⟨lb, lo', none⟩, lcap, lines⟩).length) := Lib.hid (by
        rw [← g1]
        have := linB_len ins lines 0 k
        simp only [thrB, List.length_append]
        omega)
      have HCP := Lib.hid hcap
      clear hik hT1 hi0 g1 g2 g3 g4 g5 hsq hma hmb hmn hci hci' hfc hxa hxb hxn hN hcap
      gi_wp2
      have hb2 : Below V.heap.size V ((V.alloc (.cells #[.string N, .bool xa, .bool xb, .bool xn] 86)).alloc (.cells #[.int .i64 ci, .int .i64 ai, .int .i64 bi, .int .i64 ni] 48)) := ((Below.refl _ V).alloc (Nat.le_refl _) _).alloc (by simp) _
      refine ⟨(KeepsOthers.alloc _ _).trans (KeepsOthers.alloc _ _), same_below hb2 (fun j hj => Nat.lt_of_lt_of_le (HLL.out j hj) HG.out.2.2), fun W2 => Rs w W2 (w.heap.size + 1) b base v u ys [(w.heap.size, .cells #[.pointer (some ⟨b, 0, none⟩)] 52 (0, 0)), (p4, .cells #[.int .i64 (prevL lines k)] 3 (0, 0)), (p5, .cells #[.slice (some ⟨lb, lo' + k, none⟩) (m - k) (lcap - k)] 23 (0, 0)), (W.heap.size, .cells #[.slice ia m icap] 49 (0, 0)), (V.heap.size, .cells #[.string N, .bool xa, .bool xb, .bool xn] 86 (0, 0)), (V.heap.size + 1, .cells #[.int .i64 ci, .int .i64 ai, .int .i64 bi, .int .i64 ni] 48 (0, 0))] ∧ WL.heap.size ≤ W2.heap.size, ?_, ⟨?_, ?_⟩, ?_⟩
      · intro s A B row hs hg hr
        exact ⟨hs.1.own hw0 (by simp [Obj.isCells]) hg (fun r e => ⟨by have := (hr r e).1; omega, (hr r e).2⟩), Nat.le_trans hs.2 hg.size⟩
      · have h := (HG5.out.add #[.string N, .bool xa, .bool xb, .bool xn] 86).add #[.int .i64 ci, .int .i64 ai, .int .i64 bi, .int .i64 ni] 48
        simpa using h
      · have := HG.out.2.2
        simp
        omega
      rintro W2 ⟨hrs, hz2⟩
      have HR2 := Lib.hid hrs
      have HZ2 := Lib.hid hz2
      clear hrs hz2 HG5 hb2
      have hmx : Tryd.prog.follows .mixedOrders = true := by kernel_rfl
      have cA := HR2.out.ts.cA 0 (k := 0) rfl rfl
      have cC := HR2.out.ts.wr.bx.cell
      have cI := HR2.out.ts.cA 5 (k := 0) rfl rfl
      gi_wp2_with fail
      refine wpIn_region_round [14] (fun W => W.cell? ⟨w.heap.size, 0, none⟩ = some (.pointer (some ⟨b, 0, none⟩)) ∧ W.cell? ⟨b, 0, none⟩ = some u ∧ W.cell? ⟨V.heap.size + 1, 0, none⟩ = some (.int .i64 ci)) hmx (by kernel_rfl) (fun h => by obtain ⟨_, _, h⟩ := h; exact h) ?_
      have hS0 : W2.drew.cell? ⟨w.heap.size, 0, none⟩ = some (.pointer (some ⟨b, 0, none⟩)) ∧ W2.drew.cell? ⟨b, 0, none⟩ = some u ∧ W2.drew.cell? ⟨V.heap.size + 1, 0, none⟩ = some (.int .i64 ci) := ⟨cA, cC, cI⟩
      refine wpX_take 0 (v := ?vq0) rfl (by kernel_rfl) (by kernel_rfl) (by kernel_rfl) (by kernel_rfl) (fun _ _ _ h => h) hS0 (Or.inl ⟨by kernel_rfl, ?q0⟩) ?_
      case q0 => (intro W2 hS1; obtain ⟨s0, s1, s2⟩ := hS1; go_simp; with_reducible rfl)
      refine wpX_take 1 (v := ?vq1) rfl (by kernel_rfl) (by kernel_rfl) (by kernel_rfl) (by kernel_rfl) (fun _ _ _ h => h) hS0 (Or.inl ⟨by kernel_rfl, ?q1⟩) ?_
      case q1 => (intro W2 hS1; obtain ⟨s0, s1, s2⟩ := hS1; go_simp; with_reducible rfl)
      refine wpX_take 2 (v := ?vq2) rfl (by kernel_rfl) (by kernel_rfl) (by kernel_rfl) (by kernel_rfl) (fun _ _ _ h => h) hS0 (Or.inl ⟨by kernel_rfl, ?q2⟩) ?_
      case q2 => (intro W2 hS1; obtain ⟨s0, s1, s2⟩ := hS1; go_simp; with_reducible rfl)
      refine wpX_take 3 (v := ?vq3) rfl (by kernel_rfl) (by kernel_rfl) (by kernel_rfl) (by kernel_rfl) (fun _ _ _ h => h) hS0 (Or.inl ⟨by kernel_rfl, ?q3⟩) ?_
      case q3 => (intro W2 hS1; obtain ⟨s0, s1, s2⟩ := hS1; go_simp; with_reducible rfl)
      refine wpX_take 4 (v := ?vq4) rfl (by kernel_rfl) (by kernel_rfl) (by kernel_rfl) (by kernel_rfl) (fun _ _ _ h => h) hS0 (Or.inl ⟨by kernel_rfl, ?q4⟩) ?_
      case q4 => (intro W2 hS1; obtain ⟨s0, s1, s2⟩ := hS1; go_simp; with_reducible rfl)
      refine wpX_take 5 (v := ?vq5) rfl (by kernel_rfl) (by kernel_rfl) (by kernel_rfl) (by kernel_rfl) (fun _ _ _ h => h) hS0 (Or.inl ⟨by kernel_rfl, ?q5⟩) ?_
      case q5 => (intro W2 hS1; obtain ⟨s0, s1, s2⟩ := hS1; go_simp; with_reducible rfl)
      refine wpX_take 6 (v := ?vq6) rfl (by kernel_rfl) (by kernel_rfl) (by kernel_rfl) (by kernel_rfl) (fun _ _ _ h => h) hS0 (Or.inl ⟨by kernel_rfl, ?q6⟩) ?_
      case q6 => (intro W2 hS1; obtain ⟨s0, s1, s2⟩ := hS1; go_simp; with_reducible rfl)
      refine wpX_take 7 (v := ?vq7) rfl (by kernel_rfl) (by kernel_rfl) (by kernel_rfl) (by kernel_rfl) (fun _ _ _ h => h) hS0 (Or.inl ⟨by kernel_rfl, ?q7⟩) ?_
      case q7 => (intro W2 hS1; obtain ⟨s0, s1, s2⟩ := hS1; go_simp; with_reducible rfl)
      refine wpX_take 8 (v := ?vq8) rfl (by kernel_rfl) (by kernel_rfl) (by kernel_rfl) (by kernel_rfl) (fun _ _ _ h => h) hS0 (Or.inl ⟨by kernel_rfl, ?q8⟩) ?_
      case q8 => (intro W2 hS1; obtain ⟨s0, s1, s2⟩ := hS1; go_simp; with_reducible rfl)
      refine wpX_one 9 (by kernel_rfl) rfl (fun K hK => ?_)
      go_simp
      have hz8 : IntKind.u8.wrap ci = ((ci.toNat : Nat) : Int) := by
        have := HCI.out
        show ci % 256 = _
        omega
      rw [hz8]
      have hrl := HR2.out.below (((Below.refl _ W2).alloc (Nat.le_refl _) (.cells #[.int .u8 ((ci.toNat : Nat) : Int)] 5)).drew)
      have lA := hrl.ts.cA 0 (k := 0) rfl rfl
      have lC := hrl.ts.wr.bx.cell
      have lI := hrl.ts.cA 5 (k := 0) rfl rfl
      refine hK _ _ (fun _ => ⟨lA, lC, lI⟩) ?_
      clear hK K hS0
      refine wpX_one 10 (by kernel_rfl) rfl (fun K hK => ?_)
      have hcy : (W2.alloc (.cells #[.int .u8 ((ci.toNat : Nat) : Int)] 5)).drew.cell? ⟨W2.heap.size, 0, none⟩ = some (.int .u8 ((ci.toNat : Nat) : Int)) := cell_blk (World.alloc_heap_new W2 _) rfl
      refine wp_put_lies _ (.tmp 46) (.tmp 50) rfl base u ys.length (u8s ys) (by go_simp) hrl.ts.wr.ow ⟨W2.heap.size, 0, none⟩ 1 _ (by go_simp) hcy ?hyl hrl.ts.wr.bs (by kernel_rfl) ?_
      case hyl =>
        have h1 := HX.out
        have h2 : ys.length ≤ xs.length + (thrB ⟨nm, lo, ia, icap, ins, some ⟨lb, lo', none⟩, lcap, lines⟩).length := HYL.out
        omega
      intro g cap w3 hown3 hgrow hlies
      obtain ⟨d1, d2, d3⟩ := hrl.ts.wr.putS (ys := [ci.toNat]) (by rw [u8s_append]; exact hown3) (by simp) hgrow hlies
      have hl3 := hrl.ts.hl.grown hgrow (fun r hr x hx e => (hrl.ts.hl.ne rfl hrl.ts.wr hx).2 (by rw [e, hr]))
      have sA : w3.cell? ⟨w.heap.size, 0, none⟩ = some (.pointer (some ⟨b, 0, none⟩)) := hl3.cell 0 rfl rfl
      have sI : w3.cell? ⟨V.heap.size + 1, 0, none⟩ = some (.int .i64 ci) := hl3.cell 5 rfl rfl
      have sC : w3.cell? ⟨b, 0, none⟩ = some u := d1.cell
      have sF : w3.frozen? ⟨b, 0, none⟩ = false := d1.frozen
      obtain ⟨ys3, hy3⟩ : ∃ z, ys ++ [ci.toNat] = z := ⟨_, rfl⟩
      rw [hy3] at d2
      have HR3 := Lib.hid (hrl.go rfl hb h0 d2 d3)
      have HK3 := Lib.hid (((WK.refl W2 b u).new (((Below.refl _ W2).alloc (Nat.le_refl _) (.cells #[.int .u8 ((ci.toNat : Nat) : Int)] 5)).drew) (Nat.le_refl _)).trans d3)
      have HY3 := Lib.hid hy3
      clear hown3 hgrow hlies d1 d2 d3 hl3 lA lC lI cA cC cI hrl hy3 hcy
      refine hK _ _ (fun _ => ⟨sA, sC, sI⟩) ?_
      clear hK K
      refine wpX_one 11 (by kernel_rfl) rfl (fun K hK => ?_)
      go_simp
      refine hK _ _ (fun h => ⟨sA, sC, sI⟩) ?_
      clear hK K
      refine wpX_one 12 (by kernel_rfl) rfl (fun K hK => ?_)
      go_simp
      refine hK _ _ (fun h => ⟨sA, sC, sI⟩) ?_
      clear hK K
      refine wpX_one 13 (by kernel_rfl) rfl (fun K hK => ?_)
      go_simp
      refine hK _ _ (fun h => ⟨sA, sC, sI⟩) ?_
      clear hK K
      refine wpX_one 14 (by kernel_rfl) rfl (fun K hK => ?_)
      go_simp
      refine hK _ _ (fun h => by cases h) ?_
      clear hK K
      refine wpX_done (by kernel_rfl) ?_ _
      go_simp
      clear sA sC sF sI hz8
      generalize hU3 : Value.slice (some ⟨g, 0, none⟩) (ys.length + 1) cap = u3 at *
      generalize hWW3 : w3.setCell ⟨b, 0, none⟩ u3 = W3 at *
      clear hU3 hWW3
      obtain ⟨xl, hxl0⟩ : ∃ x, lines.getD k 0 = x := ⟨_, rfl⟩
      have hTT := HT1.out
      rw [hxl0] at hTT
      have HLN2 : Hid (∀ A, Below base w A → A.cell? ⟨lb, lo' + k, none⟩ = some (.int .i64 xl)) := Lib.hid (fun A hA => by
        obtain ⟨b1, o1, h1, h2⟩ := HL.out A hA k (by rw [HNL.out]; exact hbd)
        rw [hxl0] at h2
        simp only [Option.some.injEq, Addr.mk.injEq, and_true] at h1
        obtain ⟨rfl, rfl⟩ := h1
        exact h2)
      have hdl : -65536 ≤ xl - prevL lines k ∧ xl - prevL lines k ≤ 65536 := by
        have hall : ∀ j, j < lines.length → 0 ≤ lines.getD j 0 ∧ lines.getD j 0 ≤ 65536 := fun j hj => by
          have := List.all_eq_true.1 HLN.out (lines.getD j 0) (by rw [List.getD_eq_getElem?_getD, List.getElem?_eq_getElem hj]; exact List.getElem_mem hj)
          simpa [bMay] using this
        have h1 := hall k (by rw [HNL.out]; exact hbd)
        rw [hxl0] at h1
        unfold prevL
        split
        · omega
        · have h2 := hall (k - 1) (by rw [HNL.out]; omega)
          omega
      have hyn : ys.length + ((insB ⟨ci, ai, bi, ni⟩).length + (sgnB (xl - prevL lines k)).length) ≤ 1000000000000 := by
        have h1 := linB_len ins lines 0 (k + 1)
        rw [hTT] at h1
        have h2 := HX.out
        have h3 := congrArg List.length HG.out.1
        simp only [thrB, prevL, List.length_append] at h1 h2 h3 ⊢
        omega
      have hl3 : ys3.length = ys.length + 1 := by rw [← HY3.out]; simp
      have hmk : 0 < m - k := by omega
      have hwr : IntKind.i64.wrap (xl - prevL lines k) = xl - prevL lines k := by
        rw [IntKind.wrap_i64]
        omega
      have hlbw : lb < w.heap.size := World.block_lt_of_cell? w ⟨lb, lo' + k, none⟩ (HLN2.out w (Below.refl _ w))
      have HXL := Lib.hid hxl0
      have HTT := Lib.hid hTT
      clear hxl0
      clear hTT
      rcases HFC.out with ⟨rfl, rfl, rfl⟩ | ⟨rfl, rfl, rfl⟩ | ⟨rfl, rfl, rfl⟩ | ⟨rfl, rfl, rfl⟩
      · have hins : insB ⟨ci, ai, bi, ni⟩ = [ci.toNat] := by simp [insB, HIX.out.1, HIX.out.2.1, HIX.out.2.2]
        rw [hins] at hyn
        simp only [List.length_cons, List.length_append, List.length_nil] at hyn
        have cA := HR3.out.ts.cA 0 (k := 0) rfl rfl
        have c4 := HR3.out.ts.cA 1 (k := 0) rfl rfl
        have c5 := HR3.out.ts.cA 2 (k := 0) rfl rfl
        have f1 := HR3.out.ts.cA 4 (k := 1) rfl rfl
        have f2 := HR3.out.ts.cA 4 (k := 2) rfl rfl
        have f3 := HR3.out.ts.cA 4 (k := 3) rfl rfl
        have i1 := HR3.out.ts.cA 5 (k := 1) rfl rfl
        have i2 := HR3.out.ts.cA 5 (k := 2) rfl rfl
        have i3 := HR3.out.ts.cA 5 (k := 3) rfl rfl
        have cL := HLN2.out W3 (HR3.out.ts.base_le HW.out hb)
        gi_wp2_with fail
        refine wpIn_region_round [] (fun W => W.cell? ⟨w.heap.size, 0, none⟩ = some (.pointer (some ⟨b, 0, none⟩)) ∧ W.cell? ⟨p4, 0, none⟩ = some (.int .i64 (prevL lines k)) ∧ W.cell? ⟨p5, 0, none⟩ = some (.slice (some ⟨lb, lo' + k, none⟩) (m - k) (lcap - k)) ∧ W.cell? ⟨lb, lo' + k, none⟩ = some (.int .i64 xl)) hmx (by kernel_rfl) (fun h => by obtain ⟨_, _, h⟩ := h; exact h) ?_
        have hS0 : W3.drew.cell? ⟨w.heap.size, 0, none⟩ = some (.pointer (some ⟨b, 0, none⟩)) ∧ W3.drew.cell? ⟨p4, 0, none⟩ = some (.int .i64 (prevL lines k)) ∧ W3.drew.cell? ⟨p5, 0, none⟩ = some (.slice (some ⟨lb, lo' + k, none⟩) (m - k) (lcap - k)) ∧ W3.drew.cell? ⟨lb, lo' + k, none⟩ = some (.int .i64 xl) := ⟨cA, c4, c5, cL⟩
        refine wpX_take 0 (v := ?vr0) rfl (by kernel_rfl) (by kernel_rfl) (by kernel_rfl) (by kernel_rfl) (fun _ _ _ h => h) hS0 (Or.inl ⟨by kernel_rfl, ?r0⟩) ?_
        case r0 => (intro W2 hS1; obtain ⟨s0, s1, s2, s3⟩ := hS1; go_simp; with_reducible rfl)
        refine wpX_take 1 (v := ?vr1) rfl (by kernel_rfl) (by kernel_rfl) (by kernel_rfl) (by kernel_rfl) (fun _ _ _ h => h) hS0 (Or.inl ⟨by kernel_rfl, ?r1⟩) ?_
        case r1 => (intro W2 hS1; obtain ⟨s0, s1, s2, s3⟩ := hS1; go_simp; with_reducible rfl)
        refine wpX_take 2 (v := ?vr2) rfl (by kernel_rfl) (by kernel_rfl) (by kernel_rfl) (by kernel_rfl) (fun _ _ _ h => h) hS0 (Or.inl ⟨by kernel_rfl, ?r2⟩) ?_
        case r2 => (intro W2 hS1; obtain ⟨s0, s1, s2, s3⟩ := hS1; go_simp; with_reducible rfl)
        refine wpX_take 3 (v := ?vr3) rfl (by kernel_rfl) (by kernel_rfl) (by kernel_rfl) (by kernel_rfl) (fun _ _ _ h => h) hS0 (Or.inl ⟨by kernel_rfl, ?r3⟩) ?_
        case r3 => (intro W2 hS1; obtain ⟨s0, s1, s2, s3⟩ := hS1; go_simp; with_reducible rfl)
        refine wpX_take 4 (v := ?vr4) rfl (by kernel_rfl) (by kernel_rfl) (by kernel_rfl) (by kernel_rfl) (fun _ _ _ h => h) hS0 (Or.inl ⟨by kernel_rfl, ?r4⟩) ?_
        case r4 => (intro W2 hS1; obtain ⟨s0, s1, s2, s3⟩ := hS1; go_simp; with_reducible rfl)
        refine wpX_take 5 (v := ?vr5) rfl (by kernel_rfl) (by kernel_rfl) (by kernel_rfl) (by kernel_rfl) (fun _ _ _ h => h) hS0 (Or.inl ⟨by kernel_rfl, ?r5⟩) ?_
        case r5 => (intro W2 hS1; obtain ⟨s0, s1, s2, s3⟩ := hS1; go_simp; with_reducible rfl)
        refine wpX_one 6 (by kernel_rfl) rfl (fun K hK => ?_)
        go_simp
        have hrd := HR3.out.below (Below.refl _ W3).drew
        refine (signed_any hrd.ts.wr (xl - prevL lines k) (by omega) (by omega) (by omega)).mono ?_
        rintro e W4 ⟨rfl, u4, hw4, hk4⟩
        obtain ⟨ys4, hy4⟩ : ∃ z, ys3 ++ sgnB (xl - prevL lines k) = z := ⟨_, rfl⟩
        rw [hy4] at hw4
        have HR4 := Lib.hid (hrd.go rfl hb h0 hw4 hk4)
        have HK4 := Lib.hid ((HK3.out.new (Below.refl _ W3).drew HK3.out.size).trans hk4)
        have HY4 := Lib.hid hy4
        clear hw4 hk4 hy4 HR3 HK3 hrd cA c4 c5 f1 f2 f3 i1 i2 i3 cL hS0
        have cA := HR4.out.ts.cA 0 (k := 0) rfl rfl
        have c4 := HR4.out.ts.cA 1 (k := 0) rfl rfl
        have c5 := HR4.out.ts.cA 2 (k := 0) rfl rfl
        have f1 := HR4.out.ts.cA 4 (k := 1) rfl rfl
        have f2 := HR4.out.ts.cA 4 (k := 2) rfl rfl
        have f3 := HR4.out.ts.cA 4 (k := 3) rfl rfl
        have i1 := HR4.out.ts.cA 5 (k := 1) rfl rfl
        have i2 := HR4.out.ts.cA 5 (k := 2) rfl rfl
        have i3 := HR4.out.ts.cA 5 (k := 3) rfl rfl
        have cL := HLN2.out W4 (HR4.out.ts.base_le HW.out hb)
        refine hK _ _ (fun _ => ⟨cA, c4, c5, cL⟩) ?_
        clear hK K
        refine wpX_done (by kernel_rfl) ?_ _
        go_simp
        gi_wp2_with fail
        refine wpIn_region_round [6] (fun W => W.cell? ⟨p5, 0, none⟩ = some (.slice (some ⟨lb, lo' + k, none⟩) (m - k) (lcap - k)) ∧ W.cell? ⟨lb, lo' + k, none⟩ = some (.int .i64 xl)) hmx (by kernel_rfl) (fun h => by obtain ⟨_, _, h⟩ := h; exact h) ?_
        have hS0 : W4.drew.cell? ⟨p5, 0, none⟩ = some (.slice (some ⟨lb, lo' + k, none⟩) (m - k) (lcap - k)) ∧ W4.drew.cell? ⟨lb, lo' + k, none⟩ = some (.int .i64 xl) := ⟨c5, cL⟩
        have hm1 : (1 : Int) ≤ ((m - k : Nat) : Int) := by omega
        obtain ⟨pa, hpa⟩ : ∃ pa, (if lcap - k = 1 then some (⟨lb, lo' + k, none⟩ : Addr) else some ⟨lb, lo' + k + 1, none⟩) = pa := ⟨_, rfl⟩
        refine wpX_take 0 (v := ?vz0) rfl (by kernel_rfl) (by kernel_rfl) (by kernel_rfl) (by kernel_rfl) (fun _ _ _ h => h) hS0 (Or.inl ⟨by kernel_rfl, ?z0⟩) ?_
        case z0 => (intro W2 hS1; obtain ⟨s0, s1⟩ := hS1; go_simp; with_reducible rfl)
        refine wpX_take 1 (v := ?vz1) rfl (by kernel_rfl) (by kernel_rfl) (by kernel_rfl) (by kernel_rfl) (fun _ _ _ h => h) hS0 (Or.inl ⟨by kernel_rfl, ?z1⟩) ?_
        case z1 => (intro W2 hS1; obtain ⟨s0, s1⟩ := hS1; go_simp; with_reducible rfl)
        refine wpX_take 2 (v := ?vz2) rfl (by kernel_rfl) (by kernel_rfl) (by kernel_rfl) (by kernel_rfl) (fun _ _ _ h => h) hS0 (Or.inl ⟨by kernel_rfl, ?z2⟩) ?_
        case z2 => (intro W2 hS1; obtain ⟨s0, s1⟩ := hS1; go_simp; with_reducible rfl)
        refine wpX_take 3 (v := ?vz3) rfl (by kernel_rfl) (by kernel_rfl) (by kernel_rfl) (by kernel_rfl) (fun _ _ _ h => h) hS0 (Or.inl ⟨by kernel_rfl, ?z3⟩) ?_
        case z3 => (intro W2 hS1; obtain ⟨s0, s1⟩ := hS1; go_simp; with_reducible rfl)
        refine wpX_take 4 (v := ?vz4) rfl (by kernel_rfl) (by kernel_rfl) (by kernel_rfl) (by kernel_rfl) (fun _ _ _ h => h) hS0 (Or.inl ⟨by kernel_rfl, ?z4⟩) ?_
        case z4 => (intro W2 hS1; obtain ⟨s0, s1⟩ := hS1; go_simp; with_reducible rfl)
        have c4f : W4.drew.frozen? ⟨p4, 0, none⟩ = false := HR4.out.ts.hl.froz 1 rfl
        have c5f : W4.drew.frozen? ⟨p5, 0, none⟩ = false := HR4.out.ts.hl.froz 2 rfl
        refine wpX_one 5 (by kernel_rfl) rfl (fun K hK => ?_)
        go_simp
        have e5 : (W4.setCell ⟨p4, 0, none⟩ (.int .i64 xl)).drew.cell? ⟨p5, 0, none⟩ = some (.slice (some ⟨lb, lo' + k, none⟩) (m - k) (lcap - k)) := (World.cell?_setCell_far _ _ _ _ hp45).trans c5
        have e5f : (W4.setCell ⟨p4, 0, none⟩ (.int .i64 xl)).drew.frozen? ⟨p5, 0, none⟩ = false := (World.frozen?_setCell _ _ _ _).trans c5f
        have eL : (W4.setCell ⟨p4, 0, none⟩ (.int .i64 xl)).drew.cell? ⟨lb, lo' + k, none⟩ = some (.int .i64 xl) := (World.cell?_setCell_far _ _ _ _ (by show p4 ≠ lb; omega)).trans cL
        refine hK _ _ (fun _ => ⟨e5, eL⟩) ?_
        clear hK K
        refine wpX_one 6 (by kernel_rfl) rfl (fun K hK => ?_)
        go_simp
        refine hK _ _ (fun h => by cases h) ?_
        clear hK K
        refine wpX_done (by kernel_rfl) ?_ _
        go_simp
        gi_wp2
        exact rd_fin HW.out HR2.out HR4.out HK4.out hpa HCP.out hbd (by rw [← HY4.out, ← HY3.out, hins]; simp only [List.append_assoc, List.cons_append, List.nil_append]) HG.out.1 HTT.out HXL.out (by have := HZ2.out; omega) (Nat.le_trans (Nat.le_trans HZ2.out HK4.out.size) (Nat.le_refl _)) (by omega) hp4 hp5 hp45 (by omega) (by omega) HIB.out hb h0 hw0
      · have hins : insB ⟨ci, ai, bi, ni⟩ = ci.toNat :: cntB ai := by simp [insB, HIX.out.1, HIX.out.2.1, HIX.out.2.2]
        have hma : 0 ≤ ai ∧ ai ≤ 65535 := by simpa [pMay, bMay] using HM1.out.1
        rw [hins] at hyn
        simp only [List.length_cons, List.length_append, List.length_nil] at hyn
        have cA := HR3.out.ts.cA 0 (k := 0) rfl rfl
        have c4 := HR3.out.ts.cA 1 (k := 0) rfl rfl
        have c5 := HR3.out.ts.cA 2 (k := 0) rfl rfl
        have f1 := HR3.out.ts.cA 4 (k := 1) rfl rfl
        have f2 := HR3.out.ts.cA 4 (k := 2) rfl rfl
        have f3 := HR3.out.ts.cA 4 (k := 3) rfl rfl
        have i1 := HR3.out.ts.cA 5 (k := 1) rfl rfl
        have i2 := HR3.out.ts.cA 5 (k := 2) rfl rfl
        have i3 := HR3.out.ts.cA 5 (k := 3) rfl rfl
        gi_wp2_with fail
        refine ⟨trivial, fun _ => by omega, CallsIn.mono (callsIn_of (countZ_any HR3.out.ts.wr ai hma.1 (by omega) (by omega))) ?_⟩
        rintro e W4 ⟨rfl, u4, hw4, hk4⟩
        obtain ⟨ys4, hy4⟩ : ∃ z, ys3 ++ cntB ai = z := ⟨_, rfl⟩
        rw [hy4] at hw4
        have HR4 := Lib.hid (HR3.out.go rfl hb h0 hw4 hk4)
        have HK4 := Lib.hid (HK3.out.trans hk4)
        have hl4 : ys4.length = ys3.length + (cntB ai).length := by rw [← hy4, List.length_append]
        have HY4 := Lib.hid hy4
        clear hw4 hk4 hy4 HR3 HK3 cA c4 c5 f1 f2 f3 i1 i2 i3
        have cA := HR4.out.ts.cA 0 (k := 0) rfl rfl
        have c4 := HR4.out.ts.cA 1 (k := 0) rfl rfl
        have c5 := HR4.out.ts.cA 2 (k := 0) rfl rfl
        have f1 := HR4.out.ts.cA 4 (k := 1) rfl rfl
        have f2 := HR4.out.ts.cA 4 (k := 2) rfl rfl
        have f3 := HR4.out.ts.cA 4 (k := 3) rfl rfl
        have i1 := HR4.out.ts.cA 5 (k := 1) rfl rfl
        have i2 := HR4.out.ts.cA 5 (k := 2) rfl rfl
        have i3 := HR4.out.ts.cA 5 (k := 3) rfl rfl
        have cL := HLN2.out W4 (HR4.out.ts.base_le HW.out hb)
        gi_wp2_with fail
        refine wpIn_region_round [] (fun W => W.cell? ⟨w.heap.size, 0, none⟩ = some (.pointer (some ⟨b, 0, none⟩)) ∧ W.cell? ⟨p4, 0, none⟩ = some (.int .i64 (prevL lines k)) ∧ W.cell? ⟨p5, 0, none⟩ = some (.slice (some ⟨lb, lo' + k, none⟩) (m - k) (lcap - k)) ∧ W.cell? ⟨lb, lo' + k, none⟩ = some (.int .i64 xl)) hmx (by kernel_rfl) (fun h => by obtain ⟨_, _, h⟩ := h; exact h) ?_
        have hS0 : W4.drew.cell? ⟨w.heap.size, 0, none⟩ = some (.pointer (some ⟨b, 0, none⟩)) ∧ W4.drew.cell? ⟨p4, 0, none⟩ = some (.int .i64 (prevL lines k)) ∧ W4.drew.cell? ⟨p5, 0, none⟩ = some (.slice (some ⟨lb, lo' + k, none⟩) (m - k) (lcap - k)) ∧ W4.drew.cell? ⟨lb, lo' + k, none⟩ = some (.int .i64 xl) := ⟨cA, c4, c5, cL⟩
        refine wpX_take 0 (v := ?vrA0) rfl (by kernel_rfl) (by kernel_rfl) (by kernel_rfl) (by kernel_rfl) (fun _ _ _ h => h) hS0 (Or.inl ⟨by kernel_rfl, ?rA0⟩) ?_
        case rA0 => (intro W2 hS1; obtain ⟨s0, s1, s2, s3⟩ := hS1; go_simp; with_reducible rfl)
        refine wpX_take 1 (v := ?vrA1) rfl (by kernel_rfl) (by kernel_rfl) (by kernel_rfl) (by kernel_rfl) (fun _ _ _ h => h) hS0 (Or.inl ⟨by kernel_rfl, ?rA1⟩) ?_
        case rA1 => (intro W2 hS1; obtain ⟨s0, s1, s2, s3⟩ := hS1; go_simp; with_reducible rfl)
        refine wpX_take 2 (v := ?vrA2) rfl (by kernel_rfl) (by kernel_rfl) (by kernel_rfl) (by kernel_rfl) (fun _ _ _ h => h) hS0 (Or.inl ⟨by kernel_rfl, ?rA2⟩) ?_
        case rA2 => (intro W2 hS1; obtain ⟨s0, s1, s2, s3⟩ := hS1; go_simp; with_reducible rfl)
        refine wpX_take 3 (v := ?vrA3) rfl (by kernel_rfl) (by kernel_rfl) (by kernel_rfl) (by kernel_rfl) (fun _ _ _ h => h) hS0 (Or.inl ⟨by kernel_rfl, ?rA3⟩) ?_
        case rA3 => (intro W2 hS1; obtain ⟨s0, s1, s2, s3⟩ := hS1; go_simp; with_reducible rfl)
        refine wpX_take 4 (v := ?vrA4) rfl (by kernel_rfl) (by kernel_rfl) (by kernel_rfl) (by kernel_rfl) (fun _ _ _ h => h) hS0 (Or.inl ⟨by kernel_rfl, ?rA4⟩) ?_
        case rA4 => (intro W2 hS1; obtain ⟨s0, s1, s2, s3⟩ := hS1; go_simp; with_reducible rfl)
        refine wpX_take 5 (v := ?vrA5) rfl (by kernel_rfl) (by kernel_rfl) (by kernel_rfl) (by kernel_rfl) (fun _ _ _ h => h) hS0 (Or.inl ⟨by kernel_rfl, ?rA5⟩) ?_
        case rA5 => (intro W2 hS1; obtain ⟨s0, s1, s2, s3⟩ := hS1; go_simp; with_reducible rfl)
        refine wpX_one 6 (by kernel_rfl) rfl (fun K hK => ?_)
        go_simp
        have hrd := HR4.out.below (Below.refl _ W4).drew
        refine (signed_any hrd.ts.wr (xl - prevL lines k) (by omega) (by omega) (by omega)).mono ?_
        rintro e W5 ⟨rfl, u5, hw5, hk5⟩
        obtain ⟨ys5, hy5⟩ : ∃ z, ys4 ++ sgnB (xl - prevL lines k) = z := ⟨_, rfl⟩
        rw [hy5] at hw5
        have HR5 := Lib.hid (hrd.go rfl hb h0 hw5 hk5)
        have HK5 := Lib.hid ((HK4.out.new (Below.refl _ W4).drew HK4.out.size).trans hk5)
        have HY5 := Lib.hid hy5
        clear hw5 hk5 hy5 HR4 HK4 hrd cA c4 c5 f1 f2 f3 i1 i2 i3 cL hS0
        have cA := HR5.out.ts.cA 0 (k := 0) rfl rfl
        have c4 := HR5.out.ts.cA 1 (k := 0) rfl rfl
        have c5 := HR5.out.ts.cA 2 (k := 0) rfl rfl
        have f1 := HR5.out.ts.cA 4 (k := 1) rfl rfl
        have f2 := HR5.out.ts.cA 4 (k := 2) rfl rfl
        have f3 := HR5.out.ts.cA 4 (k := 3) rfl rfl
        have i1 := HR5.out.ts.cA 5 (k := 1) rfl rfl
        have i2 := HR5.out.ts.cA 5 (k := 2) rfl rfl
        have i3 := HR5.out.ts.cA 5 (k := 3) rfl rfl
        have cL := HLN2.out W5 (HR5.out.ts.base_le HW.out hb)
        refine hK _ _ (fun _ => ⟨cA, c4, c5, cL⟩) ?_
        clear hK K
        refine wpX_done (by kernel_rfl) ?_ _
        go_simp
        gi_wp2_with fail
        refine wpIn_region_round [6] (fun W => W.cell? ⟨p5, 0, none⟩ = some (.slice (some ⟨lb, lo' + k, none⟩) (m - k) (lcap - k)) ∧ W.cell? ⟨lb, lo' + k, none⟩ = some (.int .i64 xl)) hmx (by kernel_rfl) (fun h => by obtain ⟨_, _, h⟩ := h; exact h) ?_
        have hS0 : W5.drew.cell? ⟨p5, 0, none⟩ = some (.slice (some ⟨lb, lo' + k, none⟩) (m - k) (lcap - k)) ∧ W5.drew.cell? ⟨lb, lo' + k, none⟩ = some (.int .i64 xl) := ⟨c5, cL⟩
        have hm1 : (1 : Int) ≤ ((m - k : Nat) : Int) := by omega
        obtain ⟨pa, hpa⟩ : ∃ pa, (if lcap - k = 1 then some (⟨lb, lo' + k, none⟩ : Addr) else some ⟨lb, lo' + k + 1, none⟩) = pa := ⟨_, rfl⟩
        refine wpX_take 0 (v := ?vzA0) rfl (by kernel_rfl) (by kernel_rfl) (by kernel_rfl) (by kernel_rfl) (fun _ _ _ h => h) hS0 (Or.inl ⟨by kernel_rfl, ?zA0⟩) ?_
        case zA0 => (intro W2 hS1; obtain ⟨s0, s1⟩ := hS1; go_simp; with_reducible rfl)
        refine wpX_take 1 (v := ?vzA1) rfl (by kernel_rfl) (by kernel_rfl) (by kernel_rfl) (by kernel_rfl) (fun _ _ _ h => h) hS0 (Or.inl ⟨by kernel_rfl, ?zA1⟩) ?_
        case zA1 => (intro W2 hS1; obtain ⟨s0, s1⟩ := hS1; go_simp; with_reducible rfl)
        refine wpX_take 2 (v := ?vzA2) rfl (by kernel_rfl) (by kernel_rfl) (by kernel_rfl) (by kernel_rfl) (fun _ _ _ h => h) hS0 (Or.inl ⟨by kernel_rfl, ?zA2⟩) ?_
        case zA2 => (intro W2 hS1; obtain ⟨s0, s1⟩ := hS1; go_simp; with_reducible rfl)
        refine wpX_take 3 (v := ?vzA3) rfl (by kernel_rfl) (by kernel_rfl) (by kernel_rfl) (by kernel_rfl) (fun _ _ _ h => h) hS0 (Or.inl ⟨by kernel_rfl, ?zA3⟩) ?_
        case zA3 => (intro W2 hS1; obtain ⟨s0, s1⟩ := hS1; go_simp; with_reducible rfl)
        refine wpX_take 4 (v := ?vzA4) rfl (by kernel_rfl) (by kernel_rfl) (by kernel_rfl) (by kernel_rfl) (fun _ _ _ h => h) hS0 (Or.inl ⟨by kernel_rfl, ?zA4⟩) ?_
        case zA4 => (intro W2 hS1; obtain ⟨s0, s1⟩ := hS1; go_simp; with_reducible rfl)
        have c4f : W5.drew.frozen? ⟨p4, 0, none⟩ = false := HR5.out.ts.hl.froz 1 rfl
        have c5f : W5.drew.frozen? ⟨p5, 0, none⟩ = false := HR5.out.ts.hl.froz 2 rfl
        refine wpX_one 5 (by kernel_rfl) rfl (fun K hK => ?_)
        go_simp
        have e5 : (W5.setCell ⟨p4, 0, none⟩ (.int .i64 xl)).drew.cell? ⟨p5, 0, none⟩ = some (.slice (some ⟨lb, lo' + k, none⟩) (m - k) (lcap - k)) := (World.cell?_setCell_far _ _ _ _ hp45).trans c5
        have e5f : (W5.setCell ⟨p4, 0, none⟩ (.int .i64 xl)).drew.frozen? ⟨p5, 0, none⟩ = false := (World.frozen?_setCell _ _ _ _).trans c5f
        have eL : (W5.setCell ⟨p4, 0, none⟩ (.int .i64 xl)).drew.cell? ⟨lb, lo' + k, none⟩ = some (.int .i64 xl) := (World.cell?_setCell_far _ _ _ _ (by show p4 ≠ lb; omega)).trans cL
        refine hK _ _ (fun _ => ⟨e5, eL⟩) ?_
        clear hK K
        refine wpX_one 6 (by kernel_rfl) rfl (fun K hK => ?_)
        go_simp
        refine hK _ _ (fun h => by cases h) ?_
        clear hK K
        refine wpX_done (by kernel_rfl) ?_ _
        go_simp
        gi_wp2
        exact rd_fin HW.out HR2.out HR5.out HK5.out hpa HCP.out hbd (by rw [← HY5.out, ← HY4.out, ← HY3.out, hins]; simp only [List.append_assoc, List.cons_append, List.nil_append]) HG.out.1 HTT.out HXL.out (by have := HZ2.out; omega) (Nat.le_trans (Nat.le_trans HZ2.out HK5.out.size) (Nat.le_refl _)) (by omega) hp4 hp5 hp45 (by omega) (by omega) HIB.out hb h0 hw0
      · have hins : insB ⟨ci, ai, bi, ni⟩ = ci.toNat :: (cntB ai ++ cntB bi) := by simp [insB, HIX.out.1, HIX.out.2.1, HIX.out.2.2]
        have hma : 0 ≤ ai ∧ ai ≤ 65535 := by simpa [pMay, bMay] using HM1.out.1
        have hmb : 0 ≤ bi ∧ bi ≤ 65535 := by simpa [pMay, bMay] using HM1.out.2.1
        rw [hins] at hyn
        simp only [List.length_cons, List.length_append, List.length_nil] at hyn
        have cA := HR3.out.ts.cA 0 (k := 0) rfl rfl
        have c4 := HR3.out.ts.cA 1 (k := 0) rfl rfl
        have c5 := HR3.out.ts.cA 2 (k := 0) rfl rfl
        have f1 := HR3.out.ts.cA 4 (k := 1) rfl rfl
        have f2 := HR3.out.ts.cA 4 (k := 2) rfl rfl
        have f3 := HR3.out.ts.cA 4 (k := 3) rfl rfl
        have i1 := HR3.out.ts.cA 5 (k := 1) rfl rfl
        have i2 := HR3.out.ts.cA 5 (k := 2) rfl rfl
        have i3 := HR3.out.ts.cA 5 (k := 3) rfl rfl
        gi_wp2_with fail
        refine ⟨trivial, fun _ => by omega, CallsIn.mono (callsIn_of (countZ_any HR3.out.ts.wr ai hma.1 (by omega) (by omega))) ?_⟩
        rintro e W4 ⟨rfl, u4, hw4, hk4⟩
        obtain ⟨ys4, hy4⟩ : ∃ z, ys3 ++ cntB ai = z := ⟨_, rfl⟩
        rw [hy4] at hw4
        have HR4 := Lib.hid (HR3.out.go rfl hb h0 hw4 hk4)
        have HK4 := Lib.hid (HK3.out.trans hk4)
        have hl4 : ys4.length = ys3.length + (cntB ai).length := by rw [← hy4, List.length_append]
        have HY4 := Lib.hid hy4
        clear hw4 hk4 hy4 HR3 HK3 cA c4 c5 f1 f2 f3 i1 i2 i3
        have cA := HR4.out.ts.cA 0 (k := 0) rfl rfl
        have c4 := HR4.out.ts.cA 1 (k := 0) rfl rfl
        have c5 := HR4.out.ts.cA 2 (k := 0) rfl rfl
        have f1 := HR4.out.ts.cA 4 (k := 1) rfl rfl
        have f2 := HR4.out.ts.cA 4 (k := 2) rfl rfl
        have f3 := HR4.out.ts.cA 4 (k := 3) rfl rfl
        have i1 := HR4.out.ts.cA 5 (k := 1) rfl rfl
        have i2 := HR4.out.ts.cA 5 (k := 2) rfl rfl
        have i3 := HR4.out.ts.cA 5 (k := 3) rfl rfl
        gi_wp2_with fail
        refine ⟨trivial, fun _ => by omega, CallsIn.mono (callsIn_of (countZ_any HR4.out.ts.wr bi hmb.1 (by omega) (by omega))) ?_⟩
        rintro e W5 ⟨rfl, u5, hw5, hk5⟩
        obtain ⟨ys5, hy5⟩ : ∃ z, ys4 ++ cntB bi = z := ⟨_, rfl⟩
        rw [hy5] at hw5
        have HR5 := Lib.hid (HR4.out.go rfl hb h0 hw5 hk5)
        have HK5 := Lib.hid (HK4.out.trans hk5)
        have hl5 : ys5.length = ys4.length + (cntB bi).length := by rw [← hy5, List.length_append]
        have HY5 := Lib.hid hy5
        clear hw5 hk5 hy5 HR4 HK4 cA c4 c5 f1 f2 f3 i1 i2 i3
        have cA := HR5.out.ts.cA 0 (k := 0) rfl rfl
        have c4 := HR5.out.ts.cA 1 (k := 0) rfl rfl
        have c5 := HR5.out.ts.cA 2 (k := 0) rfl rfl
        have f1 := HR5.out.ts.cA 4 (k := 1) rfl rfl
        have f2 := HR5.out.ts.cA 4 (k := 2) rfl rfl
        have f3 := HR5.out.ts.cA 4 (k := 3) rfl rfl
        have i1 := HR5.out.ts.cA 5 (k := 1) rfl rfl
        have i2 := HR5.out.ts.cA 5 (k := 2) rfl rfl
        have i3 := HR5.out.ts.cA 5 (k := 3) rfl rfl
        have cL := HLN2.out W5 (HR5.out.ts.base_le HW.out hb)
        gi_wp2_with fail
        refine wpIn_region_round [] (fun W => W.cell? ⟨w.heap.size, 0, none⟩ = some (.pointer (some ⟨b, 0, none⟩)) ∧ W.cell? ⟨p4, 0, none⟩ = some (.int .i64 (prevL lines k)) ∧ W.cell? ⟨p5, 0, none⟩ = some (.slice (some ⟨lb, lo' + k, none⟩) (m - k) (lcap - k)) ∧ W.cell? ⟨lb, lo' + k, none⟩ = some (.int .i64 xl)) hmx (by kernel_rfl) (fun h => by obtain ⟨_, _, h⟩ := h; exact h) ?_
        have hS0 : W5.drew.cell? ⟨w.heap.size, 0, none⟩ = some (.pointer (some ⟨b, 0, none⟩)) ∧ W5.drew.cell? ⟨p4, 0, none⟩ = some (.int .i64 (prevL lines k)) ∧ W5.drew.cell? ⟨p5, 0, none⟩ = some (.slice (some ⟨lb, lo' + k, none⟩) (m - k) (lcap - k)) ∧ W5.drew.cell? ⟨lb, lo' + k, none⟩ = some (.int .i64 xl) := ⟨cA, c4, c5, cL⟩
        refine wpX_take 0 (v := ?vrAB0) rfl (by kernel_rfl) (by kernel_rfl) (by kernel_rfl) (by kernel_rfl) (fun _ _ _ h => h) hS0 (Or.inl ⟨by kernel_rfl, ?rAB0⟩) ?_
        case rAB0 => (intro W2 hS1; obtain ⟨s0, s1, s2, s3⟩ := hS1; go_simp; with_reducible rfl)
        refine wpX_take 1 (v := ?vrAB1) rfl (by kernel_rfl) (by kernel_rfl) (by kernel_rfl) (by kernel_rfl) (fun _ _ _ h => h) hS0 (Or.inl ⟨by kernel_rfl, ?rAB1⟩) ?_
        case rAB1 => (intro W2 hS1; obtain ⟨s0, s1, s2, s3⟩ := hS1; go_simp; with_reducible rfl)
        refine wpX_take 2 (v := ?vrAB2) rfl (by kernel_rfl) (by kernel_rfl) (by kernel_rfl) (by kernel_rfl) (fun _ _ _ h => h) hS0 (Or.inl ⟨by kernel_rfl, ?rAB2⟩) ?_
        case rAB2 => (intro W2 hS1; obtain ⟨s0, s1, s2, s3⟩ := hS1; go_simp; with_reducible rfl)
        refine wpX_take 3 (v := ?vrAB3) rfl (by kernel_rfl) (by kernel_rfl) (by kernel_rfl) (by kernel_rfl) (fun _ _ _ h => h) hS0 (Or.inl ⟨by kernel_rfl, ?rAB3⟩) ?_
        case rAB3 => (intro W2 hS1; obtain ⟨s0, s1, s2, s3⟩ := hS1; go_simp; with_reducible rfl)
        refine wpX_take 4 (v := ?vrAB4) rfl (by kernel_rfl) (by kernel_rfl) (by kernel_rfl) (by kernel_rfl) (fun _ _ _ h => h) hS0 (Or.inl ⟨by kernel_rfl, ?rAB4⟩) ?_
        case rAB4 => (intro W2 hS1; obtain ⟨s0, s1, s2, s3⟩ := hS1; go_simp; with_reducible rfl)
        refine wpX_take 5 (v := ?vrAB5) rfl (by kernel_rfl) (by kernel_rfl) (by kernel_rfl) (by kernel_rfl) (fun _ _ _ h => h) hS0 (Or.inl ⟨by kernel_rfl, ?rAB5⟩) ?_
        case rAB5 => (intro W2 hS1; obtain ⟨s0, s1, s2, s3⟩ := hS1; go_simp; with_reducible rfl)
        refine wpX_one 6 (by kernel_rfl) rfl (fun K hK => ?_)
        go_simp
        have hrd := HR5.out.below (Below.refl _ W5).drew
        refine (signed_any hrd.ts.wr (xl - prevL lines k) (by omega) (by omega) (by omega)).mono ?_
        rintro e W6 ⟨rfl, u6, hw6, hk6⟩
        obtain ⟨ys6, hy6⟩ : ∃ z, ys5 ++ sgnB (xl - prevL lines k) = z := ⟨_, rfl⟩
        rw [hy6] at hw6
        have HR6 := Lib.hid (hrd.go rfl hb h0 hw6 hk6)
        have HK6 := Lib.hid ((HK5.out.new (Below.refl _ W5).drew HK5.out.size).trans hk6)
        have HY6 := Lib.hid hy6
        clear hw6 hk6 hy6 HR5 HK5 hrd cA c4 c5 f1 f2 f3 i1 i2 i3 cL hS0
        have cA := HR6.out.ts.cA 0 (k := 0) rfl rfl
        have c4 := HR6.out.ts.cA 1 (k := 0) rfl rfl
        have c5 := HR6.out.ts.cA 2 (k := 0) rfl rfl
        have f1 := HR6.out.ts.cA 4 (k := 1) rfl rfl
        have f2 := HR6.out.ts.cA 4 (k := 2) rfl rfl
        have f3 := HR6.out.ts.cA 4 (k := 3) rfl rfl
        have i1 := HR6.out.ts.cA 5 (k := 1) rfl rfl
        have i2 := HR6.out.ts.cA 5 (k := 2) rfl rfl
        have i3 := HR6.out.ts.cA 5 (k := 3) rfl rfl
        have cL := HLN2.out W6 (HR6.out.ts.base_le HW.out hb)
        refine hK _ _ (fun _ => ⟨cA, c4, c5, cL⟩) ?_
        clear hK K
        refine wpX_done (by kernel_rfl) ?_ _
        go_simp
        gi_wp2_with fail
        refine wpIn_region_round [6] (fun W => W.cell? ⟨p5, 0, none⟩ = some (.slice (some ⟨lb, lo' + k, none⟩) (m - k) (lcap - k)) ∧ W.cell? ⟨lb, lo' + k, none⟩ = some (.int .i64 xl)) hmx (by kernel_rfl) (fun h => by obtain ⟨_, _, h⟩ := h; exact h) ?_
        have hS0 : W6.drew.cell? ⟨p5, 0, none⟩ = some (.slice (some ⟨lb, lo' + k, none⟩) (m - k) (lcap - k)) ∧ W6.drew.cell? ⟨lb, lo' + k, none⟩ = some (.int .i64 xl) := ⟨c5, cL⟩
        have hm1 : (1 : Int) ≤ ((m - k : Nat) : Int) := by omega
        obtain ⟨pa, hpa⟩ : ∃ pa, (if lcap - k = 1 then some (⟨lb, lo' + k, none⟩ : Addr) else some ⟨lb, lo' + k + 1, none⟩) = pa := ⟨_, rfl⟩
        refine wpX_take 0 (v := ?vzAB0) rfl (by kernel_rfl) (by kernel_rfl) (by kernel_rfl) (by kernel_rfl) (fun _ _ _ h => h) hS0 (Or.inl ⟨by kernel_rfl, ?zAB0⟩) ?_
        case zAB0 => (intro W2 hS1; obtain ⟨s0, s1⟩ := hS1; go_simp; with_reducible rfl)
        refine wpX_take 1 (v := ?vzAB1) rfl (by kernel_rfl) (by kernel_rfl) (by kernel_rfl) (by kernel_rfl) (fun _ _ _ h => h) hS0 (Or.inl ⟨by kernel_rfl, ?zAB1⟩) ?_
        case zAB1 => (intro W2 hS1; obtain ⟨s0, s1⟩ := hS1; go_simp; with_reducible rfl)
        refine wpX_take 2 (v := ?vzAB2) rfl (by kernel_rfl) (by kernel_rfl) (by kernel_rfl) (by kernel_rfl) (fun _ _ _ h => h) hS0 (Or.inl ⟨by kernel_rfl, ?zAB2⟩) ?_
        case zAB2 => (intro W2 hS1; obtain ⟨s0, s1⟩ := hS1; go_simp; with_reducible rfl)
        refine wpX_take 3 (v := ?vzAB3) rfl (by kernel_rfl) (by kernel_rfl) (by kernel_rfl) (by kernel_rfl) (fun _ _ _ h => h) hS0 (Or.inl ⟨by kernel_rfl, ?zAB3⟩) ?_
        case zAB3 => (intro W2 hS1; obtain ⟨s0, s1⟩ := hS1; go_simp; with_reducible rfl)
        refine wpX_take 4 (v := ?vzAB4) rfl (by kernel_rfl) (by kernel_rfl) (by kernel_rfl) (by kernel_rfl) (fun _ _ _ h => h) hS0 (Or.inl ⟨by kernel_rfl, ?zAB4⟩) ?_
        case zAB4 => (intro W2 hS1; obtain ⟨s0, s1⟩ := hS1; go_simp; with_reducible rfl)
        have c4f : W6.drew.frozen? ⟨p4, 0, none⟩ = false := HR6.out.ts.hl.froz 1 rfl
        have c5f : W6.drew.frozen? ⟨p5, 0, none⟩ = false := HR6.out.ts.hl.froz 2 rfl
        refine wpX_one 5 (by kernel_rfl) rfl (fun K hK => ?_)
        go_simp
        have e5 : (W6.setCell ⟨p4, 0, none⟩ (.int .i64 xl)).drew.cell? ⟨p5, 0, none⟩ = some (.slice (some ⟨lb, lo' + k, none⟩) (m - k) (lcap - k)) := (World.cell?_setCell_far _ _ _ _ hp45).trans c5
        have e5f : (W6.setCell ⟨p4, 0, none⟩ (.int .i64 xl)).drew.frozen? ⟨p5, 0, none⟩ = false := (World.frozen?_setCell _ _ _ _).trans c5f
        have eL : (W6.setCell ⟨p4, 0, none⟩ (.int .i64 xl)).drew.cell? ⟨lb, lo' + k, none⟩ = some (.int .i64 xl) := (World.cell?_setCell_far _ _ _ _ (by show p4 ≠ lb; omega)).trans cL
        refine hK _ _ (fun _ => ⟨e5, eL⟩) ?_
        clear hK K
        refine wpX_one 6 (by kernel_rfl) rfl (fun K hK => ?_)
        go_simp
        refine hK _ _ (fun h => by cases h) ?_
        clear hK K
        refine wpX_done (by kernel_rfl) ?_ _
        go_simp
        gi_wp2
        exact rd_fin HW.out HR2.out HR6.out HK6.out hpa HCP.out hbd (by rw [← HY6.out, ← HY5.out, ← HY4.out, ← HY3.out, hins]; simp only [List.append_assoc, List.cons_append, List.nil_append]) HG.out.1 HTT.out HXL.out (by have := HZ2.out; omega) (Nat.le_trans (Nat.le_trans HZ2.out HK6.out.size) (Nat.le_refl _)) (by omega) hp4 hp5 hp45 (by omega) (by omega) HIB.out hb h0 hw0
      · have hins : insB ⟨ci, ai, bi, ni⟩ = ci.toNat :: sgnB ni := by simp [insB, HIX.out.1, HIX.out.2.1, HIX.out.2.2]
        have hmn : -2147483648 ≤ ni ∧ ni ≤ 2147483647 := by simpa [vMay] using HM1.out.2.2
        rw [hins] at hyn
        simp only [List.length_cons, List.length_append, List.length_nil] at hyn
        have cA := HR3.out.ts.cA 0 (k := 0) rfl rfl
        have c4 := HR3.out.ts.cA 1 (k := 0) rfl rfl
        have c5 := HR3.out.ts.cA 2 (k := 0) rfl rfl
        have f1 := HR3.out.ts.cA 4 (k := 1) rfl rfl
        have f2 := HR3.out.ts.cA 4 (k := 2) rfl rfl
        have f3 := HR3.out.ts.cA 4 (k := 3) rfl rfl
        have i1 := HR3.out.ts.cA 5 (k := 1) rfl rfl
        have i2 := HR3.out.ts.cA 5 (k := 2) rfl rfl
        have i3 := HR3.out.ts.cA 5 (k := 3) rfl rfl
        gi_wp2_with fail
        refine ⟨trivial, fun _ => by omega, CallsIn.mono (callsIn_of (signed_any HR3.out.ts.wr ni (by omega) (by omega) (by omega))) ?_⟩
        rintro e W4 ⟨rfl, u4, hw4, hk4⟩
        obtain ⟨ys4, hy4⟩ : ∃ z, ys3 ++ sgnB ni = z := ⟨_, rfl⟩
        rw [hy4] at hw4
        have HR4 := Lib.hid (HR3.out.go rfl hb h0 hw4 hk4)
        have HK4 := Lib.hid (HK3.out.trans hk4)
        have hl4 : ys4.length = ys3.length + (sgnB ni).length := by rw [← hy4, List.length_append]
        have HY4 := Lib.hid hy4
        clear hw4 hk4 hy4 HR3 HK3 cA c4 c5 f1 f2 f3 i1 i2 i3
        have cA := HR4.out.ts.cA 0 (k := 0) rfl rfl
        have c4 := HR4.out.ts.cA 1 (k := 0) rfl rfl
        have c5 := HR4.out.ts.cA 2 (k := 0) rfl rfl
        have f1 := HR4.out.ts.cA 4 (k := 1) rfl rfl
        have f2 := HR4.out.ts.cA 4 (k := 2) rfl rfl
        have f3 := HR4.out.ts.cA 4 (k := 3) rfl rfl
        have i1 := HR4.out.ts.cA 5 (k := 1) rfl rfl
        have i2 := HR4.out.ts.cA 5 (k := 2) rfl rfl
        have i3 := HR4.out.ts.cA 5 (k := 3) rfl rfl
        have cL := HLN2.out W4 (HR4.out.ts.base_le HW.out hb)
        gi_wp2_with fail
        refine wpIn_region_round [] (fun W => W.cell? ⟨w.heap.size, 0, none⟩ = some (.pointer (some ⟨b, 0, none⟩)) ∧ W.cell? ⟨p4, 0, none⟩ = some (.int .i64 (prevL lines k)) ∧ W.cell? ⟨p5, 0, none⟩ = some (.slice (some ⟨lb, lo' + k, none⟩) (m - k) (lcap - k)) ∧ W.cell? ⟨lb, lo' + k, none⟩ = some (.int .i64 xl)) hmx (by kernel_rfl) (fun h => by obtain ⟨_, _, h⟩ := h; exact h) ?_
        have hS0 : W4.drew.cell? ⟨w.heap.size, 0, none⟩ = some (.pointer (some ⟨b, 0, none⟩)) ∧ W4.drew.cell? ⟨p4, 0, none⟩ = some (.int .i64 (prevL lines k)) ∧ W4.drew.cell? ⟨p5, 0, none⟩ = some (.slice (some ⟨lb, lo' + k, none⟩) (m - k) (lcap - k)) ∧ W4.drew.cell? ⟨lb, lo' + k, none⟩ = some (.int .i64 xl) := ⟨cA, c4, c5, cL⟩
        refine wpX_take 0 (v := ?vrN0) rfl (by kernel_rfl) (by kernel_rfl) (by kernel_rfl) (by kernel_rfl) (fun _ _ _ h => h) hS0 (Or.inl ⟨by kernel_rfl, ?rN0⟩) ?_
        case rN0 => (intro W2 hS1; obtain ⟨s0, s1, s2, s3⟩ := hS1; go_simp; with_reducible rfl)
        refine wpX_take 1 (v := ?vrN1) rfl (by kernel_rfl) (by kernel_rfl) (by kernel_rfl) (by kernel_rfl) (fun _ _ _ h => h) hS0 (Or.inl ⟨by kernel_rfl, ?rN1⟩) ?_
        case rN1 => (intro W2 hS1; obtain ⟨s0, s1, s2, s3⟩ := hS1; go_simp; with_reducible rfl)
        refine wpX_take 2 (v := ?vrN2) rfl (by kernel_rfl) (by kernel_rfl) (by kernel_rfl) (by kernel_rfl) (fun _ _ _ h => h) hS0 (Or.inl ⟨by kernel_rfl, ?rN2⟩) ?_
        case rN2 => (intro W2 hS1; obtain ⟨s0, s1, s2, s3⟩ := hS1; go_simp; with_reducible rfl)
        refine wpX_take 3 (v := ?vrN3) rfl (by kernel_rfl) (by kernel_rfl) (by kernel_rfl) (by kernel_rfl) (fun _ _ _ h => h) hS0 (Or.inl ⟨by kernel_rfl, ?rN3⟩) ?_
        case rN3 => (intro W2 hS1; obtain ⟨s0, s1, s2, s3⟩ := hS1; go_simp; with_reducible rfl)
        refine wpX_take 4 (v := ?vrN4) rfl (by kernel_rfl) (by kernel_rfl) (by kernel_rfl) (by kernel_rfl) (fun _ _ _ h => h) hS0 (Or.inl ⟨by kernel_rfl, ?rN4⟩) ?_
        case rN4 => (intro W2 hS1; obtain ⟨s0, s1, s2, s3⟩ := hS1; go_simp; with_reducible rfl)
        refine wpX_take 5 (v := ?vrN5) rfl (by kernel_rfl) (by kernel_rfl) (by kernel_rfl) (by kernel_rfl) (fun _ _ _ h => h) hS0 (Or.inl ⟨by kernel_rfl, ?rN5⟩) ?_
        case rN5 => (intro W2 hS1; obtain ⟨s0, s1, s2, s3⟩ := hS1; go_simp; with_reducible rfl)
        refine wpX_one 6 (by kernel_rfl) rfl (fun K hK => ?_)
        go_simp
        have hrd := HR4.out.below (Below.refl _ W4).drew
        refine (signed_any hrd.ts.wr (xl - prevL lines k) (by omega) (by omega) (by omega)).mono ?_
        rintro e W5 ⟨rfl, u5, hw5, hk5⟩
        obtain ⟨ys5, hy5⟩ : ∃ z, ys4 ++ sgnB (xl - prevL lines k) = z := ⟨_, rfl⟩
        rw [hy5] at hw5
        have HR5 := Lib.hid (hrd.go rfl hb h0 hw5 hk5)
        have HK5 := Lib.hid ((HK4.out.new (Below.refl _ W4).drew HK4.out.size).trans hk5)
        have HY5 := Lib.hid hy5
        clear hw5 hk5 hy5 HR4 HK4 hrd cA c4 c5 f1 f2 f3 i1 i2 i3 cL hS0
        have cA := HR5.out.ts.cA 0 (k := 0) rfl rfl
        have c4 := HR5.out.ts.cA 1 (k := 0) rfl rfl
        have c5 := HR5.out.ts.cA 2 (k := 0) rfl rfl
        have f1 := HR5.out.ts.cA 4 (k := 1) rfl rfl
        have f2 := HR5.out.ts.cA 4 (k := 2) rfl rfl
        have f3 := HR5.out.ts.cA 4 (k := 3) rfl rfl
        have i1 := HR5.out.ts.cA 5 (k := 1) rfl rfl
        have i2 := HR5.out.ts.cA 5 (k := 2) rfl rfl
        have i3 := HR5.out.ts.cA 5 (k := 3) rfl rfl
        have cL := HLN2.out W5 (HR5.out.ts.base_le HW.out hb)
        refine hK _ _ (fun _ => ⟨cA, c4, c5, cL⟩) ?_
        clear hK K
        refine wpX_done (by kernel_rfl) ?_ _
        go_simp
        gi_wp2_with fail
        refine wpIn_region_round [6] (fun W => W.cell? ⟨p5, 0, none⟩ = some (.slice (some ⟨lb, lo' + k, none⟩) (m - k) (lcap - k)) ∧ W.cell? ⟨lb, lo' + k, none⟩ = some (.int .i64 xl)) hmx (by kernel_rfl) (fun h => by obtain ⟨_, _, h⟩ := h; exact h) ?_
        have hS0 : W5.drew.cell? ⟨p5, 0, none⟩ = some (.slice (some ⟨lb, lo' + k, none⟩) (m - k) (lcap - k)) ∧ W5.drew.cell? ⟨lb, lo' + k, none⟩ = some (.int .i64 xl) := ⟨c5, cL⟩
        have hm1 : (1 : Int) ≤ ((m - k : Nat) : Int) := by omega
        obtain ⟨pa, hpa⟩ : ∃ pa, (if lcap - k = 1 then some (⟨lb, lo' + k, none⟩ : Addr) else some ⟨lb, lo' + k + 1, none⟩) = pa := ⟨_, rfl⟩
        refine wpX_take 0 (v := ?vzN0) rfl (by kernel_rfl) (by kernel_rfl) (by kernel_rfl) (by kernel_rfl) (fun _ _ _ h => h) hS0 (Or.inl ⟨by kernel_rfl, ?zN0⟩) ?_
        case zN0 => (intro W2 hS1; obtain ⟨s0, s1⟩ := hS1; go_simp; with_reducible rfl)
        refine wpX_take 1 (v := ?vzN1) rfl (by kernel_rfl) (by kernel_rfl) (by kernel_rfl) (by kernel_rfl) (fun _ _ _ h => h) hS0 (Or.inl ⟨by kernel_rfl, ?zN1⟩) ?_
        case zN1 => (intro W2 hS1; obtain ⟨s0, s1⟩ := hS1; go_simp; with_reducible rfl)
        refine wpX_take 2 (v := ?vzN2) rfl (by kernel_rfl) (by kernel_rfl) (by kernel_rfl) (by kernel_rfl) (fun _ _ _ h => h) hS0 (Or.inl ⟨by kernel_rfl, ?zN2⟩) ?_
        case zN2 => (intro W2 hS1; obtain ⟨s0, s1⟩ := hS1; go_simp; with_reducible rfl)
        refine wpX_take 3 (v := ?vzN3) rfl (by kernel_rfl) (by kernel_rfl) (by kernel_rfl) (by kernel_rfl) (fun _ _ _ h => h) hS0 (Or.inl ⟨by kernel_rfl, ?zN3⟩) ?_
        case zN3 => (intro W2 hS1; obtain ⟨s0, s1⟩ := hS1; go_simp; with_reducible rfl)
        refine wpX_take 4 (v := ?vzN4) rfl (by kernel_rfl) (by kernel_rfl) (by kernel_rfl) (by kernel_rfl) (fun _ _ _ h => h) hS0 (Or.inl ⟨by kernel_rfl, ?zN4⟩) ?_
        case zN4 => (intro W2 hS1; obtain ⟨s0, s1⟩ := hS1; go_simp; with_reducible rfl)
        have c4f : W5.drew.frozen? ⟨p4, 0, none⟩ = false := HR5.out.ts.hl.froz 1 rfl
        have c5f : W5.drew.frozen? ⟨p5, 0, none⟩ = false := HR5.out.ts.hl.froz 2 rfl
        refine wpX_one 5 (by kernel_rfl) rfl (fun K hK => ?_)
        go_simp
        have e5 : (W5.setCell ⟨p4, 0, none⟩ (.int .i64 xl)).drew.cell? ⟨p5, 0, none⟩ = some (.slice (some ⟨lb, lo' + k, none⟩) (m - k) (lcap - k)) := (World.cell?_setCell_far _ _ _ _ hp45).trans c5
        have e5f : (W5.setCell ⟨p4, 0, none⟩ (.int .i64 xl)).drew.frozen? ⟨p5, 0, none⟩ = false := (World.frozen?_setCell _ _ _ _).trans c5f
        have eL : (W5.setCell ⟨p4, 0, none⟩ (.int .i64 xl)).drew.cell? ⟨lb, lo' + k, none⟩ = some (.int .i64 xl) := (World.cell?_setCell_far _ _ _ _ (by show p4 ≠ lb; omega)).trans cL
        refine hK _ _ (fun _ => ⟨e5, eL⟩) ?_
        clear hK K
        refine wpX_one 6 (by kernel_rfl) rfl (fun K hK => ?_)
        go_simp
        refine hK _ _ (fun h => by cases h) ?_
        clear hK K
        refine wpX_done (by kernel_rfl) ?_ _
        go_simp
        gi_wp2
        exact rd_fin HW.out HR2.out HR5.out HK5.out hpa HCP.out hbd (by rw [← HY5.out, ← HY4.out, ← HY3.out, hins]; simp only [List.append_assoc, List.cons_append, List.nil_append]) HG.out.1 HTT.out HXL.out (by have := HZ2.out; omega) (Nat.le_trans (Nat.le_trans HZ2.out HK5.out.size) (Nat.le_refl _)) (by omega) hp4 hp5 hp45 (by omega) (by omega) HIB.out hb h0 hw0
    case done =>
      intro D k V hD hfin hi hKD
      subst hfin
      obtain ⟨u, ys, lb, lo', cp, g1, g2, g3, g4, g5⟩ := hi
      have g6 := g5.own (row := some D) hw0 (by simp [Obj.isCells]) (grownBy_putObj' V D (.deferred none)) (fun r e => by cases e; exact ⟨by omega, _, hKD, rfl⟩)
      refine ⟨by simp, .inl ⟨_, _, rfl, run_takeDeferred hKD, ?_⟩⟩
      refine ⟨_, by simp [results, Tryd.f24, go_sem], rfl, u, ?_, g6.ts.wk⟩
      have hy : xs ++ thrB ⟨nm, lo, ia, icap, ins, la, lcap, lines⟩ = ys := by
        rw [← g1, List.take_of_length_le (by rw [HNI.out]; exact Nat.le_refl _), List.take_of_length_le (by rw [HNL.out]; exact Nat.le_refl _)]
        simp only [thrB, List.append_assoc]
      rw [hy]
      exact g6.ts.wr
  have c3 := HT4.out.cA 1 (k := 3) rfl rfl
  have hmx : Tryd.prog.follows .mixedOrders = true := by kernel_rfl
  refine wp_calmly ?_
  refine wp_region_x [] (fun W => W.cell? ⟨w.heap.size + 1, 3, none⟩ = some (.slice la m lcap)) hmx ?_
  have hS0 : W4.drew.cell? ⟨w.heap.size + 1, 3, none⟩ = some (.slice la m lcap) := c3
  refine wpX_take 0 (v := ?vh0) rfl (by kernel_rfl) (by kernel_rfl) (by kernel_rfl) (by kernel_rfl) (fun _ _ _ h => h) hS0 (Or.inl ⟨by kernel_rfl, ?h0⟩) ?_
  case h0 => (intro W2 hS1; go_simp; with_reducible rfl)
  refine wpX_take 1 (v := ?vh1) rfl (by kernel_rfl) (by kernel_rfl) (by kernel_rfl) (by kernel_rfl) (fun _ _ _ h => h) hS0 (Or.inl ⟨by kernel_rfl, ?h1⟩) ?_
  case h1 => (intro W2 hS1; go_simp; with_reducible rfl)
  have s1 : ∀ o, (W4.alloc o).drew.cell? ⟨w.heap.size + 1, 3, none⟩ = some (.slice la m lcap) := fun o => (Below.cell (p := ⟨w.heap.size + 1, 3, none⟩) ((Below.refl _ W4).alloc (Nat.le_refl _) o) (World.block_lt_of_cell? _ _ hS0)).trans hS0
  have s2 : ∀ o o', ((W4.alloc o).alloc o').drew.cell? ⟨w.heap.size + 1, 3, none⟩ = some (.slice la m lcap) := fun o o' => (Below.cell (p := ⟨w.heap.size + 1, 3, none⟩) ((Below.refl _ (W4.alloc o)).alloc (Nat.le_refl _) o') (World.block_lt_of_cell? _ _ (s1 o))).trans (s1 o)
  have hge : w.heap.size + 2 ≤ W4.heap.size := by
    have := World.block_lt_of_cell? _ _ c3
    exact this
  refine wpX_two 2 3 (by kernel_rfl) rfl rfl (fun K' hK' => ?_) (fun K' hK' => ?_)
  · go_simp
    refine hK' _ _ (fun _ => s1 _) ?_
    clear hK' K'
    refine wpX_one 3 (by kernel_rfl) rfl (fun K hK => ?_)
    go_simp
    refine hK _ _ (fun _ => s2 _ _) ?_
    clear hK K
    refine wpX_one 4 (by kernel_rfl) rfl (fun K hK => ?_)
    go_simp
    refine hK _ _ (fun _ => s2 _ _) ?_
    clear hK K
    refine wpX_one 5 (by kernel_rfl) rfl (fun K hK => ?_)
    go_simp
    refine hK _ _ (fun _ => s2 _ _) ?_
    clear hK K
    refine wpX_done (by kernel_rfl) ?_ _
    go_simp
    refine hT _ _ _ ((HT4.out.add #[.int .i64 0] 3).add #[.slice la m lcap] 23 |> fun h => (by simpa using h.below (Below.refl _ _).drew)) hge (by omega) (by omega)
  · go_simp
    refine hK' _ _ (fun _ => s1 _) ?_
    clear hK' K'
    refine wpX_one 2 (by kernel_rfl) rfl (fun K hK => ?_)
    go_simp
    refine hK _ _ (fun _ => s2 _ _) ?_
    clear hK K
    refine wpX_one 4 (by kernel_rfl) rfl (fun K hK => ?_)
    go_simp
    refine hK _ _ (fun _ => s2 _ _) ?_
    clear hK K
    refine wpX_one 5 (by kernel_rfl) rfl (fun K hK => ?_)
    go_simp
    refine hK _ _ (fun _ => s2 _ _) ?_
    clear hK K
    refine wpX_done (by kernel_rfl) ?_ _
    go_simp
    refine hT _ _ _ ?_ (by omega) hge (by omega)
    have h5 := ((HT4.out.add #[.slice la m lcap] 23).add #[.int .i64 0] 3).below (Below.refl _ _).drew
    refine ⟨h5.wr, h5.wk, fun x hx => h5.hl x ?_, h5.tb⟩
    simp at hx ⊢
    rcases hx with h | h | h | h <;> simp [h]
end Go.Proofs.YtjbinejaagpleaaDoor
