/- Instructions, threads' codes and modules as plain lists: what is written is read, what is read was written so. No condition but that the module may be. -/
import Derived.Test.YtjbinejaagpleaaDoorPure2
import Derived.Test.YtjbinejaagpleaaDoorChk
import Derived.Test.YtjbinejaagpleaaDoorWrT
namespace Go.Proofs.YtjbinejaagpleaaDoor

structure CodeP where
  name : List Nat
  locals : Int
  ins : List InsP
  lines : List Int
structure ModP where
  vars : List Int
  arrays : List Int
  chans : List Int
  mu : Int
  co : Int
  threads : List CodeP
def CodeM.p (c : CodeM) : CodeP := ⟨natsB c.name, c.locals, c.ins, c.lines⟩
def ModM.p (m : ModM) : ModP := ⟨m.vars, m.arrays, m.chans, m.mu, m.co, m.threads.map CodeM.p⟩
def thrP (c : CodeP) : List Nat := numB c.name.length ++ (c.name ++ (cntB c.locals ++ (numB c.ins.length ++ linB 0 c.ins c.lines)))
def modP (m : ModP) : List Nat := [87, 65, 82, 80] ++ (listB sgnB m.vars ++ (listB cntB m.arrays ++ (listB cntB m.chans ++ (cntB m.mu ++ (cntB m.co ++ listB thrP m.threads)))))
theorem thrB_p (c : CodeM) : thrB c = thrP c.p := by
  simp only [thrB, headB, thrP, CodeM.p, natsB_len, List.append_assoc]
def tMayP (c : CodeP) : Bool :=
  bMay 1 16 (c.name.length : Int) && (bMay 0 32 c.locals && (c.ins.length == c.lines.length && ((decide (c.ins.length ≤ 65536) && c.ins.all iMay) && (decide (c.lines.length ≤ 65536) && c.lines.all (bMay 0 65536)))))
def mMayP (m : ModP) : Bool := bMay 0 64 m.mu && (bMay 0 64 m.co && ((decide (m.vars.length ≤ 64) && m.vars.all vMay) && ((decide (m.arrays.length ≤ 64) && m.arrays.all (bMay 0 256)) && ((decide (m.chans.length ≤ 64) && m.chans.all (bMay 1 16)) && (decide (m.threads.length ≤ 64) && m.threads.all tMayP)))))
theorem tMay_p (c : CodeM) : tMay c = tMayP c.p := by
  simp only [tMay, tMayP, CodeM.p, natsB_len]
  rfl
theorem mMay_p (m : ModM) : mMay m = mMayP m.p := by
  have h : m.threads.all tMay = (m.threads.map CodeM.p).all tMayP := by
    rw [List.all_map]
    congr 1
    funext c
    exact tMay_p c
  simp only [mMay, mMayP, ModM.p, vOk, aOk, cOk, tOk, h, List.length_map]
  rfl

def rdIns : Rdr InsP := fun l => match l with
  | [] => none
  | c :: r => if isC (c : Int) then
      match (if fA (c : Int) then rdCnt r else some (0, r)) with
      | none => none
      | some (a, r1) => match (if fB (c : Int) then rdCnt r1 else some (0, r1)) with
        | none => none
        | some (b, r2) => match (if fN (c : Int) then rdSgn r2 else some (0, r2)) with
          | none => none
          | some (n, r3) => some (⟨c, a, b, n⟩, r3)
    else none
/-- An instruction and its line, behind another line. -/
def rdLin : Int → Nat → List Nat → Option ((List InsP × List Int) × List Nat)
  | _, 0, l => some (([], []), l)
  | ah, n + 1, l => match rdIns l with
    | none => none
    | some (i, r) => match rdSgn r with
      | none => none
      | some (d, r1) => match rdLin (ah + d) n r1 with
        | none => none
        | some ((is, ls), r2) => some ((i :: is, (ah + d) :: ls), r2)
def rdThr : Rdr CodeP := fun l => match rdNum l with
  | none => none
  | some (n, r) => if 16 < n then none else if r.length < n then none else
    match rdCnt (r.drop n) with
    | none => none
    | some (lo, r1) => match rdNum r1 with
      | none => none
      | some (m, r2) => if 65536 < m then none else
        match rdLin 0 m r2 with
        | none => none
        | some ((is, ls), r3) => some (⟨r.take n, lo, is, ls⟩, r3)
/-- A module's bytes, but the sum. -/
def rdMod (l : List Nat) : Option ModP :=
  if l.take 4 = [87, 65, 82, 80] then
    match rdList 64 rdSgn (l.drop 4) with
    | none => none
    | some (vs, r) => match rdList 64 rdCnt r with
      | none => none
      | some (ars, r1) => match rdList 64 rdCnt r1 with
        | none => none
        | some (cs, r2) => match rdCnt r2 with
          | none => none
          | some (mu, r3) => match rdCnt r3 with
            | none => none
            | some (co, r4) => match rdList 64 rdThr r4 with
              | none => none
              | some (ts, r5) => if r5 = [] ∧ mMayP ⟨vs, ars, cs, mu, co, ts⟩ = true then some ⟨vs, ars, cs, mu, co, ts⟩ else none
  else none

theorem ins_fwd : Fwd insB rdIns (fun i => iMay i = true) := by
  intro i r h
  obtain ⟨c, a, b, n⟩ := i
  simp only [iMay, Bool.and_eq_true] at h
  obtain ⟨hc, ha, hb, hn⟩ := h
  have hc2 : 1 ≤ c ∧ c ≤ 34 := by simpa [isC] using hc
  have hcn : ((c.toNat : Nat) : Int) = c := by omega
  unfold insB rdIns
  simp only [List.cons_append, hcn, hc, if_true, List.append_assoc]
  have h1 : ∀ q, (if fA c then rdCnt ((if fA c then cntB a else []) ++ q) else some (0, (if fA c then cntB a else []) ++ q)) = some (a, q) := by
    intro q
    cases hf : fA c with
    | true =>
      rw [hf] at ha
      have : 0 ≤ a ∧ a ≤ 65535 := by simpa [pMay, bMay] using ha
      simp only [if_true]
      exact cnt_fwd a q ⟨by omega, by omega⟩
    | false =>
      rw [hf] at ha
      have : a = 0 := by simpa [pMay] using ha
      simp [this]
  have h2 : ∀ q, (if fB c then rdCnt ((if fB c then cntB b else []) ++ q) else some (0, (if fB c then cntB b else []) ++ q)) = some (b, q) := by
    intro q
    cases hf : fB c with
    | true =>
      rw [hf] at hb
      have : 0 ≤ b ∧ b ≤ 65535 := by simpa [pMay, bMay] using hb
      simp only [if_true]
      exact cnt_fwd b q ⟨by omega, by omega⟩
    | false =>
      rw [hf] at hb
      have : b = 0 := by simpa [pMay] using hb
      simp [this]
  have h3 : ∀ q, (if fN c then rdSgn ((if fN c then sgnB n else []) ++ q) else some (0, (if fN c then sgnB n else []) ++ q)) = some (n, q) := by
    intro q
    cases hf : fN c with
    | true =>
      rw [hf] at hn
      have : -2147483648 ≤ n ∧ n ≤ 2147483647 := by simpa [vMay] using hn
      simp only [if_true]
      exact sgn_fwd n q ⟨by omega, by omega⟩
    | false =>
      rw [hf] at hn
      have : n = 0 := by simpa using hn
      simp [this]
  rw [h1]
  simp only
  rw [h2]
  simp only
  rw [h3]
theorem ins_bwd : Bwd insB rdIns := by
  intro l x r hl h
  unfold rdIns at h
  match l, hl, h with
  | [], _, h => cases h
  | c :: q, hl, h =>
    simp only at h
    have hq : ∀ y ∈ q, y < 256 := fun y hy => hl y (List.mem_cons_of_mem _ hy)
    split at h
    · split at h
      · cases h
      · rename_i a r1 e1
        split at h
        · cases h
        · rename_i b r2 e2
          split at h
          · cases h
          · rename_i n r3 e3
            simp only [Option.some.injEq, Prod.mk.injEq] at h
            obtain ⟨rfl, rfl⟩ := h
            have f1 : q = (if fA (c : Int) then cntB a else []) ++ r1 ∧ ∀ y ∈ r1, y < 256 := by
              cases hf : fA (c : Int) with
              | true =>
                rw [hf] at e1
                exact ⟨cnt_bwd _ _ _ hq e1, cnt_bwd.rest hq e1⟩
              | false =>
                rw [hf] at e1
                simp at e1
                obtain ⟨_, rfl⟩ := e1
                exact ⟨rfl, hq⟩
            have f2 : r1 = (if fB (c : Int) then cntB b else []) ++ r2 ∧ ∀ y ∈ r2, y < 256 := by
              cases hf : fB (c : Int) with
              | true =>
                rw [hf] at e2
                exact ⟨cnt_bwd _ _ _ f1.2 e2, cnt_bwd.rest f1.2 e2⟩
              | false =>
                rw [hf] at e2
                simp at e2
                obtain ⟨_, rfl⟩ := e2
                exact ⟨rfl, f1.2⟩
            have f3 : r2 = (if fN (c : Int) then sgnB n else []) ++ r3 := by
              cases hf : fN (c : Int) with
              | true =>
                rw [hf] at e3
                exact sgn_bwd _ _ _ f2.2 e3
              | false =>
                rw [hf] at e3
                simp at e3
                obtain ⟨_, rfl⟩ := e3
                rfl
            rw [f1.1, f2.1, f3]
            simp only [insB, Int.toNat_natCast, List.cons_append, List.append_assoc]
    · cases h
theorem lin_fwd : ∀ (is : List InsP) (ls : List Int) (ah : Int) (r : List Nat), is.length = ls.length → is.all iMay = true → (∀ x ∈ ls, 0 ≤ x ∧ x ≤ 65536) → 0 ≤ ah ∧ ah ≤ 65536 → rdLin ah is.length (linB ah is ls ++ r) = some ((is, ls), r)
  | [], [], _, r, _, _, _, _ => rfl
  | [], _ :: _, _, _, h, _, _, _ => by simp at h
  | _ :: _, [], _, _, h, _, _, _ => by simp at h
  | i :: is, l :: ls, ah, r, h, hi, hl, ha => by
    simp only [List.all_cons, Bool.and_eq_true] at hi
    have hl0 := hl l (List.mem_cons_self ..)
    simp only [List.length_cons, linB, List.append_assoc, rdLin]
    rw [ins_fwd i _ hi.1]
    simp only
    rw [sgn_fwd (l - ah) _ ⟨by omega, by omega⟩]
    simp only
    rw [show ah + (l - ah) = l by omega, lin_fwd is ls l r (by simpa using h) hi.2 (fun x hx => hl x (List.mem_cons_of_mem _ hx)) hl0]
theorem lin_bwd : ∀ (n : Nat) (l : List Nat) (ah : Int) (is : List InsP) (ls : List Int) (r : List Nat), (∀ y ∈ l, y < 256) → rdLin ah n l = some ((is, ls), r) → l = linB ah is ls ++ r ∧ is.length = n ∧ ls.length = n
  | 0, l, ah, is, ls, r, _, h => by
    simp only [rdLin, Option.some.injEq, Prod.mk.injEq] at h
    obtain ⟨⟨rfl, rfl⟩, rfl⟩ := h
    exact ⟨rfl, rfl, rfl⟩
  | n + 1, l, ah, is, ls, r, hl, h => by
    simp only [rdLin] at h
    split at h
    · cases h
    · rename_i i q e1
      have h1 := ins_bwd _ _ _ hl e1
      have hq := ins_bwd.rest hl e1
      split at h
      · cases h
      · rename_i d q1 e2
        have h2 := sgn_bwd _ _ _ hq e2
        have hq1 := sgn_bwd.rest hq e2
        split at h
        · cases h
        · rename_i is' ls' q2 e3
          simp only [Option.some.injEq, Prod.mk.injEq] at h
          obtain ⟨⟨rfl, rfl⟩, rfl⟩ := h
          obtain ⟨h3, h4, h5⟩ := lin_bwd n _ _ _ _ _ hq1 e3
          refine ⟨?_, by rw [List.length_cons, h4], by rw [List.length_cons, h5]⟩
          rw [h1, h2, h3]
          simp only [linB, List.append_assoc]
          rw [show ah + d - ah = d by omega]
theorem thr_fwd : Fwd thrP rdThr (fun c => tMayP c = true) := by
  intro c r h
  obtain ⟨nm, lo, is, ls⟩ := c
  simp only [tMayP, bMay, Bool.and_eq_true, decide_eq_true_eq, beq_iff_eq] at h
  obtain ⟨hn, hlo, he, ⟨hi6, hi⟩, hl6, hl⟩ := h
  have hl' : ∀ x ∈ ls, 0 ≤ x ∧ x ≤ 65536 := fun x hx => by
    have := List.all_eq_true.1 hl x hx
    simpa [bMay] using this
  unfold rdThr thrP
  simp only [List.append_assoc]
  rw [rdNum_numB (by omega)]
  simp only
  rw [if_neg (by omega), if_neg (by simp), List.drop_left, List.take_left, cnt_fwd lo _ ⟨by omega, by omega⟩]
  simp only
  rw [rdNum_numB (by omega)]
  simp only
  rw [if_neg (by omega), lin_fwd is ls 0 r he hi hl' ⟨by decide, by decide⟩]
theorem thr_bwd : Bwd thrP rdThr := by
  intro l x r hl h
  unfold rdThr at h
  split at h
  · cases h
  · rename_i n q e1
    split at h
    · cases h
    · split at h
      · cases h
      · rename_i hnq
        have h1 := (rdNum_inv hl e1).1
        have hq := rdNum_rest hl e1
        have hqd : ∀ y ∈ q.drop n, y < 256 := fun y hy => hq y (List.mem_of_mem_drop hy)
        split at h
        · cases h
        · rename_i lo q1 e2
          have h2 := cnt_bwd _ _ _ hqd e2
          have hq1 := cnt_bwd.rest hqd e2
          split at h
          · cases h
          · rename_i m q2 e3
            have h3 := (rdNum_inv hq1 e3).1
            have hq2 := rdNum_rest hq1 e3
            split at h
            · cases h
            · split at h
              · cases h
              · rename_i is ls q3 e4
                simp only [Option.some.injEq, Prod.mk.injEq] at h
                obtain ⟨rfl, rfl⟩ := h
                obtain ⟨h4, h5, _⟩ := lin_bwd _ _ _ _ _ _ hq2 e4
                have hlen : (q.take n).length = n := by rw [List.length_take]; omega
                simp only [thrP, hlen, h5, List.append_assoc]
                rw [← h4, ← h3, ← h2, List.take_append_drop, h1]
theorem mod_fwd (m : ModP) (h : mMayP m = true) : rdMod (modP m) = some m := by
  have h0 := h
  obtain ⟨vs, ars, cs, mu, co, ts⟩ := m
  simp only [mMayP, bMay, Bool.and_eq_true, decide_eq_true_eq] at h
  obtain ⟨hmu, hco, ⟨hv, hva⟩, ⟨ha, haa⟩, ⟨hc, hca⟩, ht, hta⟩ := h
  unfold rdMod modP
  simp only [List.cons_append, List.nil_append, List.take_succ_cons, List.take_zero, List.drop_succ_cons, List.drop_zero, if_true]
  rw [list_fwd 64 (by decide) sgn_fwd vs _ ⟨hv, fun x hx => by
    have := List.all_eq_true.1 hva x hx
    simp only [vMay, decide_eq_true_eq] at this
    omega⟩]
  simp only
  rw [list_fwd 64 (by decide) cnt_fwd ars _ ⟨ha, fun x hx => by
    have := List.all_eq_true.1 haa x hx
    simp only [bMay, decide_eq_true_eq] at this
    omega⟩]
  simp only
  rw [list_fwd 64 (by decide) cnt_fwd cs _ ⟨hc, fun x hx => by
    have := List.all_eq_true.1 hca x hx
    simp only [bMay, decide_eq_true_eq] at this
    omega⟩]
  simp only
  rw [cnt_fwd mu _ ⟨by omega, by omega⟩]
  simp only
  rw [cnt_fwd co _ ⟨by omega, by omega⟩]
  simp only
  have h5 := list_fwd 64 (by decide) thr_fwd ts [] ⟨ht, fun x hx => List.all_eq_true.1 hta x hx⟩
  rw [List.append_nil] at h5
  rw [h5]
  simp only
  rw [if_pos ⟨trivial, h0⟩]
theorem mod_bwd (l : List Nat) (m : ModP) (hl : ∀ y ∈ l, y < 256) (h : rdMod l = some m) : l = modP m ∧ mMayP m = true := by
  unfold rdMod at h
  split at h
  · rename_i e0
    have hl0 : ∀ y ∈ l.drop 4, y < 256 := fun y hy => hl y (List.mem_of_mem_drop hy)
    split at h
    · cases h
    · rename_i vs r e1
      have f1 := list_bwd 64 sgn_bwd _ _ _ hl0 e1
      have l1 := (list_bwd 64 sgn_bwd).rest hl0 e1
      split at h
      · cases h
      · rename_i ars r1 e2
        have f2 := list_bwd 64 cnt_bwd _ _ _ l1 e2
        have l2 := (list_bwd 64 cnt_bwd).rest l1 e2
        split at h
        · cases h
        · rename_i cs r2 e3
          have f3 := list_bwd 64 cnt_bwd _ _ _ l2 e3
          have l3 := (list_bwd 64 cnt_bwd).rest l2 e3
          split at h
          · cases h
          · rename_i mu r3 e4
            have f4 := cnt_bwd _ _ _ l3 e4
            have l4 := cnt_bwd.rest l3 e4
            split at h
            · cases h
            · rename_i co r4 e5
              have f5 := cnt_bwd _ _ _ l4 e5
              have l5 := cnt_bwd.rest l4 e5
              split at h
              · cases h
              · rename_i ts r5 e6
                have f6 := list_bwd 64 thr_bwd _ _ _ l5 e6
                split at h
                · rename_i hh
                  obtain ⟨rfl, hmay⟩ := hh
                  simp only [Option.some.injEq] at h
                  subst h
                  refine ⟨?_, hmay⟩
                  unfold modP
                  rw [List.append_nil] at f6
                  simp only
                  rw [← f6, ← f5, ← f4, ← f3, ← f2, ← f1, ← e0, List.take_append_drop]
                · cases h
  · cases h
end Go.Proofs.YtjbinejaagpleaaDoor
