/- The closure that reads an instruction and its line; a thread's code is read. Asked: the reader lies; the table of codes. -/
import Derived.Test.YtjbinejaagpleaaDoorRin
namespace Go.Proofs.YtjbinejaagpleaaDoor
open Go.RowKit

/-- What the closure knows: the reader, the line, the code, whose lines lie in a row of their own. -/
structure Lx (w W : World) (b D B pr pl pt p2 : Nat) (q : List Nat) (line : Int) (nm : ByteArray) (lo : Int) (iv v : Value) (ls : List Int) : Prop where
  is : Is w W b D q [(pr, .cells #[.pointer (some ⟨b, 0, none⟩)] 67 (0, 0)), (pl, .cells #[.int .i64 line] 3 (0, 0)), (pt, .cells #[.string nm, .int .i64 lo, iv, v] 51 (0, 0)), (p2, .cells #[.string ⟨#[]⟩, .int .i64 0, .slice none 0 0, .slice none 0 0] 51 (0, 0))]
  ow : W.ownsRow B 3 1 v ls.length (i64s ls)
  lB : pr < B ∧ pl < B ∧ pt < B ∧ p2 < B
  BW : B ≤ W.heap.size
  ne : pr ≠ pl ∧ pr ≠ pt ∧ pl ≠ pt ∧ p2 ≠ pr ∧ p2 ≠ pl ∧ p2 ≠ pt
  wB : w.heap.size ≤ B
/-- What the closure writes: the reader, its line, its code, its row of lines. -/
structure LK (W W' : World) (b pl pt : Nat) (v v' : Value) : Prop where
  os : W'.os = W.os
  tape : W'.tape = W.tape
  output : W'.output = W.output
  size : W.heap.size ≤ W'.heap.size
  block : ∀ k, k < W.heap.size → k ≠ b → k ≠ pl → k ≠ pt → some k ≠ v.ownBlock → W'.heap[k]? = W.heap[k]?
  row : v'.ownBlock = v.ownBlock ∨ ∃ r, v'.ownBlock = some r ∧ W.heap.size ≤ r
theorem own_kp {W W' : World} {B e size n b : Nat} {v : Value} {xs : List Value} (h : W.ownsRow B e size v n xs) (hk : Kp W W' b b) (hb : b < B) : W'.ownsRow B e size v n xs :=
  h.kept hk.to_grown (by
    cases hv : v.ownBlock with
    | none => exact .inl rfl
    | some r =>
      refine .inr (fun e' => ?_)
      have := (h.lt r hv).1
      have := Option.some.inj e'
      omega)
theorem Is.grown {w W W' : World} {b D : Nat} {q : List Nat} {l : List (Nat × Obj)} {row : Option Nat} (h : Is w W b D q l) (hg : W.grownBy W' row) (hr : ∀ r, row = some r → w.heap.size ≤ r ∧ ∀ x ∈ l, x.1 ≠ r) (hw : 0 < w.heap.size) : Is w W' b D q l := by
  have hD := h.Dw
  refine ⟨h.rr.grown hg (fun r e => by have := (hr r e).1; omega), h.kp.grownD hg (fun r e => (hr r e).1) (Nat.le_refl _), h.hl.grown hg (fun r e => (hr r e).2), ?_, h.nw, hD⟩
  have he := hg.block 0 h.tb.1 (fun e => by have := (hr 0 e.symm).1; omega)
  have hc : ∀ o, W'.cell? ⟨0, o, none⟩ = W.cell? ⟨0, o, none⟩ := fun o => by simp only [World.cell?, he]
  exact ⟨Nat.lt_of_lt_of_le h.tb.1 hg.size, fun c hcc => ⟨(hc _).trans (h.tb.2 c hcc).1, (hc _).trans (h.tb.2 c hcc).2⟩⟩
theorem Is.sub {w W : World} {b D : Nat} {q : List Nat} {l l' : List (Nat × Obj)} (h : Is w W b D q l) (hs : ∀ x ∈ l', x ∈ l) : Is w W b D q l' := ⟨h.rr, h.kp, fun x hx => h.hl x (hs x hx), h.tb, fun x hx => h.nw x (hs x hx), h.Dw⟩
theorem own_setne {W : World} {B e size n p j : Nat} {v u : Value} {xs : List Value} (h : W.ownsRow B e size v n xs) (hp : some p ≠ v.ownBlock) : (W.setCell ⟨p, j, none⟩ u).ownsRow B e size v n xs :=
  h.kept (row := some p) ⟨rfl, rfl, rfl, by simp [World.setCell], fun k _ hk => Below.heap_setCell W ⟨p, j, none⟩ u k (fun e => hk (by rw [e]))⟩ (.inr (Ne.symm hp))
theorem row_obj3 {W : World} {base : Nat} {v : Value} {n : Nat} {xs : List Value} {r : Nat} (h : W.ownsRow base 3 1 v n xs) (hr : v.ownBlock = some r) : ∃ cs, W.heap[r]? = some (.cells cs 3 (0, 0)) := by
  rcases h.2 with ⟨rfl, _⟩ | ⟨g, cap, cur, rfl, _, hg, _⟩
  · cases hr
  · have : g = r := by simpa [Value.ownBlock] using hr
    subst this
    exact ⟨_, hg⟩
set_option maxRecDepth 100000 in
set_option maxHeartbeats 8000000 in
theorem rin1_any {w W : World} {b D B pr pl pt p2 : Nat} {q : List Nat} {line lo : Int} {nm : ByteArray} {iv v : Value} {ls : List Int} (h : Lx w W b D B pr pl pt p2 q line nm lo iv v ls) (hl : -9007199254740992 ≤ line ∧ line ≤ 9007199254740992) (hls : ls.length ≤ 65536) (hw : 0 < w.heap.size) :
    Calls Tryd.prog 79 #[.pointer (some ⟨pr, 0, none⟩), .pointer (some ⟨pl, 0, none⟩), .pointer (some ⟨pt, 0, none⟩)] W fun e w' =>
      match rdIns q with
      | none => e = .panicked [noM] ∧ Kp w w' b b
      | some (i, q1) => match rdSgn q1 with
        | none => e = .panicked [noM] ∧ Kp w w' b b
        | some (d, q2) => e = .returned (.agg #[.int .i64 i.c, .int .i64 i.a, .int .i64 i.b, .int .i64 i.n]) ∧ ∃ v', Lx w w' b D B pr pl pt p2 q2 (line + d) nm lo iv v' (ls ++ [line + d]) ∧ LK W w' b pl pt v v' := by
  obtain ⟨i0, hi0, hz0, hz1, hz2⟩ := info_parts infoInt3
  have hbB : b < B := by
    have h1 := h.is.rr.bD
    have h2 := h.is.Dw
    have h3 := h.wB
    omega
  have hB1 : Below W.heap.size W (W.alloc (.cells #[.int .i64 0, .int .i64 0, .int .i64 0, .int .i64 0] 48)) := (Below.refl _ W).alloc (Nat.le_refl _) _
  have hi1 := h.is.add #[.int .i64 0, .int .i64 0, .int .i64 0, .int .i64 0] 48
  have how1 := ownsRow_blw h.ow hB1
  have hone := rins_any hi1.rr hi1.tb
  have r0 := hi1.hl.cell 0 (k := 0) rfl rfl
  have HH := Lib.hid h
  have HI1 := Lib.hid hi1
  have HO1 := Lib.hid how1
  cases hq : rdIns q with
  | none =>
    rw [hq] at hone
    simp only
    clear h hi1 how1 hB1 hq
    go_enter Tryd.func79, Tryd.ntmps79
    go_wp2_with fail
    refine hone.mono ?_
    rintro e w2 ⟨hk2, rfl⟩
    exact ⟨rfl, rfl, HI1.out.kp.trans hk2⟩
  | some iq =>
    obtain ⟨i, q1⟩ := iq
    rw [hq] at hone
    simp only at hone ⊢
    obtain ⟨ci, ai, bi, ni⟩ := i
    simp only at hone ⊢
    clear h hi1 how1 hB1 hq
    obtain ⟨S, hS⟩ : ∃ S, rdSgn q1 = S := ⟨_, rfl⟩
    rw [hS]
    have HSQ := Lib.hid hS
    clear hS
    go_enter Tryd.func79, Tryd.ntmps79
    go_wp2_with fail
    refine hone.mono ?_
    rintro e w2 ⟨hk2, rfl, hr2⟩
    have hi2 := (HI1.out.go hr2 hk2).add #[.int .i64 ci, .int .i64 ai, .int .i64 bi, .int .i64 ni] 48
    have how2 := ownsRow_blw (own_kp HO1.out hk2 hbB) ((Below.refl _ w2).alloc (Nat.le_refl _) (.cells #[.int .i64 ci, .int .i64 ai, .int .i64 bi, .int .i64 ni] 48))
    have hs1 : W.heap.size < w2.heap.size := Nat.lt_of_lt_of_le (by simp) hk2.size
    simp only [List.cons_append, List.nil_append] at hi2
    have HKA := Lib.hid ((((Kp.refl W b b).alloc (.cells #[.int .i64 0, .int .i64 0, .int .i64 0, .int .i64 0] 48)).trans hk2).alloc (.cells #[.int .i64 ci, .int .i64 ai, .int .i64 bi, .int .i64 ni] 48))
    have HI2 := Lib.hid hi2
    have HO2 := Lib.hid how2
    clear hi2 how2 hk2 hr2 hone HI1 HO1 r0
    go_wp2_with fail
    have c0 := HI2.out.hl.cell 0 (k := 0) rfl rfl
    have c1 := HI2.out.hl.cell 1 (k := 0) rfl rfl
    generalize hW2 : w2.alloc (.cells #[.int .i64 ci, .int .i64 ai, .int .i64 bi, .int .i64 ni] 48) = W2 at *
    clear hW2
    have hmx : Tryd.prog.follows .mixedOrders = true := by kernel_rfl
    refine wp_region_x [4] (fun X => X.cell? ⟨pr, 0, none⟩ = some (.pointer (some ⟨b, 0, none⟩)) ∧ X.cell? ⟨pl, 0, none⟩ = some (.int .i64 line)) hmx ?_
    have hS0 : W2.drew.cell? ⟨pr, 0, none⟩ = some (.pointer (some ⟨b, 0, none⟩)) ∧ W2.drew.cell? ⟨pl, 0, none⟩ = some (.int .i64 line) := ⟨c0, c1⟩
    refine wpX_take 0 (v := ?va0) rfl (by kernel_rfl) (by kernel_rfl) (by kernel_rfl) (by kernel_rfl) (fun _ _ _ h => h) hS0 (Or.inl ⟨by kernel_rfl, ?a0⟩) ?_
    case a0 => (intro W2 hS1; obtain ⟨s0, s1⟩ := hS1; go_simp; with_reducible rfl)
    refine wpX_take 1 (v := ?va1) rfl (by kernel_rfl) (by kernel_rfl) (by kernel_rfl) (by kernel_rfl) (fun _ _ _ h => h) hS0 (Or.inl ⟨by kernel_rfl, ?a1⟩) ?_
    case a1 => (intro W2 hS1; obtain ⟨s0, s1⟩ := hS1; go_simp; with_reducible rfl)
    refine wpX_one 2 (by kernel_rfl) rfl (fun K hK => ?_)
    go_simp
    have htw := rsigned_any (HI2.out.below (Below.refl _ W2).drew).rr
    rw [HSQ.out] at htw
    cases S with
    | none =>
      refine htw.mono ?_
      rintro e w3 ⟨hk3, rfl⟩
      exact ⟨rfl, rfl, (HI2.out.below (Below.refl _ W2).drew).kp.trans hk3⟩
    | some dq =>
      obtain ⟨d, q2⟩ := dq
      have hdb : -17179869184 ≤ d ∧ d < 17179869184 := by
        have hq2 := HSQ.out
        unfold rdSgn at hq2
        cases hq3 : rdNum q1 with
        | none => rw [hq3] at hq2; cases hq2
        | some nr =>
          rw [hq3] at hq2
          have hn := (rdNum_inv (HI2.out.rr.lt) hq3).2
          obtain ⟨hd, _⟩ := Prod.mk.inj (Option.some.inj hq2)
          rw [← hd]
          unfold unsN
          split <;> omega
      refine htw.mono ?_
      rintro e w3 ⟨hk3, rfl, hr3⟩
      have hi3 := (HI2.out.below (Below.refl _ W2).drew).go hr3 hk3
      have how3 := own_kp (ownsRow_blw HO2.out (Below.refl _ W2).drew) hk3 hbB
      have hwr : wrap64 (line + d) = line + d := by
        unfold wrap64
        omega
      have hwr2 : IntKind.i64.wrap (line + d) = line + d := by
        rw [IntKind.wrap_i64]
        omega
      have e0 := hi3.hl.cell 0 (k := 0) rfl rfl
      have e1 := hi3.hl.cell 1 (k := 0) rfl rfl
      have e1f := hi3.hl.froz 1 (k := 0) rfl
      obtain ⟨n1, n2, n3, n4, n5, n6⟩ := HH.out.ne
      have hBs := HH.out.lB
      have hset := hi3.set 1 0 pl rfl (by have := HH.out.is.nw (pl, _) (List.mem_cons_of_mem _ (List.mem_cons_self ..)); omega) (by
        have hnW : W.heap.size ≥ B := HH.out.BW
        intro k x hx e
        match k, hx with
        | 0, hx => (obtain rfl := Option.some.inj hx; simp at e; omega)
        | 1, hx => rfl
        | 2, hx => (obtain rfl := Option.some.inj hx; simp at e; omega)
        | 3, hx => (obtain rfl := Option.some.inj hx; simp at e; omega)
        | 4, hx => (obtain rfl := Option.some.inj hx; simp at e; omega)
        | 5, hx => (obtain rfl := Option.some.inj hx; simp at e; omega)) (.int .i64 (line + d))
      simp only [List.set_cons_succ, List.set_cons_zero, List.setIfInBounds_toArray] at hset
      have how4 : (w3.setCell ⟨pl, 0, none⟩ (.int .i64 (line + d))).ownsRow B 3 1 v ls.length (i64s ls) := own_set1 how3 hBs.2.1
      have HKB := Lib.hid (HKA.out.drew.trans hk3)
      have HI4 := Lib.hid hset
      have HO4 := Lib.hid how4
      have hs3 : w2.heap.size < w3.heap.size := by
        have := hi3.hl.lt (x := (w2.heap.size, .cells #[.int .i64 ci, .int .i64 ai, .int .i64 bi, .int .i64 ni] 48 (0, 0))) (by simp)
        exact this
      clear htw hk3 hr3 hi3 how3 hset how4 HI2 HO2 HSQ hdb
      refine hK _ _ (fun _ => ⟨e0, e1⟩) ?_
      clear hK K hS0 c0 c1
      refine wpX_one 3 (by kernel_rfl) rfl (fun K hK => ?_)
      go_simp
      refine hK _ _ (fun h => ⟨e0, e1⟩) ?_
      clear hK K
      refine wpX_one 4 (by kernel_rfl) rfl (fun K hK => ?_)
      go_simp
      refine hK _ _ (fun h => by cases h) ?_
      clear hK K
      refine wpX_done (by kernel_rfl) ?_ _
      go_simp
      have d3 := HI4.out.hl.cell 2 (k := 3) rfl rfl
      have d1 := HI4.out.hl.cell 1 (k := 0) rfl rfl
      have hlit : Below (w3.setCell ⟨pl, 0, none⟩ (.int .i64 (line + d))).heap.size (w3.setCell ⟨pl, 0, none⟩ (.int .i64 (line + d))) ((w3.setCell ⟨pl, 0, none⟩ (.int .i64 (line + d))).alloc (Obj.cells #[.int .i64 (line + d)] 3)) := (Below.refl _ _).alloc (Nat.le_refl _) _
      have HI5 := Lib.hid (HI4.out.below hlit)
      have HKC : Hid (∀ k, k < W.heap.size → k ≠ b → k ≠ pl → ((w3.setCell ⟨pl, 0, none⟩ (.int .i64 (line + d))).alloc (Obj.cells #[.int .i64 (line + d)] 3)).heap[k]? = W.heap[k]?) := Lib.hid (fun k hk h1 h2 => by
        have hk3 : k < (w3.setCell ⟨pl, 0, none⟩ (.int .i64 (line + d))).heap.size := by
          have := HKB.out.size
          simp [World.setCell]
          omega
        exact (Below.heap_alloc _ _ k hk3).trans ((Below.heap_setCell w3 ⟨pl, 0, none⟩ _ k h2).trans (HKB.out.block k hk h1 h1)))
      have hWs : W.heap.size ≤ (w3.setCell ⟨pl, 0, none⟩ (.int .i64 (line + d))).heap.size := by simpa [World.setCell] using HKB.out.size
      have hown' := HO4.out.alloc (Obj.cells #[.int .i64 (line + d)] 3)
      have hszB : B ≤ w3.heap.size := by have := HH.out.BW; omega
      have HWO : Hid (((w3.setCell ⟨pl, 0, none⟩ (.int .i64 (line + d))).alloc (Obj.cells #[.int .i64 (line + d)] 3)).os = W.os ∧ ((w3.setCell ⟨pl, 0, none⟩ (.int .i64 (line + d))).alloc (Obj.cells #[.int .i64 (line + d)] 3)).tape = W.tape ∧ ((w3.setCell ⟨pl, 0, none⟩ (.int .i64 (line + d))).alloc (Obj.cells #[.int .i64 (line + d)] 3)).output = W.output) := Lib.hid ⟨HKB.out.os, HKB.out.tape, HKB.out.output⟩
      clear e0 e1 e1f HI4 HO4 hlit
      generalize hW3 : w3.setCell ⟨pl, 0, none⟩ (.int .i64 (line + d)) = W3 at *
      have hszB3 : B ≤ W3.heap.size := by rw [← hW3]; simpa [World.setCell] using hszB
      clear hW3
      have hlen := HH.out.BW
      have HU : Hid (∃ z, z = v) := Lib.hid ⟨v, rfl⟩
      go_wp2_with (at_builtin; refine wpList_append_lies _ rfl (.tmp 12) (.tmp 14) 23 rfl B 3 i0 (.int .i64 0) 1 8 Tryd.underlying23 hi0 hz0 hz1 hz2 rfl (by decide) v ls.length (i64s ls) rfl hown' ⟨W3.heap.size, 0, none⟩ 1 1 [.int .i64 (line + d)] rfl rfl ?c2 ?c3 (by decide) ?c4 ?c5 ?c6 (W3.heap.size + 1) (by simp) ?_)
      case c3 => simp [Value.oneCell']
      case c4 => unfold maxLen; omega
      case c5 => omega
      case c6 => simp; omega
      case c2 => exact one_cell _ _ _
      intro g cap w5 hown5 hgrow hlies _
      have hi5 := HI5.out.grown hgrow (fun r e => ⟨Nat.le_trans HH.out.wB (hown'.lt r e).1, fun x hx ex => by
        obtain ⟨cs, hc⟩ := row_obj3 hown' e
        have h5 := HI5.out.hl x hx
        rw [ex, hc] at h5
        have h6 := (hown'.lt r e).1
        simp only [List.mem_cons, List.not_mem_nil, or_false] at hx
        rcases hx with rfl | rfl | rfl | rfl | rfl | rfl
        · simp at h5
        · simp only at ex
          omega
        · simp at h5
        · simp at h5
        · simp at h5
        · simp at h5⟩) hw
      have z3 := hi5.hl.cell 2 (k := 3) rfl rfl
      have z3f := hi5.hl.froz 2 (k := 3) rfl
      have hset := hi5.set 2 3 pt rfl (by have := HH.out.is.nw (pt, _) (List.mem_cons_of_mem _ (List.mem_cons_of_mem _ (List.mem_cons_self ..))); omega) (by
        intro k x hx e
        match k, hx with
        | 0, hx => (obtain rfl := Option.some.inj hx; simp at e; omega)
        | 1, hx => (obtain rfl := Option.some.inj hx; simp at e; omega)
        | 2, hx => rfl
        | 3, hx => (obtain rfl := Option.some.inj hx; simp at e; omega)
        | 4, hx => (obtain rfl := Option.some.inj hx; simp at e; omega)
        | 5, hx => (obtain rfl := Option.some.inj hx; simp at e; omega)) (.slice (some ⟨g, 0, none⟩) (ls.length + 1) cap)
      simp only [List.set_cons_succ, List.set_cons_zero, List.setIfInBounds_toArray] at hset
      have how5 : (w5.setCell ⟨pt, 3, none⟩ (.slice (some ⟨g, 0, none⟩) (ls.length + 1) cap)).ownsRow B 3 1 (.slice (some ⟨g, 0, none⟩) (ls.length + 1) cap) (ls.length + 1) (i64s (ls ++ [line + d])) := by
        have h5 : w5.ownsRow B 3 1 (.slice (some ⟨g, 0, none⟩) (ls.length + 1) cap) (ls.length + 1) (i64s (ls ++ [line + d])) := by simpa [i64s] using hown5
        exact own_set1 h5 hBs.2.2.1
      have HKD : Hid (∀ k, k < W.heap.size → k ≠ b → k ≠ pl → k ≠ pt → some k ≠ v.ownBlock → (w5.setCell ⟨pt, 3, none⟩ (.slice (some ⟨g, 0, none⟩) (ls.length + 1) cap)).heap[k]? = W.heap[k]?) := Lib.hid (fun k hk h1 h2 h3 h4 => by
        exact (Below.heap_setCell w5 ⟨pt, 3, none⟩ _ k h3).trans ((hgrow.block k (by simp; omega) h4).trans (HKC.out k hk h1 h2)))
      have HRW : Hid (some g = v.ownBlock ∨ W.heap.size ≤ g) := Lib.hid (by
        rcases hlies with h | h
        · exact .inl h.symm
        · exact .inr (by omega))
      have HOS : Hid (w5.os = W.os ∧ w5.tape = W.tape ∧ w5.output = W.output ∧ W.heap.size ≤ w5.heap.size) := Lib.hid (by
        have h1 := HWO.out
        refine ⟨hgrow.os.trans h1.1, hgrow.tape.trans h1.2.1, hgrow.output.trans h1.2.2, ?_⟩
        have := hgrow.size
        simp at this
        omega)
      have HI6 := Lib.hid hset
      have HO6 := Lib.hid how5
      have hs5 : B ≤ w5.heap.size := by
        have := hgrow.size
        simp at this
        omega
      clear hown5 hgrow hlies hi5 hset how5 HI5 hown' HU d1 d3
      have t0 := HI6.out.hl.cell 5 (k := 0) rfl rfl
      have t1 := HI6.out.hl.cell 5 (k := 1) rfl rfl
      have t2 := HI6.out.hl.cell 5 (k := 2) rfl rfl
      have t3 := HI6.out.hl.cell 5 (k := 3) rfl rfl
      have u0 := HI6.out.hl.cell 4 (k := 0) rfl rfl
      have u1 := HI6.out.hl.cell 4 (k := 1) rfl rfl
      have u2 := HI6.out.hl.cell 4 (k := 2) rfl rfl
      have u3 := HI6.out.hl.cell 4 (k := 3) rfl rfl
      have v0 := HI6.out.hl.froz 4 (k := 0) rfl
      have v1 := HI6.out.hl.froz 4 (k := 1) rfl
      have v2 := HI6.out.hl.froz 4 (k := 2) rfl
      have v3 := HI6.out.hl.froz 4 (k := 3) rfl
      go_wp2
      have hgne : some W.heap.size ≠ (Value.slice (some ⟨g, 0, none⟩) (ls.length + 1) cap).ownBlock := fun e => by
        obtain ⟨cs, hc⟩ := row_obj3 HO6.out e.symm
        have h5 := HI6.out.hl (W.heap.size, .cells #[.int .i64 0, .int .i64 0, .int .i64 0, .int .i64 0] 48 (0, 0)) (by simp)
        have h6 := hc.symm.trans h5
        simp at h6
      have y0 := HI6.out.set 4 0 W.heap.size rfl (by omega) (by
        intro k x hx e
        match k, hx with
        | 0, hx => (obtain rfl := Option.some.inj hx; simp at e; omega)
        | 1, hx => (obtain rfl := Option.some.inj hx; simp at e; omega)
        | 2, hx => (obtain rfl := Option.some.inj hx; simp at e; omega)
        | 3, hx => (obtain rfl := Option.some.inj hx; simp at e; omega)
        | 4, hx => rfl
        | 5, hx => (obtain rfl := Option.some.inj hx; simp at e; omega)) (.int .i64 ci)
      simp only [List.set_cons_succ, List.set_cons_zero, List.setIfInBounds_toArray] at y0
      have y1 := y0.set 4 1 W.heap.size rfl (by omega) (by
        intro k x hx e
        match k, hx with
        | 0, hx => (obtain rfl := Option.some.inj hx; simp at e; omega)
        | 1, hx => (obtain rfl := Option.some.inj hx; simp at e; omega)
        | 2, hx => (obtain rfl := Option.some.inj hx; simp at e; omega)
        | 3, hx => (obtain rfl := Option.some.inj hx; simp at e; omega)
        | 4, hx => rfl
        | 5, hx => (obtain rfl := Option.some.inj hx; simp at e; omega)) (.int .i64 ai)
      simp only [List.set_cons_succ, List.set_cons_zero, List.setIfInBounds_toArray] at y1
      have y2 := y1.set 4 2 W.heap.size rfl (by omega) (by
        intro k x hx e
        match k, hx with
        | 0, hx => (obtain rfl := Option.some.inj hx; simp at e; omega)
        | 1, hx => (obtain rfl := Option.some.inj hx; simp at e; omega)
        | 2, hx => (obtain rfl := Option.some.inj hx; simp at e; omega)
        | 3, hx => (obtain rfl := Option.some.inj hx; simp at e; omega)
        | 4, hx => rfl
        | 5, hx => (obtain rfl := Option.some.inj hx; simp at e; omega)) (.int .i64 bi)
      simp only [List.set_cons_succ, List.set_cons_zero, List.setIfInBounds_toArray] at y2
      have y3 := y2.set 4 3 W.heap.size rfl (by omega) (by
        intro k x hx e
        match k, hx with
        | 0, hx => (obtain rfl := Option.some.inj hx; simp at e; omega)
        | 1, hx => (obtain rfl := Option.some.inj hx; simp at e; omega)
        | 2, hx => (obtain rfl := Option.some.inj hx; simp at e; omega)
        | 3, hx => (obtain rfl := Option.some.inj hx; simp at e; omega)
        | 4, hx => rfl
        | 5, hx => (obtain rfl := Option.some.inj hx; simp at e; omega)) (.int .i64 ni)
      simp only [List.set_cons_succ, List.set_cons_zero, List.setIfInBounds_toArray] at y3
      have how6 := own_setne (j := 3) (u := .int .i64 ni) (own_setne (j := 2) (u := .int .i64 bi) (own_setne (j := 1) (u := .int .i64 ai) (own_setne (j := 0) (u := .int .i64 ci) HO6.out hgne) hgne) hgne) hgne
      have hlk : LK W ((((w5.setCell ⟨pt, 3, none⟩ (.slice (some ⟨g, 0, none⟩) (ls.length + 1) cap)).setCell ⟨W.heap.size, 0, none⟩ (.int .i64 ci)).setCell ⟨W.heap.size, 1, none⟩ (.int .i64 ai)).setCell ⟨W.heap.size, 2, none⟩ (.int .i64 bi) |>.setCell ⟨W.heap.size, 3, none⟩ (.int .i64 ni)) b pl pt v (.slice (some ⟨g, 0, none⟩) (ls.length + 1) cap) := by
        obtain ⟨o1, o2, o3, o4⟩ := HOS.out
        refine ⟨o1, o2, o3, by simpa [World.setCell] using o4, fun k hk h1 h2 h3 h4 => ?_, ?_⟩
        · have hne : k ≠ W.heap.size := by omega
          exact (Below.heap_setCell _ ⟨W.heap.size, 3, none⟩ _ k hne).trans ((Below.heap_setCell _ ⟨W.heap.size, 2, none⟩ _ k hne).trans ((Below.heap_setCell _ ⟨W.heap.size, 1, none⟩ _ k hne).trans ((Below.heap_setCell _ ⟨W.heap.size, 0, none⟩ _ k hne).trans (HKD.out k hk h1 h2 h3 h4))))
        · rcases HRW.out with h | h
          · exact .inl h
          · exact .inr ⟨g, rfl, h⟩
      refine end_ins (p := W.heap.size) (y3.hl (W.heap.size, _) (by simp)) rfl rfl rfl ⟨rfl, .slice (some ⟨g, 0, none⟩) (ls.length + 1) cap, ⟨y3.sub (fun x hx => by simp at hx ⊢; rcases hx with h | h | h | h <;> simp [h]), by rw [List.length_append]; exact how6, hBs, by simpa [World.setCell] using hs5, HH.out.ne, HH.out.wB⟩, hlk⟩
end Go.Proofs.YtjbinejaagpleaaDoor
