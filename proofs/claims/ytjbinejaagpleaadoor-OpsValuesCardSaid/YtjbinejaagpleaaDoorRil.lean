/- Instructions with their lines are read. Asked: the reader lies; the table of codes; the closure's boxes. -/
import Derived.Test.YtjbinejaagpleaaDoorRth
namespace Go.Proofs.YtjbinejaagpleaaDoor
open Go.RowKit

def insC (i : InsP) : List Value := [.int .i64 i.c, .int .i64 i.a, .int .i64 i.b, .int .i64 i.n]
def inss (l : List InsP) : List Value := l.flatMap insC
theorem inss_len (l : List InsP) : (inss l).length = l.length * 4 := by
  induction l with
  | nil => rfl
  | cons i l ih =>
    simp only [inss, List.flatMap_cons, List.length_append, List.length_cons] at ih ⊢
    rw [ih]
    simp [insC]
    omega
def LeftL (n : Nat) (ah : Int) (q : List Nat) (is : List InsP) (ls : List Int) (R : Option ((List InsP × List Int) × List Nat)) : Prop := R = match rdLin ah n q with
  | none => none
  | some ((is', ls'), q2) => some ((is ++ is', ls ++ ls'), q2)
theorem LeftL.start {n : Nat} {ah : Int} {q : List Nat} {R : Option ((List InsP × List Int) × List Nat)} (h : rdLin ah n q = R) : LeftL n ah q [] [] R := by
  unfold LeftL
  rw [h]
  cases R with
  | none => rfl
  | some x => rfl
theorem LeftL.fail1 {n : Nat} {ah : Int} {q : List Nat} {is : List InsP} {ls : List Int} {R : Option ((List InsP × List Int) × List Nat)} (h : LeftL (n + 1) ah q is ls R) (h1 : rdIns q = none) : R = none := by
  unfold LeftL at h
  simp only [rdLin, h1] at h
  exact h
theorem LeftL.fail2 {n : Nat} {ah : Int} {q q1 : List Nat} {i : InsP} {is : List InsP} {ls : List Int} {R : Option ((List InsP × List Int) × List Nat)} (h : LeftL (n + 1) ah q is ls R) (h1 : rdIns q = some (i, q1)) (h2 : rdSgn q1 = none) : R = none := by
  unfold LeftL at h
  simp only [rdLin, h1, h2] at h
  exact h
theorem LeftL.step {n : Nat} {ah d : Int} {q q1 q2 : List Nat} {i : InsP} {is : List InsP} {ls : List Int} {R : Option ((List InsP × List Int) × List Nat)} (h : LeftL (n + 1) ah q is ls R) (h1 : rdIns q = some (i, q1)) (h2 : rdSgn q1 = some (d, q2)) :
    LeftL n (ah + d) q2 (is ++ [i]) (ls ++ [ah + d]) R := by
  unfold LeftL at h ⊢
  simp only [rdLin, h1, h2] at h
  rw [h]
  cases rdLin (ah + d) n q2 with
  | none => rfl
  | some y => simp
theorem LeftL.done {ah : Int} {q : List Nat} {is : List InsP} {ls : List Int} {R : Option ((List InsP × List Int) × List Nat)} (h : LeftL 0 ah q is ls R) : R = some ((is, ls), q) := by
  unfold LeftL at h
  simp only [rdLin, List.append_nil] at h
  exact h
theorem own_lk {W W' : World} {b pl pt B2 e size n : Nat} {u v v' : Value} {xs : List Value} (h : W.ownsRow B2 e size u n xs) (hk : LK W W' b pl pt v v') (h1 : b < B2) (h2 : pl < B2) (h3 : pt < B2) (h4 : ∀ r, u.ownBlock = some r → some r ≠ v.ownBlock) : W'.ownsRow B2 e size u n xs := by
  refine ⟨h.1, ?_⟩
  rcases h.2 with hn | ⟨g, cap, cur, rfl, hb, hg, h5⟩
  · exact .inl hn
  · refine .inr ⟨g, cap, cur, rfl, hb, ?_, h5⟩
    have hlt := (Array.getElem?_eq_some_iff.1 hg).1
    exact (hk.block g hlt (by omega) (by omega) (by omega) (h4 g rfl)).trans hg
theorem row_obj48 {W : World} {base n : Nat} {v : Value} {xs : List Value} {r : Nat} (h : W.ownsRow base 48 4 v n xs) (hr : v.ownBlock = some r) : ∃ cs, W.heap[r]? = some (.cells cs 48 (0, 0)) := by
  rcases h.2 with ⟨rfl, _⟩ | ⟨g, cap, cur, rfl, _, hg, _⟩
  · cases hr
  · have : g = r := by simpa [Value.ownBlock] using hr
    subst this
    exact ⟨_, hg⟩
theorem row_apart {W : World} {b1 b2 n1 n2 : Nat} {u v : Value} {xs ys : List Value} (h : W.ownsRow b1 48 4 u n1 xs) (h' : W.ownsRow b2 3 1 v n2 ys) : ∀ r, u.ownBlock = some r → some r ≠ v.ownBlock := fun r hr e => by
  obtain ⟨c1, h1⟩ := row_obj48 h hr
  obtain ⟨c2, h2⟩ := row_obj3 h' e.symm
  rw [h1] at h2
  simp at h2
/-- A row of instructions grows. -/
theorem Lx.push {w W W' : World} {b D B B2 pr pl pt p2 : Nat} {q : List Nat} {line lo : Int} {nm : ByteArray} {iv u v : Value} {ls : List Int} {n : Nat} {xs : List Value} (h : Lx w W b D B pr pl pt p2 q line nm lo iv v ls) (hu : W.ownsRow B2 48 4 u n xs) (hB2 : B ≤ B2)
    (cs : Array Value) (hg : (W.alloc (.cells cs 48)).grownBy W' u.ownBlock) (hw : 0 < w.heap.size) : Lx w W' b D B pr pl pt p2 q line nm lo iv v ls := by
  have hb1 : Below W.heap.size W (W.alloc (.cells cs 48)) := (Below.refl _ W).alloc (Nat.le_refl _) _
  have h1 := h.is.below hb1
  have hu1 := hu.alloc (.cells cs 48)
  have ho1 := ownsRow_blw h.ow hb1
  have hwB := h.wB
  have hlB := h.lB
  refine ⟨h1.grown hg (fun r e => ⟨by have := (hu1.lt r e).1; omega, fun x hx ex => ?_⟩) hw, ho1.kept hg ?_, h.lB, by have := hg.size; have := h.BW; simp at *; omega, h.ne, h.wB⟩
  · have := (hu1.lt r e).1
    simp only [List.mem_cons, List.not_mem_nil, or_false] at hx
    rcases hx with rfl | rfl | rfl | rfl <;> simp only at ex <;> omega
  · cases hv : v.ownBlock with
    | none => exact .inl rfl
    | some r =>
      refine .inr (fun e => ?_)
      cases hu0 : u.ownBlock with
      | none => rw [hu0] at e; cases e
      | some r2 =>
        have := row_apart hu1 ho1 r2 hu0
        rw [hv, e, hu0] at this
        exact this rfl
/-- What reading instructions leaves. -/
def IPost (w : World) (b D B pr pl pt p2 : Nat) (nm : ByteArray) (lo : Int) (iv : Value) (R : Option ((List InsP × List Int) × List Nat)) (e : Ending) (w' : World) : Prop := match R with
  | none => e = .panicked [noM] ∧ Kp w w' b b
  | some ((is, ls), q2) => ∃ u v line, e = .returned u ∧ Lx w w' b D B pr pl pt p2 q2 line nm lo iv v ls ∧ w'.ownsRow B 48 4 u is.length (inss is)
set_option maxRecDepth 100000 in
set_option maxHeartbeats 8000000 in
theorem readIns_any {w W : World} {b D B pr pl pt p2 : Nat} {q0 : List Nat} {lo : Int} {nm : ByteArray} {iv : Value} (h : Lx w W b D B pr pl pt p2 q0 0 nm lo iv (.slice none 0 0) []) (hw : 0 < w.heap.size) :
    Calls Tryd.prog 78 #[.pointer (some ⟨b, 0, none⟩), .int .i64 65536, .func (.func 79) #[] #[.pointer (some ⟨pr, 0, none⟩), .pointer (some ⟨pl, 0, none⟩), .pointer (some ⟨pt, 0, none⟩)]] W fun e w' =>
      match rdNum q0 with
      | none => e = .panicked [noM] ∧ Kp w w' b b
      | some (n, q) => if 65536 < n then e = .panicked [noM] ∧ Kp w w' b b else
        IPost w b D B pr pl pt p2 nm lo iv (rdLin 0 n q) e w' := by
  obtain ⟨i0, hi0, hz0, hz1, hz2⟩ := info_parts infoIns
  have hc := rcount_any h.is.rr
  unfold rdCnt at hc
  have HH := Lib.hid h
  cases hn : rdNum q0 with
  | none =>
    rw [hn] at hc
    simp only
    clear h hn
    go_enter Tryd.func78, Tryd.ntmps78
    go_wp2_with fail
    refine hc.mono ?_
    rintro e w1 ⟨hk, rfl⟩
    exact ⟨rfl, rfl, HH.out.is.kp.trans hk⟩
  | some nq =>
    obtain ⟨n, q⟩ := nq
    rw [hn] at hc
    simp only at hc ⊢
    by_cases hmn : 65536 < n
    · have hmi : (65536 : Int) < (n : Int) := by omega
      simp only [if_pos hmn]
      clear h hn hmn
      go_enter Tryd.func78, Tryd.ntmps78
      go_wp2_with fail
      refine hc.mono ?_
      rintro e w1 ⟨hk, rfl, hr⟩
      have HK := Lib.hid hk
      clear hr hk hc
      go_wp2_with fail
      refine (fail_any w1).mono ?_
      rintro e w2 ⟨rfl, rfl⟩
      exact ⟨rfl, rfl, HH.out.is.kp.trans HK.out⟩
    · have hmi : ¬ (65536 : Int) < (n : Int) := by omega
      have hd : decide (65536 < n) = false := decide_eq_false hmn
      have hnm : n ≤ 65536 := by omega
      simp only [if_neg hmn]
      obtain ⟨R, hR⟩ : ∃ R, rdLin 0 n q = R := ⟨_, rfl⟩
      rw [hR]
      have HR := Lib.hid hR
      clear hR hn hmn h
      go_enter Tryd.func78, Tryd.ntmps78
      go_wp2_with fail
      refine hc.mono ?_
      rintro e w1 ⟨hk, rfl, hr⟩
      have hbB : b < B := by
        have h1 := HH.out.is.rr.bD
        have h2 := HH.out.is.Dw
        have h3 := HH.out.wB
        omega
      have hlx : Lx w w1 b D B pr pl pt p2 q 0 nm lo iv (.slice none 0 0) [] := ⟨HH.out.is.go hr hk, World.ownsRow_nil _ _ _ _, HH.out.lB, Nat.le_trans HH.out.BW hk.size, HH.out.ne, HH.out.wB⟩
      have HLX := Lib.hid hlx
      clear hr hk hc hlx
      go_wp2_with fail
      go_loopw [8, 16] (fun u x wr => ∃ (k : Nat) (is : List InsP) (ls : List Int) (q' : List Nat) (line : Int) (v : Value), k ≤ n ∧ is.length = k ∧ x = .int .i64 k ∧ Hid (ls.length = k) ∧ Hid (-((k : Int) * 17179869184) ≤ line ∧ line ≤ (k : Int) * 17179869184) ∧ Hid (wr.ownsRow B 48 4 u k (inss is)) ∧ Hid (LeftL (n - k) line q' is ls R) ∧ Hid (Lx w wr b D B pr pl pt p2 q' line nm lo iv v ls)) (fun _ x _ => n - (intOf x).toNat)
      case atStart => exact ⟨0, [], [], q, 0, .slice none 0 0, by omega, rfl, rfl, Lib.hid rfl, Lib.hid (by omega), Lib.hid (World.ownsRow_nil _ _ _ _), Lib.hid (LeftL.start HR.out), HLX⟩
      case round =>
        clear HLX
        obtain ⟨k, is, ls, q', line, v, hk, hil, rfl, HLL, HLI, HO, HL, HX⟩ := hrel
        have HIL := Lib.hid hil
        clear hil
        by_cases hkn : k < n
        · have hki : (k : Int) < (n : Int) := by omega
          obtain ⟨f, hf⟩ : ∃ f, n - k = f + 1 := ⟨n - k - 1, by omega⟩
          have hl := HL.out
          rw [hf] at hl
          have HF := Lib.hid hf
          have HL2 := Lib.hid hl
          have hone := rin1_any HX.out (by have := HLI.out; omega) (by have := HLL.out; omega) hw
          cases hq : rdIns q' with
          | none =>
            rw [hq] at hone
            have HQ := Lib.hid hq
            clear hl hf hq
            go_wp2_with fail
            refine hone.mono ?_
            rintro e w2 ⟨rfl, hk2⟩
            refine ⟨rfl, ?_⟩
            rw [HL2.out.fail1 HQ.out]
            exact ⟨rfl, hk2⟩
          | some iq =>
            obtain ⟨i, q1⟩ := iq
            rw [hq] at hone
            simp only at hone
            cases hq2 : rdSgn q1 with
            | none =>
              rw [hq2] at hone
              have HQ := Lib.hid hq
              have HQ2 := Lib.hid hq2
              clear hl hf hq hq2
              go_wp2_with fail
              refine hone.mono ?_
              rintro e w2 ⟨rfl, hk2⟩
              refine ⟨rfl, ?_⟩
              rw [HL2.out.fail2 HQ.out HQ2.out]
              exact ⟨rfl, hk2⟩
            | some dq =>
              obtain ⟨d, q2⟩ := dq
              rw [hq2] at hone
              simp only at hone
              have HS := Lib.hid (HL2.out.step hq hq2)
              have hdb : -17179869184 ≤ d ∧ d < 17179869184 := by
                have hq2' := hq2
                unfold rdSgn at hq2'
                have hr1 : ∀ y ∈ q1, y < 256 := ins_bwd.rest HX.out.is.rr.lt hq
                cases hq3 : rdNum q1 with
                | none => rw [hq3] at hq2'; cases hq2'
                | some nr =>
                  rw [hq3] at hq2'
                  have hn := (rdNum_inv hr1 hq3).2
                  obtain ⟨hd, _⟩ := Prod.mk.inj (Option.some.inj hq2')
                  rw [← hd]
                  unfold unsN
                  split <;> omega
              have HLI2 : Hid (-(((k + 1 : Nat) : Int) * 17179869184) ≤ line + d ∧ line + d ≤ ((k + 1 : Nat) : Int) * 17179869184) := Lib.hid (by have := HLI.out; omega)
              clear hl hf hq hq2 hdb
              obtain ⟨ci, ai, bi, ni⟩ := i
              simp only at hone
              go_wp2_with fail
              refine hone.mono ?_
              rintro e w2 ⟨rfl, v2, hlx2, hlk⟩
              have hlB := HX.out.lB
              have hown2 := own_lk HO.out hlk hbB hlB.2.1 hlB.2.2.1 (row_apart HO.out HX.out.ow)
              have hbs : B ≤ w2.heap.size := hlx2.BW
              have HX2 := Lib.hid hlx2
              have HO2 := Lib.hid hown2
              clear hone hlk hlx2
              have hown' := hown2.alloc (Obj.cells #[.int .i64 ci, .int .i64 ai, .int .i64 bi, .int .i64 ni] 48)
              have HU : Hid (∃ z, z = u8) := Lib.hid ⟨u8, rfl⟩
              clear hown2
              go_wp2_with (at_builtin; refine wpList_append_lies _ rfl (.tmp 18) (.tmp 21) 49 rfl B 48 i0 (.agg #[.int .i64 0, .int .i64 0, .int .i64 0, .int .i64 0]) 4 32 Tryd.underlying49 hi0 hz0 hz1 hz2 rfl (by decide) u8 k (inss is) rfl hown' ⟨w2.heap.size, 0, none⟩ 1 1 [.int .i64 ci, .int .i64 ai, .int .i64 bi, .int .i64 ni] rfl rfl ?c2 ?c3 (by decide) ?c4 ?c5 ?c6 (w2.heap.size + 1) (by simp) ?_)
              case c3 => simp [Value.oneCell']
              case c4 => unfold maxLen; omega
              case c5 => omega
              case c6 => simp; omega
              case c2 => exact fun j z hz => cells_new w2 [.int .i64 ci, .int .i64 ai, .int .i64 bi, .int .i64 ni] 48 j z hz
              intro g cap w3 hown3 hgrow hlies _
              have HX3 := Lib.hid (HX2.out.push HO2.out (Nat.le_refl _) _ hgrow hw)
              have HO3 : Hid (w3.ownsRow B 48 4 (.slice (some ⟨g, 0, none⟩) (k + 1) cap) (k + 1) (inss (is ++ [⟨ci, ai, bi, ni⟩]))) := Lib.hid (by simpa [inss, insC] using hown3)
              clear hown3 hgrow hlies hown' HU hbs hlB
              go_wp2
              case roundEnd => exact ⟨⟨k + 1, is ++ [⟨ci, ai, bi, ni⟩], ls ++ [line + d], q2, line + d, v2, by omega, by rw [List.length_append, HIL.out]; rfl, by go_num, Lib.hid (by rw [List.length_append, HLL.out]; rfl), HLI2, HO3, by rw [show n - (k + 1) = f by have := HF.out; omega]; exact HS, HX3⟩, by simp [intOf]; omega⟩
        · obtain rfl : k = n := by omega
          have hl := HL.out
          rw [Nat.sub_self] at hl
          have HF := Lib.hid hl.done
          clear hl
          go_wp2
          go_ret
          rw [HF.out]
          exact ⟨_, v, line, rfl, HX.out, by rw [HIL.out]; exact HO.out⟩
end Go.Proofs.YtjbinejaagpleaaDoor
