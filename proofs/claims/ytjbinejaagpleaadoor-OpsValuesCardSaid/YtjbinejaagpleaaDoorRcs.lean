/- Threads' codes are read. Asked: the reader lies; the table of codes. -/
import Derived.Test.YtjbinejaagpleaaDoorRtd
namespace Go.Proofs.YtjbinejaagpleaaDoor
open Go.RowKit

def codeC (c : CodeM) : List Value := [.string c.name, .int .i64 c.locals, .slice c.ia c.ins.length c.icap, .slice c.la c.lines.length c.lcap]
/-- A code's lists lie in rows of their own. -/
structure OwnC (W : World) (B : Nat) (c : CodeM) : Prop where
  ii : W.ownsRow B 48 4 (.slice c.ia c.ins.length c.icap) c.ins.length (inss c.ins)
  ll : W.ownsRow B 3 1 (.slice c.la c.lines.length c.lcap) c.lines.length (i64s c.lines)
  nm : c.name.size ≤ 16
  ib : c.ins.length ≤ 65536
  lb : c.lines.length ≤ 65536
theorem OwnC.kp {W W' : World} {B b : Nat} {c : CodeM} (h : OwnC W B c) (hk : Kp W W' b b) (hb : b < B) : OwnC W' B c := ⟨own_kp h.ii hk hb, own_kp h.ll hk hb, h.nm, h.ib, h.lb⟩
theorem OwnC.below {W W' : World} {B : Nat} {c : CodeM} (h : OwnC W B c) (hb : Below W.heap.size W W') : OwnC W' B c := ⟨ownsRow_blw h.ii hb, ownsRow_blw h.ll hb, h.nm, h.ib, h.lb⟩
theorem OwnC.base {W : World} {B B' : Nat} {c : CodeM} (h : OwnC W B c) (hb : B' ≤ B) : OwnC W B' c := ⟨ownsRow_base h.ii hb, ownsRow_base h.ll hb, h.nm, h.ib, h.lb⟩
theorem row_objT {W : World} {base e size n : Nat} {v : Value} {xs : List Value} {r : Nat} (h : W.ownsRow base e size v n xs) (hr : v.ownBlock = some r) : ∃ cs, W.heap[r]? = some (.cells cs e (0, 0)) := by
  rcases h.2 with ⟨rfl, _⟩ | ⟨g, cap, cur, rfl, _, hg, _⟩
  · cases hr
  · have : g = r := by simpa [Value.ownBlock] using hr
    subst this
    exact ⟨_, hg⟩
/-- Rows of two kinds are two. -/
theorem own_apart {W W' : World} {B1 B2 e1 e2 s1 s2 n1 n2 : Nat} {u v : Value} {xs ys : List Value} (h : W.ownsRow B1 e1 s1 u n1 xs) (h' : W.ownsRow B2 e2 s2 v n2 ys) (he : e1 ≠ e2) (hg : W.grownBy W' v.ownBlock) : W'.ownsRow B1 e1 s1 u n1 xs := by
  refine h.kept hg ?_
  cases hu : u.ownBlock with
  | none => exact .inl rfl
  | some r =>
    refine .inr (fun e => ?_)
    obtain ⟨c1, h1⟩ := row_objT h hu
    obtain ⟨c2, h2⟩ := row_objT h' e.symm
    have h3 := h1.symm.trans h2
    simp at h3
    exact he h3.2
theorem OwnC.grown {W W' : World} {B B2 n : Nat} {c : CodeM} {v : Value} {xs : List Value} (h : OwnC W B c) (h' : W.ownsRow B2 51 4 v n xs) (hg : W.grownBy W' v.ownBlock) : OwnC W' B c :=
  ⟨own_apart h.ii h' (by decide) hg, own_apart h.ll h' (by decide) hg, h.nm, h.ib, h.lb⟩
/-- What reading threads' codes leaves. -/
def TPost (w : World) (b D : Nat) (R : Option (List CodeP × List Nat)) (e : Ending) (w' : World) : Prop := Kp w w' b b ∧ match R with
  | none => e = .panicked [noM]
  | some (cs, q) => ∃ (v : Value) (acc : List CodeM), e = .returned v ∧ w'.ownsRow w.heap.size 51 4 v acc.length (acc.flatMap codeC) ∧ (∀ c ∈ acc, OwnC w' w.heap.size c) ∧ acc.map CodeM.p = cs ∧ Rr w' b D q
set_option maxRecDepth 100000 in
set_option maxHeartbeats 8000000 in
theorem readCodes_any {w : World} {b D : Nat} {l : List Nat} (h : Rr w b D l) (hT : TabC w) (most : Nat) (hm : most ≤ 65536) :
    Calls Tryd.prog 61 #[.pointer (some ⟨b, 0, none⟩), .int .i64 most, .func (.func 62) #[.pointer (some ⟨b, 0, none⟩)] #[]] w (TPost w b D (rdList most rdThr l)) := by
  obtain ⟨i0, hi0, hz0, hz1, hz2⟩ := info_parts infoCode
  obtain ⟨R, hR⟩ : ∃ R, rdList most rdThr l = R := ⟨_, rfl⟩
  rw [hR]
  have hc := rcount_any h
  unfold rdList at hR
  unfold rdCnt at hc
  have hDw := h.Dw
  have hb0 := h.ne0 hT
  have hbw : b < w.heap.size := Nat.lt_of_lt_of_le h.bD h.Dw
  have HT := Lib.hid hT
  clear hT
  cases hn : rdNum l with
  | none =>
    rw [hn] at hR hc
    go_enter Tryd.func61, Tryd.ntmps61
    go_wp2_with fail
    refine hc.mono ?_
    rintro e w1 ⟨hk, rfl⟩
    exact ⟨rfl, hk, by rw [← hR]⟩
  | some nq =>
    obtain ⟨n, q⟩ := nq
    rw [hn] at hR hc
    simp only at hR hc
    by_cases hmn : most < n
    · have hmi : (most : Int) < (n : Int) := by omega
      rw [if_pos hmn] at hR
      have HR := Lib.hid hR
      clear hR hn hmn
      go_enter Tryd.func61, Tryd.ntmps61
      go_wp2_with fail
      refine hc.mono ?_
      rintro e w1 ⟨hk, rfl, hr⟩
      have HK := Lib.hid hk
      clear hr hk hc
      go_wp2_with fail
      refine (fail_any w1).mono ?_
      rintro e w2 ⟨rfl, rfl⟩
      refine ⟨rfl, HK.out, ?_⟩
      rw [← HR.out]
    · have hmi : ¬ (most : Int) < (n : Int) := by omega
      have hd : decide (most < n) = false := decide_eq_false hmn
      have hnm : n ≤ 65536 := by omega
      rw [if_neg hmn] at hR
      have HR := Lib.hid hR
      have HD := Lib.hid hDw
      clear hR hn hmn hDw
      go_enter Tryd.func61, Tryd.ntmps61
      go_wp2_with fail
      refine hc.mono ?_
      rintro e w1 ⟨hk, rfl, hr⟩
      have HK := Lib.hid hk
      have HRr := Lib.hid hr
      clear hr hk hc
      go_wp2_with fail
      go_loopw [8, 16] (fun v x wr => ∃ (k : Nat) (acc : List CodeM) (q' : List Nat), k ≤ n ∧ acc.length = k ∧ x = .int .i64 k ∧ Hid (wr.ownsRow w.heap.size 51 4 v k (acc.flatMap codeC)) ∧ Hid (∀ c ∈ acc, OwnC wr w.heap.size c) ∧ Hid (Left rdThr (n - k) q' (acc.map CodeM.p) R) ∧ Hid (Rr wr b D q') ∧ Hid (Kp w wr b b)) (fun _ x _ => n - (intOf x).toNat)
      case atStart => exact ⟨0, [], q, by omega, rfl, rfl, Lib.hid (World.ownsRow_nil _ _ _ _), Lib.hid (fun c hc => by cases hc), Lib.hid (Left.start HR.out), HRr, HK⟩
      case round =>
        clear HRr HK
        obtain ⟨k, acc, q', hk, hxl, rfl, HO, HC, HL, HRr, HK⟩ := hrel
        have HXL := Lib.hid hxl
        clear hxl
        by_cases hkn : k < n
        · have hki : (k : Int) < (n : Int) := by omega
          obtain ⟨f, hf⟩ : ∃ f, n - k = f + 1 := ⟨n - k - 1, by omega⟩
          have hl := HL.out
          rw [hf] at hl
          have HF := Lib.hid hf
          have HL2 := Lib.hid hl
          have hone := rthread_any HRr.out (HT.out.kp HK.out hb0 hb0)
          unfold CPost at hone
          cases hq : rdThr q' with
          | none =>
            rw [hq] at hone
            have HQ := Lib.hid hq
            clear hl hf hq
            go_wp2_with fail
            refine hone.mono ?_
            rintro e w2 ⟨hk2, rfl⟩
            refine ⟨rfl, HK.out.trans hk2, ?_⟩
            rw [HL2.out.fail HQ.out]
          | some xr =>
            obtain ⟨x, r⟩ := xr
            rw [hq] at hone
            have HS := Lib.hid (HL2.out.step hq)
            clear hl hf hq
            go_wp2_with fail
            refine hone.mono ?_
            rintro e w2 ⟨hk2, nm, u, v, rfl, hnb, hn16, hr2, hou, hov, hi6, hl6⟩
            obtain ⟨ua, ucap, rfl⟩ := own_form hou
            obtain ⟨va, vcap, rfl⟩ := own_form hov
            obtain ⟨xn, lo, is, ls⟩ := x
            simp only at hnb hou hov hi6 hl6
            obtain ⟨c, hcd⟩ : ∃ c : CodeM, c = ⟨nm, lo, ua, ucap, is, va, vcap, ls⟩ := ⟨_, rfl⟩
            have hcp : c.p = ⟨xn, lo, is, ls⟩ := by rw [hcd]; simp only [CodeM.p, hnb]
            have hoc : OwnC w2 w.heap.size c := by
              rw [hcd]
              exact (⟨hou, hov, hn16, hi6, hl6⟩ : OwnC w2 wr.heap.size ⟨nm, lo, ua, ucap, is, va, vcap, ls⟩).base HK.out.size
            have hcc : codeC c = [.string nm, .int .i64 lo, .slice ua is.length ucap, .slice va ls.length vcap] := by rw [hcd]; rfl
            have hown2 := own_kp HO.out hk2 hbw
            have hbs : w.heap.size ≤ w2.heap.size := Nat.le_trans HK.out.size hk2.size
            have HC2 := Lib.hid (fun c' (hc' : c' ∈ acc) => (HC.out c' hc').kp hk2 hbw)
            have HOC := Lib.hid hoc
            have HCC := Lib.hid (And.intro hcc hcp)
            have HR2 := Lib.hid hr2
            have HK2 := Lib.hid (HK.out.trans hk2)
            clear hone hk2 hr2 hou hov hi6 hl6 hnb hn16 hcd hcp hoc hcc
            have hown' := hown2.alloc (Obj.cells #[.string nm, .int .i64 lo, .slice ua is.length ucap, .slice va ls.length vcap] 51)
            have HU : Hid (∃ z, z = u8) := Lib.hid ⟨u8, rfl⟩
            go_wp2_with (at_builtin; refine wpList_append_lies _ rfl (.tmp 18) (.tmp 21) 25 rfl w.heap.size 51 i0 (.agg #[.string ⟨#[]⟩, .int .i64 0, .slice none 0 0, .slice none 0 0]) 4 72 Tryd.underlying25 hi0 hz0 hz1 hz2 rfl (by decide) u8 k (acc.flatMap codeC) rfl hown' ⟨w2.heap.size, 0, none⟩ 1 1 [.string nm, .int .i64 lo, .slice ua is.length ucap, .slice va ls.length vcap] rfl rfl ?c2 ?c3 (by decide) ?c4 ?c5 ?c6 (w2.heap.size + 1) (by simp) ?_)
            case c3 => simp [Value.oneCell']
            case c4 => unfold maxLen; omega
            case c5 => omega
            case c6 => simp; omega
            case c2 => exact fun j z hz => cells_new w2 [.string nm, .int .i64 lo, .slice ua is.length ucap, .slice va ls.length vcap] 51 j z hz
            intro g cap w3 hown3 hgrow hlies _
            have hge3 : ∀ r, u8.ownBlock = some r → w.heap.size ≤ r := own_ge HO.out (Nat.le_refl _)
            have hbl : Below w2.heap.size w2 (w2.alloc (Obj.cells #[.string nm, .int .i64 lo, .slice ua is.length ucap, .slice va ls.length vcap] 51)) := (Below.refl _ _).alloc (Nat.le_refl _) _
            have HK3 := Lib.hid ((HK2.out.alloc (Obj.cells #[.string nm, .int .i64 lo, .slice ua is.length ucap, .slice va ls.length vcap] 51)).grownD hgrow hge3 (Nat.le_refl _))
            have HR3 := Lib.hid ((HR2.out.grown (World.grownBy_alloc w2 (Obj.cells #[.string nm, .int .i64 lo, .slice ua is.length ucap, .slice va ls.length vcap] 51) none) (fun r e => by cases e)).grown hgrow (fun r e => Nat.le_trans HD.out (hge3 r e)))
            have HO3 : Hid (w3.ownsRow w.heap.size 51 4 (.slice (some ⟨g, 0, none⟩) (k + 1) cap) (k + 1) ((acc ++ [c]).flatMap codeC)) := Lib.hid (by
              rw [List.flatMap_append, List.flatMap_singleton, HCC.out.1]
              exact hown3)
            have HC3 : Hid (∀ c' ∈ acc ++ [c], OwnC w3 w.heap.size c') := Lib.hid (fun c' hc' => by
              rcases List.mem_append.1 hc' with h1 | h1
              · exact ((HC2.out c' h1).below hbl).grown hown' hgrow
              · obtain rfl : c' = c := by simpa using h1
                exact (HOC.out.below hbl).grown hown' hgrow)
            have HS3 : Hid (Left rdThr f r ((acc ++ [c]).map CodeM.p) R) := Lib.hid (by
              rw [List.map_append, List.map_singleton, HCC.out.2]
              exact HS.out)
            clear hown3 hgrow hlies hge3 hown' hown2 HU hbs hbl
            go_wp2
            case roundEnd => exact ⟨⟨k + 1, acc ++ [c], r, by omega, by rw [List.length_append, HXL.out]; rfl, by go_num, HO3, HC3, by rw [show n - (k + 1) = f by have := HF.out; omega]; exact HS3, HR3, HK3⟩, by simp [intOf]; omega⟩
        · obtain rfl : k = n := by omega
          have hl := HL.out
          rw [Nat.sub_self] at hl
          have HF := Lib.hid hl.done
          clear hl
          go_wp2
          go_ret
          refine ⟨HK.out, ?_⟩
          rw [HF.out]
          exact ⟨_, acc, rfl, by rw [HXL.out]; exact HO.out, HC.out, rfl, HRr.out⟩
end Go.Proofs.YtjbinejaagpleaaDoor
