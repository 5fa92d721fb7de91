/- Lists of numbers are read. Asked: the reader lies. -/
import Derived.Test.YtjbinejaagpleaaDoorRdr
namespace Go.Proofs.YtjbinejaagpleaaDoor
open Go.RowKit

theorem infoInt2 : (Tryd.prog.info? 2).map (fun i => (i.zero, i.size, i.bytes)) = some (some (.int .i64 0), 1, 8) := by kernel_rfl
theorem infoInt3 : (Tryd.prog.info? 3).map (fun i => (i.zero, i.size, i.bytes)) = some (some (.int .i64 0), 1, 8) := by kernel_rfl
def i64s (xs : List Int) : List Value := xs.map (Value.int .i64)
/-- What reading a list leaves. -/
def RL {α : Type} (w : World) (b D : Nat) (t size : Nat) (cells : List α → List Value) (r : Option (List α × List Nat)) (e : Ending) (w' : World) : Prop :=
  Kp w w' b b ∧ match r with
    | some (xs, q) => ∃ v, e = .returned v ∧ w'.ownsRow w.heap.size t size v xs.length (cells xs) ∧ Rr w' b D q
    | none => e = .panicked [noM]
/-- n are still to be read of q, behind xs; R comes out. -/
def Left {α : Type} (one : Rdr α) (n : Nat) (q : List Nat) (xs : List α) (R : Option (List α × List Nat)) : Prop := R = match rdTimes one n q with
  | none => none
  | some (ys, q2) => some (xs ++ ys, q2)
theorem Left.start {α : Type} {one : Rdr α} {n : Nat} {q : List Nat} {R : Option (List α × List Nat)} (h : rdTimes one n q = R) : Left one n q [] R := by
  unfold Left
  rw [h]
  cases R with
  | none => rfl
  | some x => rfl
theorem Left.fail {α : Type} {one : Rdr α} {n : Nat} {q : List Nat} {xs : List α} {R : Option (List α × List Nat)} (h : Left one (n + 1) q xs R) (h1 : one q = none) : R = none := by
  unfold Left at h
  simp only [rdTimes, h1] at h
  exact h
theorem Left.step {α : Type} {one : Rdr α} {n : Nat} {q r : List Nat} {x : α} {xs : List α} {R : Option (List α × List Nat)} (h : Left one (n + 1) q xs R) (h1 : one q = some (x, r)) : Left one n r (xs ++ [x]) R := by
  unfold Left at h ⊢
  simp only [rdTimes, h1] at h
  rw [h]
  cases rdTimes one n r with
  | none => rfl
  | some y => simp
theorem Left.done {α : Type} {one : Rdr α} {q : List Nat} {xs : List α} {R : Option (List α × List Nat)} (h : Left one 0 q xs R) : R = some (xs, q) := by
  unfold Left at h
  simp only [rdTimes, List.append_nil] at h
  exact h
theorem own_ge {w W : World} {e size n : Nat} {v : Value} {xs : List Value} (h : W.ownsRow w.heap.size e size v n xs) {D : Nat} (hD : D ≤ w.heap.size) : ∀ r, v.ownBlock = some r → D ≤ r := fun r hr => Nat.le_trans hD (h.lt r hr).1
set_option maxRecDepth 100000 in
set_option maxHeartbeats 4000000 in
theorem readVars_any {w : World} {b D : Nat} {l : List Nat} (h : Rr w b D l) (most : Nat) (hm : most ≤ 65536) :
    Calls Tryd.prog 57 #[.pointer (some ⟨b, 0, none⟩), .int .i64 most, .func (.func 58) #[.pointer (some ⟨b, 0, none⟩)] #[]] w (RL w b D 2 1 i64s (rdList most rdSgn l)) := by
  obtain ⟨i0, hi0, hz0, hz1, hz2⟩ := info_parts infoInt2
  obtain ⟨R, hR⟩ : ∃ R, rdList most rdSgn l = R := ⟨_, rfl⟩
  rw [hR]
  have hc := rcount_any h
  unfold rdList at hR
  unfold rdCnt at hc
  have hDw := h.Dw
  cases hn : rdNum l with
  | none =>
    rw [hn] at hR hc
    go_enter Tryd.func57, Tryd.ntmps57
    go_wp2_with fail
    refine hc.mono ?_
    rintro e w1 ⟨hk, rfl⟩
    exact ⟨rfl, hk, by rw [← hR]⟩
  | some nq =>
    obtain ⟨n, q⟩ := nq
    rw [hn] at hR hc
    simp only at hR hc
    by_cases hmn : most < n
    · have hmi : (most : Int) < (n : Int) := by omega
      rw [if_pos hmn] at hR
      have HR := Lib.hid hR
      clear hR hn hmn
      go_enter Tryd.func57, Tryd.ntmps57
      go_wp2_with fail
      refine hc.mono ?_
      rintro e w1 ⟨hk, rfl, hr⟩
      have HK := Lib.hid hk
      clear hr hk hc
      go_wp2_with fail
      refine (fail_any w1).mono ?_
      rintro e w2 ⟨rfl, rfl⟩
      refine ⟨rfl, HK.out, ?_⟩
      rw [← HR.out]
    · have hmi : ¬ (most : Int) < (n : Int) := by omega
      have hd : decide (most < n) = false := decide_eq_false hmn
      have hnm : n ≤ 65536 := by omega
      rw [if_neg hmn] at hR
      have HR := Lib.hid hR
      have HD := Lib.hid hDw
      clear hR hn hmn hDw
      go_enter Tryd.func57, Tryd.ntmps57
      go_wp2_with fail
      refine hc.mono ?_
      rintro e w1 ⟨hk, rfl, hr⟩
      have HK := Lib.hid hk
      have HRr := Lib.hid hr
      clear hr hk hc
      go_wp2_with fail
      go_loopw [8, 16] (fun v x wr => ∃ (k : Nat) (xs : List Int) (q' : List Nat), k ≤ n ∧ xs.length = k ∧ x = .int .i64 k ∧ Hid (wr.ownsRow w.heap.size 2 1 v k (i64s xs)) ∧ Hid (Left rdSgn (n - k) q' xs R) ∧ Hid (Rr wr b D q') ∧ Hid (Kp w wr b b)) (fun _ x _ => n - (intOf x).toNat)
      case atStart => exact ⟨0, [], q, by omega, rfl, rfl, Lib.hid (World.ownsRow_nil _ _ _ _), Lib.hid (Left.start HR.out), HRr, HK⟩
      case round =>
        clear HRr HK
        obtain ⟨k, xs, q', hk, hxl, rfl, HO, HL, HRr, HK⟩ := hrel
        have HXL := Lib.hid hxl
        clear hxl
        by_cases hkn : k < n
        · have hki : (k : Int) < (n : Int) := by omega
          obtain ⟨f, hf⟩ : ∃ f, n - k = f + 1 := ⟨n - k - 1, by omega⟩
          have hl := HL.out
          rw [hf] at hl
          have HF := Lib.hid hf
          have HL2 := Lib.hid hl
          have hone := rsigned_any HRr.out
          cases hq : rdSgn q' with
          | none =>
            rw [hq] at hone
            have HQ := Lib.hid hq
            clear hl hf hq
            go_wp2_with fail
            refine hone.mono ?_
            rintro e w2 ⟨hk2, rfl⟩
            refine ⟨rfl, HK.out.trans hk2, ?_⟩
            rw [HL2.out.fail HQ.out]
          | some xr =>
            obtain ⟨x, r⟩ := xr
            rw [hq] at hone
            have HS := Lib.hid (HL2.out.step hq)
            clear hl hf hq
            go_wp2_with fail
            refine hone.mono ?_
            rintro e w2 ⟨hk2, rfl, hr2⟩
            have hown2 : w2.ownsRow w.heap.size 2 1 u8 k (i64s xs) := HO.out.kept hk2.to_grown (by
              cases hv : u8.ownBlock with
              | none => exact .inl rfl
              | some r =>
                refine .inr (fun e => ?_)
                have h1 := own_ge HO.out HD.out r hv
                have h2 := HRr.out.bD
                have := Option.some.inj e
                omega)
            have hbs : w.heap.size ≤ w2.heap.size := Nat.le_trans HK.out.size hk2.size
            have HR2 := Lib.hid hr2
            have HK2 := Lib.hid (HK.out.trans hk2)
            clear hone hk2 hr2
            have hown' := hown2.alloc (Obj.cells #[Value.int .i64 x] 2)
            have HU : Hid (∃ z, z = u8) := Lib.hid ⟨u8, rfl⟩
            go_wp2_with (at_builtin; refine wpList_append_lies _ rfl (.tmp 18) (.tmp 21) 22 rfl w.heap.size 2 i0 (.int .i64 0) 1 8 Tryd.underlying22 hi0 hz0 hz1 hz2 rfl (by decide) u8 k (i64s xs) rfl hown' ⟨w2.heap.size, 0, none⟩ 1 1 [.int .i64 x] rfl rfl ?c2 ?c3 (by decide) ?c4 ?c5 ?c6 (w2.heap.size + 1) (by simp) ?_)
            case c3 => simp [Value.oneCell']
            case c4 => unfold maxLen; omega
            case c5 => omega
            case c6 => simp; omega
            case c2 => exact one_cell _ _ _
            intro g cap w3 hown3 hgrow hlies _
            have hge3 : ∀ r, u8.ownBlock = some r → w.heap.size ≤ r := own_ge HO.out (Nat.le_refl _)
            have HK3 := Lib.hid ((HK2.out.alloc (Obj.cells #[Value.int .i64 x] 2)).grownD hgrow hge3 (Nat.le_refl _))
            have HR3 := Lib.hid ((HR2.out.grown (World.grownBy_alloc w2 (Obj.cells #[Value.int .i64 x] 2) none) (fun r e => by cases e)).grown hgrow (fun r e => Nat.le_trans HD.out (hge3 r e)))
            have HO3 : Hid (w3.ownsRow w.heap.size 2 1 (.slice (some ⟨g, 0, none⟩) (k + 1) cap) (k + 1) (i64s (xs ++ [x]))) := Lib.hid (by simpa [i64s] using hown3)
            clear hown3 hgrow hlies hge3 hown' hown2 HU hbs
            go_wp2
            case roundEnd => exact ⟨⟨k + 1, xs ++ [x], r, by omega, by rw [List.length_append, HXL.out]; rfl, by go_num, HO3, by rw [show n - (k + 1) = f by have := HF.out; omega]; exact HS, HR3, HK3⟩, by simp [intOf]; omega⟩
        · obtain rfl : k = n := by omega
          have hl := HL.out
          rw [Nat.sub_self] at hl
          have HF := Lib.hid hl.done
          clear hl
          go_wp2
          go_ret
          refine ⟨HK.out, ?_⟩
          rw [HF.out]
          exact ⟨_, rfl, by rw [HXL.out]; exact HO.out, HRr.out⟩
set_option maxRecDepth 100000 in
set_option maxHeartbeats 4000000 in
theorem readInts_any {w : World} {b D : Nat} {l : List Nat} (h : Rr w b D l) (most : Nat) (hm : most ≤ 65536) :
    Calls Tryd.prog 59 #[.pointer (some ⟨b, 0, none⟩), .int .i64 most, .func (.func 60) #[.pointer (some ⟨b, 0, none⟩)] #[]] w (RL w b D 3 1 i64s (rdList most rdCnt l)) := by
  obtain ⟨i0, hi0, hz0, hz1, hz2⟩ := info_parts infoInt3
  obtain ⟨R, hR⟩ : ∃ R, rdList most rdCnt l = R := ⟨_, rfl⟩
  rw [hR]
  have hc := rcount_any h
  unfold rdList at hR
  unfold rdCnt at hc
  have hDw := h.Dw
  cases hn : rdNum l with
  | none =>
    rw [hn] at hR hc
    go_enter Tryd.func59, Tryd.ntmps59
    go_wp2_with fail
    refine hc.mono ?_
    rintro e w1 ⟨hk, rfl⟩
    exact ⟨rfl, hk, by rw [← hR]⟩
  | some nq =>
    obtain ⟨n, q⟩ := nq
    rw [hn] at hR hc
    simp only at hR hc
    by_cases hmn : most < n
    · have hmi : (most : Int) < (n : Int) := by omega
      rw [if_pos hmn] at hR
      have HR := Lib.hid hR
      clear hR hn hmn
      go_enter Tryd.func59, Tryd.ntmps59
      go_wp2_with fail
      refine hc.mono ?_
      rintro e w1 ⟨hk, rfl, hr⟩
      have HK := Lib.hid hk
      clear hr hk hc
      go_wp2_with fail
      refine (fail_any w1).mono ?_
      rintro e w2 ⟨rfl, rfl⟩
      refine ⟨rfl, HK.out, ?_⟩
      rw [← HR.out]
    · have hmi : ¬ (most : Int) < (n : Int) := by omega
      have hd : decide (most < n) = false := decide_eq_false hmn
      have hnm : n ≤ 65536 := by omega
      rw [if_neg hmn] at hR
      have HR := Lib.hid hR
      have HD := Lib.hid hDw
      clear hR hn hmn hDw
      go_enter Tryd.func59, Tryd.ntmps59
      go_wp2_with fail
      refine hc.mono ?_
      rintro e w1 ⟨hk, rfl, hr⟩
      have HK := Lib.hid hk
      have HRr := Lib.hid hr
      clear hr hk hc
      go_wp2_with fail
      go_loopw [8, 16] (fun v x wr => ∃ (k : Nat) (xs : List Int) (q' : List Nat), k ≤ n ∧ xs.length = k ∧ x = .int .i64 k ∧ Hid (wr.ownsRow w.heap.size 3 1 v k (i64s xs)) ∧ Hid (Left rdCnt (n - k) q' xs R) ∧ Hid (Rr wr b D q') ∧ Hid (Kp w wr b b)) (fun _ x _ => n - (intOf x).toNat)
      case atStart => exact ⟨0, [], q, by omega, rfl, rfl, Lib.hid (World.ownsRow_nil _ _ _ _), Lib.hid (Left.start HR.out), HRr, HK⟩
      case round =>
        clear HRr HK
        obtain ⟨k, xs, q', hk, hxl, rfl, HO, HL, HRr, HK⟩ := hrel
        have HXL := Lib.hid hxl
        clear hxl
        by_cases hkn : k < n
        · have hki : (k : Int) < (n : Int) := by omega
          obtain ⟨f, hf⟩ : ∃ f, n - k = f + 1 := ⟨n - k - 1, by omega⟩
          have hl := HL.out
          rw [hf] at hl
          have HF := Lib.hid hf
          have HL2 := Lib.hid hl
          have hone := rcount_any HRr.out
          cases hq : rdCnt q' with
          | none =>
            rw [hq] at hone
            have HQ := Lib.hid hq
            clear hl hf hq
            go_wp2_with fail
            refine hone.mono ?_
            rintro e w2 ⟨hk2, rfl⟩
            refine ⟨rfl, HK.out.trans hk2, ?_⟩
            rw [HL2.out.fail HQ.out]
          | some xr =>
            obtain ⟨x, r⟩ := xr
            rw [hq] at hone
            have HS := Lib.hid (HL2.out.step hq)
            clear hl hf hq
            go_wp2_with fail
            refine hone.mono ?_
            rintro e w2 ⟨hk2, rfl, hr2⟩
            have hown2 : w2.ownsRow w.heap.size 3 1 u8 k (i64s xs) := HO.out.kept hk2.to_grown (by
              cases hv : u8.ownBlock with
              | none => exact .inl rfl
              | some r =>
                refine .inr (fun e => ?_)
                have h1 := own_ge HO.out HD.out r hv
                have h2 := HRr.out.bD
                have := Option.some.inj e
                omega)
            have hbs : w.heap.size ≤ w2.heap.size := Nat.le_trans HK.out.size hk2.size
            have HR2 := Lib.hid hr2
            have HK2 := Lib.hid (HK.out.trans hk2)
            clear hone hk2 hr2
            have hown' := hown2.alloc (Obj.cells #[Value.int .i64 x] 3)
            have HU : Hid (∃ z, z = u8) := Lib.hid ⟨u8, rfl⟩
            go_wp2_with (at_builtin; refine wpList_append_lies _ rfl (.tmp 18) (.tmp 21) 23 rfl w.heap.size 3 i0 (.int .i64 0) 1 8 Tryd.underlying23 hi0 hz0 hz1 hz2 rfl (by decide) u8 k (i64s xs) rfl hown' ⟨w2.heap.size, 0, none⟩ 1 1 [.int .i64 x] rfl rfl ?c2 ?c3 (by decide) ?c4 ?c5 ?c6 (w2.heap.size + 1) (by simp) ?_)
            case c3 => simp [Value.oneCell']
            case c4 => unfold maxLen; omega
            case c5 => omega
            case c6 => simp; omega
            case c2 => exact one_cell _ _ _
            intro g cap w3 hown3 hgrow hlies _
            have hge3 : ∀ r, u8.ownBlock = some r → w.heap.size ≤ r := own_ge HO.out (Nat.le_refl _)
            have HK3 := Lib.hid ((HK2.out.alloc (Obj.cells #[Value.int .i64 x] 3)).grownD hgrow hge3 (Nat.le_refl _))
            have HR3 := Lib.hid ((HR2.out.grown (World.grownBy_alloc w2 (Obj.cells #[Value.int .i64 x] 3) none) (fun r e => by cases e)).grown hgrow (fun r e => Nat.le_trans HD.out (hge3 r e)))
            have HO3 : Hid (w3.ownsRow w.heap.size 3 1 (.slice (some ⟨g, 0, none⟩) (k + 1) cap) (k + 1) (i64s (xs ++ [x]))) := Lib.hid (by simpa [i64s] using hown3)
            clear hown3 hgrow hlies hge3 hown' hown2 HU hbs
            go_wp2
            case roundEnd => exact ⟨⟨k + 1, xs ++ [x], r, by omega, by rw [List.length_append, HXL.out]; rfl, by go_num, HO3, by rw [show n - (k + 1) = f by have := HF.out; omega]; exact HS, HR3, HK3⟩, by simp [intOf]; omega⟩
        · obtain rfl : k = n := by omega
          have hl := HL.out
          rw [Nat.sub_self] at hl
          have HF := Lib.hid hl.done
          clear hl
          go_wp2
          go_ret
          refine ⟨HK.out, ?_⟩
          rw [HF.out]
          exact ⟨_, rfl, by rw [HXL.out]; exact HO.out, HRr.out⟩
theorem infoIns : (Tryd.prog.info? 48).map (fun i => (i.zero, i.size, i.bytes)) = some (some (.agg #[.int .i64 0, .int .i64 0, .int .i64 0, .int .i64 0]), 4, 32) := by kernel_rfl
theorem infoCode : (Tryd.prog.info? 51).map (fun i => (i.zero, i.size, i.bytes)) = some (some (.agg #[.string ⟨#[]⟩, .int .i64 0, .slice none 0 0, .slice none 0 0]), 4, 72) := by kernel_rfl
end Go.Proofs.YtjbinejaagpleaaDoor
