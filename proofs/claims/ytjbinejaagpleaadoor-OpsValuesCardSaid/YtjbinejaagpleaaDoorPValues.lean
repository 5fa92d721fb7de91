/- For all lists of variables, cells and rooms and all numbers of mutexes and conditions, their bytes are as the document says and are read back as they (beyond the law's own bounds the law asks nothing). Conditions: what the row itself says (the four listed tables are laid, as the program's text lays them). -/
import Derived.Test.YtjbinejaagpleaaDoorLift
import Derived.Test.YtjbinejaagpleaaDoorLawV
import Derived.Test.YtjbinejaagpleaaDoorTie
import Derived.Test.YtjbinejaagpleaaDoorCards
import Derived.SevenTiedAt
namespace Go.Proofs.YtjbinejaagpleaaDoor
open Go.ChangeShapes Go.WideShapes Go.ChangeAt Go.RowKit

section
variable {H : Type} {enc : TypeId × Value → H} {W : World}
set_option maxRecDepth 100000 in
theorem longs_in {p : List MemPlace} {d : DataW H} {v : Value} (h : DataW.Trod enc Tryd.prog W 0 (fun _ => true) true 22 v d p) (hL : Lgt 22 d) {a : Option Addr} {len cap : Nat} (hv : v = .slice a len cap) : ∃ l : List Int, l.length = len ∧ Ints W a l ∧ True := by
  subst hv
  obtain ⟨fuel, h⟩ := h
  have c2 : Tryd.prog.cellsOf 2 = 1 := by kernel_rfl
  have b2 : 0 < Tryd.prog.bytesOf 2 := of_decide_eq_true (by kernel_rfl)
  obtain ⟨a', l, cap', e, _, _, _, h3⟩ := nums_in Tryd.underlying22 Tryd.underlying2 c2 b2 (show DataW.trod enc Tryd.prog W 0 (fun _ => true) true fuel 22 [.slice a len cap] = some (d, p) from h) hL
  obtain ⟨rfl, rfl, rfl⟩ := Value.slice.inj e
  exact ⟨l, rfl, i64_ints h3, trivial⟩
set_option maxRecDepth 100000 in
theorem ints_in {p : List MemPlace} {d : DataW H} {v : Value} (h : DataW.Trod enc Tryd.prog W 0 (fun _ => true) true 23 v d p) (hL : Lgt 23 d) {a : Option Addr} {len cap : Nat} (hv : v = .slice a len cap) : ∃ l : List Int, l.length = len ∧ Ints W a l ∧ True := by
  subst hv
  obtain ⟨fuel, h⟩ := h
  have c3 : Tryd.prog.cellsOf 3 = 1 := by kernel_rfl
  have b3 : 0 < Tryd.prog.bytesOf 3 := of_decide_eq_true (by kernel_rfl)
  obtain ⟨a', l, cap', e, _, _, _, h3⟩ := nums_in Tryd.underlying23 Tryd.underlying3 c3 b3 (show DataW.trod enc Tryd.prog W 0 (fun _ => true) true fuel 23 [.slice a len cap] = some (d, p) from h) hL
  obtain ⟨rfl, rfl, rfl⟩ := Value.slice.inj e
  exact ⟨l, rfl, i64_ints h3, trivial⟩
end
set_option maxRecDepth 100000 in
theorem opsValues_lifted (os : Os) (started : os.Started) (H : Type) (enc : TypeId × Value → H) :
    ReturnsInHanded {} Tryd.checked os 3 .any (fun w args => (Rows.opsValuesSpec.pre enc Tryd.prog Tryd.f3 [] false w args ∧ laidMetH Tryd.prog laid4 w) ∧ sizedMet enc Tryd.prog Tryd.f3 (OpenSpec.ofChange Rows.opsValuesSpec) false w args)
      (Rows.opsValuesSpec.post enc Tryd.prog Tryd.f3 false true false false) := by
  refine returnsInHanded_of_change_and (C := Tryd.checked) (X := fun w _ => laidMetH Tryd.prog laid4 w) (fun _ _ _ hh h => h.of_heap hh) own started (by kernel_rfl) Tryd.func3
    (ChangeSpec.witness_shaped (enc := enc) (C := Tryd.checked) (os := os) (X := fun w _ => laidMetH Tryd.prog laid4 w) false (World.laidAll Tryd.prog os laid4) #[.slice none 0 0, .slice none 0 0, .slice none 0 0, .int .i64 0, .int .i64 0] 12 (World.laidAll_os _ _ _) (World.shaped_of_ZipB (by kernel_rfl) (by kernel_rfl)) (by kernel_rfl) (by kernel_rfl) (by kernel_rfl)
      (by rw [MakeChecks.laidMetH_plain _ _ _ (by kernel_rfl)]; exact laidMet_laidAll _ (by kernel_rfl) (by kernel_rfl))) ?_
  intro W base args ds gs before hval0 hW _ hsz0 hL _
  have hval : ∀ (j : Nat) t v, Tryd.f3.params[j]? = some t → args[j]? = some v → Value.okWide Tryd.prog W .any base t v := hval0
  have hsz : (DataW.weightsEach Tryd.prog (Tryd.f3.params.toList ++ []) (ds ++ gs)).all (· ≤ reachBytes) = true := hsz0
  have hW' := hW
  obtain ⟨p, q, hA0, hV, rfl, _, _⟩ := hW
  have hA : DataW.TrodAll enc Tryd.prog W 0 (fun _ => true) true Tryd.f3.params.toList args.toList ds p := hA0
  rw [Tryd.params3] at hA hval hsz
  obtain ⟨v0, vs0, d0, ds0, p0, q0, hargs, rfl, rfl, h0, r0⟩ := trodAll_cons hA
  obtain ⟨v1, vs1, d1, ds1, p1, q1, rfl, rfl, rfl, h1, r1⟩ := trodAll_cons r0
  obtain ⟨v2, vs2, d2, ds2, p2, q2, rfl, rfl, rfl, h2, r2⟩ := trodAll_cons r1
  obtain ⟨v3, vs3, d3, ds3, p3, q3, rfl, rfl, rfl, h3, r3⟩ := trodAll_cons r2
  obtain ⟨v4, vs4, d4, ds4, p4, q4, rfl, rfl, rfl, h4, r4⟩ := trodAll_cons r3
  obtain ⟨rfl, rfl, rfl⟩ := trodAll_nil r4
  obtain rfl : args = #[v0, v1, v2, v3, v4] := by cases args; simp_all
  obtain ⟨rfl, rfl⟩ := trodVars_none hV
  have t0 := h0
  have lt0 : ∀ x ∈ p0, x.block < W.heap.size := by obtain ⟨m, hm⟩ := t0; exact DataW.trod_lt m _ _ _ hm
  have g0 : Lgt 22 d0 := lgt_each hsz (i := 0) rfl rfl
  obtain ⟨b0, len0, cap0, rfl⟩ := okWide_slice Tryd.underlying22 (hval 0 22 v0 rfl rfl)
  obtain ⟨l0, n0, y0, s0⟩ := longs_in h0 g0 rfl
  have t1 := h1
  have lt1 : ∀ x ∈ p1, x.block < W.heap.size := by obtain ⟨m, hm⟩ := t1; exact DataW.trod_lt m _ _ _ hm
  have g1 : Lgt 23 d1 := lgt_each hsz (i := 1) rfl rfl
  obtain ⟨b1, len1, cap1, rfl⟩ := okWide_slice Tryd.underlying23 (hval 1 23 v1 rfl rfl)
  obtain ⟨l1, n1, y1, s1⟩ := ints_in h1 g1 rfl
  have t2 := h2
  have lt2 : ∀ x ∈ p2, x.block < W.heap.size := by obtain ⟨m, hm⟩ := t2; exact DataW.trod_lt m _ _ _ hm
  have g2 : Lgt 23 d2 := lgt_each hsz (i := 2) rfl rfl
  obtain ⟨b2, len2, cap2, rfl⟩ := okWide_slice Tryd.underlying23 (hval 2 23 v2 rfl rfl)
  obtain ⟨l2, n2, y2, s2⟩ := ints_in h2 g2 rfl
  obtain ⟨z3, rfl, rfl, rfl, f3⟩ := open_int Tryd.underlying3 (hval 3 3 v3 rfl rfl) h3
  obtain ⟨z4, rfl, rfl, rfl, f4⟩ := open_int Tryd.underlying3 (hval 4 3 v4 rfl rfl) h4
  obtain ⟨hc, ht, h0⟩ := tab_of hL
  clear hA0 hval0 hsz0
  refine (values_core hc ht h0 y0 y1 y2 n0 n1 n2).mono fun e W' ⟨he, bel⟩ => ?_
  subst he
  exact ⟨_, rfl, _, _, _, [], _, [], hW', trodAll_mk1 (shut_bool Tryd.underlying4 _), (trodAll_cons_mk (Below.trod laidOut (by kernel_rfl) (of_decide_eq_true (by kernel_rfl)) t0 bel lt0) (trodAll_cons_mk (Below.trod laidOut (by kernel_rfl) (of_decide_eq_true (by kernel_rfl)) t1 bel lt1) (trodAll_cons_mk (Below.trod laidOut (by kernel_rfl) (of_decide_eq_true (by kernel_rfl)) t2 bel lt2) (trodAll_cons_mk (shut_int Tryd.underlying3 f3) (trodAll_cons_mk (shut_int Tryd.underlying3 f4) trodAll_mk0))))), rfl, bel.frame _, fun h => by cases h⟩

theorem opsValues_holds : Rows.OpsValuesSaid :=
  OpenClaim.holds_of_wide 3 Tryd.f3 rfl rfl rfl rfl rfl rfl rfl ⟨rfl, rfl, rfl, rfl, rfl⟩ rfl rfl rfl rfl rfl (by kernel_rfl) Tryd.func3 (by kernel_rfl)
    (of_decide_eq_true (by kernel_rfl)) (by unfold Func.isWrapper; first | (rw [if_pos (by decide +kernel)]; kernel_rfl) | (rw [if_neg (by decide +kernel)]; exact ⟨rfl, rfl⟩))
    (fun os started H enc _ => opsValues_lifted os started H enc)

/-- THE CARD. -/
theorem opsValues_card_holds : Rows.OpsValuesCardSaid :=
  Claim7.holds_tied_plain_at .later [] [.data, .data, .data, .data] true (true, "90536bc246b3a04a52ea17f99c191a3f6e268bef3de7b514e16dfa157e5fa111") true
    opsValues_holds (fun _ h => by cases h) (by kernel_rfl) (fun _ h => by cases h) opsValues_row_tie rfl ⟨rfl, rfl⟩ (by kernel_rfl) rfl
    (fun f fn hf hfn => by
      obtain rfl : f = 3 := Option.some.inj ((show Tryd.prog.funcNamed "warp/warplaw06.OpsValues" = some 3 by kernel_rfl).symm.trans hf) |>.symm
      obtain rfl : fn = Tryd.f3 := (Option.some.inj (Tryd.func3.symm.trans hfn)).symm
      exact ⟨by kernel_rfl, fun j t ht => by
        rw [Tryd.params3] at ht
        have hm : t ∈ [22, 23, 23, 3, 3] := by simpa using Array.mem_of_getElem? ht
        have hall : ([22, 23, 23, 3, 3].all fun u => !Tryd.prog.wantsStandIn u) = true := by kernel_rfl
        exact (show Tryd.prog.wantsStandIn t = false by simpa using List.all_eq_true.1 hall t hm)⟩)
    (by kernel_rfl)
#print axioms opsValues_card_holds
end Go.Proofs.YtjbinejaagpleaaDoor
