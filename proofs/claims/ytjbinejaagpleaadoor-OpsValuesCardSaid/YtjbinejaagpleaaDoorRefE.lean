/- The document's Encode of a module without threads. Asked: the module lies and may be. -/
import Derived.Test.YtjbinejaagpleaaDoorRefN
import Derived.Test.YtjbinejaagpleaaDoorPure4
namespace Go.Proofs.YtjbinejaagpleaaDoor
open Go.RowKit

/-- A row of bytes of our own; nothing old is written. -/
def Out (W0 W : World) (u : Value) (ys : List Nat) : Prop := W.ownsRow W0.heap.size 5 1 u ys.length (u8s ys) ∧ Below W0.heap.size W0 W
theorem Out.call {W0 W W' : World} {u : Value} {ys : List Nat} (h : Out W0 W u ys) (hb : Below W.heap.size W W') : Out W0 W' u ys := ⟨ownsRow_blw h.1 hb, h.2.trans (hb.mono h.2.size)⟩
theorem Out.app {W0 W W' : World} {u v : Value} {ys L : List Nat} {m : Nat} (h : Out W0 W u ys) (hown : W'.ownsRow W0.heap.size 5 1 v (ys.length + m) (u8s ys ++ u8s L)) (hg : W.grownBy W' u.ownBlock) (hL : L.length = m) : Out W0 W' v (ys ++ L) := by
  refine ⟨?_, h.2.grown hg h.2.size (own_ge h.1 (Nat.le_refl _))⟩
  rw [List.length_append, hL]
  simpa [u8s] using hown
theorem Out.cell {W0 W : World} {u : Value} {ys : List Nat} (h : Out W0 W u ys) {b k : Nat} {v : Value} (hc : W0.cell? ⟨b, k, none⟩ = some v) : W.cell? ⟨b, k, none⟩ = some v := (h.2.cell (p := ⟨b, k, none⟩) (World.block_lt_of_cell? W0 _ hc)).trans hc
theorem own_src {W : World} {B n : Nat} {v : Value} {L : List Nat} (h : W.ownsRow B 5 1 v n (u8s L)) (h0 : 0 < n) : ∃ g cap, v = .slice (some ⟨g, 0, none⟩) n cap ∧ ∀ j u, (u8s L)[j]? = some u → W.cell? ((⟨g, 0, none⟩ : Addr).add j) = some u := by
  obtain ⟨g, cap, rfl, _, _⟩ := h.form h0
  exact ⟨g, cap, rfl, fun j u hu => h.cells (g := g) rfl j u hu⟩
theorem own_bys {W : World} {B n cap : Nat} {a : Option Addr} {L : List Nat} (h : W.ownsRow B 5 1 (.slice a n cap) n (u8s L)) (hL : L.length = n) : Bys W a L := fun i hi => by
  obtain ⟨g, c, e, _, _, _, hc, _⟩ := own_bytes h (by omega) hL
  obtain ⟨rfl, _, _⟩ := Value.slice.inj e
  exact ⟨g, 0, rfl, hc i (by omega)⟩
theorem u8s_one (L : List Nat) : ∀ u ∈ u8s L, u.oneCell' = true := fun u hu => by
  obtain ⟨x, _, rfl⟩ := List.mem_map.1 hu
  rfl
theorem u8s_len1 (L : List Nat) : (u8s L).length = L.length * 1 := by simp [u8s]
theorem numB_pos (n : Nat) : 0 < (numB n).length := by rw [numB.eq_def]; split <;> simp
set_option maxRecDepth 100000 in
set_option maxHeartbeats 40000000 in
theorem mencode_core {w : World} {va aa ca : Option Addr} {vc ac cc nv na nc : Nat} {V A C : List Int} {mu co : Int} (hv : Ints w va V) (ha : Ints w aa A) (hc : Ints w ca C) (hnv : V.length = nv) (hna : A.length = na) (hnc : C.length = nc)
    (bv : nv ≤ 64) (ba : na ≤ 64) (bc : nc ≤ 64) (mv : ∀ x ∈ V, -2147483648 ≤ x ∧ x ≤ 2147483647) (ma : ∀ x ∈ A, 0 ≤ x ∧ x ≤ 256) (mc : ∀ x ∈ C, 1 ≤ x ∧ x ≤ 16) (hmu : 0 ≤ mu ∧ mu ≤ 64) (hco : 0 ≤ co ∧ co ≤ 64) (hsm : Smb (modP ⟨V, A, C, mu, co, []⟩)) :
    Calls Tryd.prog 11 #[.agg #[.slice va nv vc, .slice aa na ac, .slice ca nc cc, .int .i64 mu, .int .i64 co, .slice none 0 0]] w fun e w' => Below w.heap.size w w' ∧ ∃ v n, e = .returned v ∧ (sealB (modP ⟨V, A, C, mu, co, []⟩)).length = n ∧ w'.ownsRow w.heap.size 5 1 v n (u8s (sealB (modP ⟨V, A, C, mu, co, []⟩))) := by
  obtain ⟨i0, hi0, hz0, hz1, hz2⟩ := info_parts info5
  have hmx : Tryd.prog.follows .mixedOrders = true := by kernel_rfl
  obtain ⟨mu, rfl⟩ : ∃ k : Nat, mu = k := ⟨mu.toNat, by omega⟩
  obtain ⟨co, rfl⟩ : ∃ k : Nat, co = k := ⟨co.toNat, by omega⟩
  obtain ⟨Z, hZ⟩ : ∃ Z, modP ⟨V, A, C, mu, co, []⟩ = Z := ⟨_, rfl⟩
  rw [hZ] at hsm ⊢
  have HSM := Lib.hid hsm
  clear hsm
  have HZ : Hid (magB ++ (numB nv ++ (V.flatMap sgnB ++ (numB na ++ (A.flatMap cntB ++ (numB nc ++ (C.flatMap cntB ++ (numB mu ++ (numB co ++ numB 0)))))))) = Z) := Lib.hid (by
    rw [← hZ, ← hnv, ← hna, ← hnc]
    simp [modP, magB, listB, cntB, List.append_assoc])
  have hB0 : Below w.heap.size w (w.alloc (.cells #[.slice va nv vc, .slice aa na ac, .slice ca nc cc, .int .i64 mu, .int .i64 co, .slice none 0 0] 27)) := (Below.refl _ w).alloc (Nat.le_refl _) _
  have hX0 : (w.alloc (.cells #[.slice va nv vc, .slice aa na ac, .slice ca nc cc, .int .i64 mu, .int .i64 co, .slice none 0 0] 27)).heap[w.heap.size]? = some (.cells #[.slice va nv vc, .slice aa na ac, .slice ca nc cc, .int .i64 mu, .int .i64 co, .slice none 0 0] 27 (0, 0)) := World.alloc_heap_new _ _
  have HB0 := Lib.hid hB0
  have HX0 := Lib.hid hX0
  have HV := Lib.hid (And.intro (hv.below hB0 (Nat.le_refl _)) (And.intro hnv mv))
  have HA := Lib.hid (And.intro (ha.below hB0 (Nat.le_refl _)) (And.intro hna ma))
  have HC := Lib.hid (And.intro (hc.below hB0 (Nat.le_refl _)) (And.intro hnc mc))
  have hsz0 : (w.alloc (.cells #[.slice va nv vc, .slice aa na ac, .slice ca nc cc, .int .i64 mu, .int .i64 co, .slice none 0 0] 27)).heap.size = w.heap.size + 1 := by simp
  have HSZ := Lib.hid hsz0
  obtain ⟨W0, hW0⟩ : ∃ W0, w.alloc (.cells #[.slice va nv vc, .slice aa na ac, .slice ca nc cc, .int .i64 mu, .int .i64 co, .slice none 0 0] 27) = W0 := ⟨_, rfl⟩
  rw [hW0] at HB0 HX0 HV HA HC HSZ
  have HW0 := Lib.hid hW0
  have HNM := Lib.hid (And.intro hmu.2 hco.2)
  clear hv ha hc hnv hna hnc mv ma mc hmu hco hZ hB0 hX0 hsz0 hW0
  go_enter Tryd.func11, Tryd.ntmps11
  go_wp2_with fail
  rw [HW0.out]
  have e0 := cell_blk (k := 0) HX0.out rfl
  have kc := Lib.run_convert_bytes_const (P := Tryd.prog) W0 28 5 #[.int .u8 87, .int .u8 65, .int .u8 82, .int .u8 80] 4 4 Tryd.underlying28 Tryd.underlying5
  rw [HSZ.out] at kc
  obtain ⟨W1, hW1⟩ : ∃ W1, W0.alloc (.cells #[.int .u8 87, .int .u8 65, .int .u8 82, .int .u8 80] 5 (4, 5)) = W1 := ⟨_, rfl⟩
  have hb01 : Below W0.heap.size W0 W1 := by
    rw [← hW1]
    exact (Below.refl _ W0).alloc (Nat.le_refl _) _
  have hlit : W1.heap[w.heap.size + 1]? = some (.cells #[.int .u8 87, .int .u8 65, .int .u8 82, .int .u8 80] 5 (4, 5)) := by
    rw [← hW1, ← HSZ.out]
    exact World.alloc_heap_new _ _
  have hn := mnumber_any (w := W1) nv (by omega)
  have e1 : W1.cell? ⟨w.heap.size, 0, none⟩ = some (.slice va nv vc) := (hb01.cell (p := ⟨w.heap.size, 0, none⟩) (World.block_lt_of_cell? W0 _ e0)).trans e0
  rw [show (#[Value.int .u8 87, .int .u8 65, .int .u8 82, .int .u8 80] : Array Value).size = 4 from rfl, hW1] at kc
  clear hW1
  rw [kc]
  go_wp2_with fail
  refine hn.mono ?_
  rintro e W2 ⟨hb12, v, rfl, ho⟩
  clear hn kc e0 e1
  have hp := numB_pos nv
  have hl := num10 (n := nv) (by omega)
  obtain ⟨g, cap, rfl, hsrc⟩ := own_src ho hp
  obtain ⟨m, hm⟩ : ∃ m, (numB nv).length = m := ⟨_, rfl⟩
  rw [hm] at hp hl ⊢
  have k1 : (some (⟨w.heap.size + 1, 0, none⟩ : Addr)) = none → 4 = 0 ∧ 4 = 0 := fun h => by cases h
  have k2 : ∀ bb, (some (⟨w.heap.size + 1, 0, none⟩ : Addr)) = some bb → ∀ j u, (u8s magB)[j]? = some u → W2.cell? (bb.add j) = some u := by
    intro bb hbb j u hu
    obtain rfl := Option.some.inj hbb
    have hx : W2.heap[w.heap.size + 1]? = some (.cells #[.int .u8 87, .int .u8 65, .int .u8 82, .int .u8 80] 5 (4, 5)) := (hb12.block _ (Array.getElem?_eq_some_iff.1 hlit).1).trans hlit
    have h2 : (#[.int .u8 87, .int .u8 65, .int .u8 82, .int .u8 80] : Array Value)[j]? = some u := by
      have h3 : u8s magB = (#[.int .u8 87, .int .u8 65, .int .u8 82, .int .u8 80] : Array Value).toList := rfl
      rw [h3] at hu
      simpa using hu
    have h4 : W2.cell? ⟨w.heap.size + 1, j, none⟩ = (#[.int .u8 87, .int .u8 65, .int .u8 82, .int .u8 80] : Array Value)[j]? := by simp [World.cell?, hx]
    rw [Addr.add_lit, show 0 + j = j by omega, h4, h2]
  have k4 := u8s_one (numB nv)
  have k5 := u8s_len1 (numB nv)
  rw [hm] at k5
  have K1 := Lib.hid k1
  have K2 := Lib.hid k2
  have K3 := Lib.hid hsrc
  have K4 := Lib.hid k4
  have K5 := Lib.hid k5
  have HM := Lib.hid hm
  have HB2 := Lib.hid (hb01.trans (hb12.mono hb01.size))
  have HP := Lib.hid hp
  have h63 : 4 + m ≤ maxLen := by unfold maxLen; omega
  have hby : (4 + m) * 1 ≤ 140737488355328 := by omega
  have hfu : 4 < 4 + m := by omega
  clear k1 k2 hsrc k4 k5 hm hp hlit hb01 hb12 ho
  go_wp2_with (at_builtin; refine wpList_append_grows _ rfl (.tmp 9) (.tmp 13) 28 rfl 5 i0 (.int .u8 0) 1 1 Tryd.underlying28 hi0 hz0 hz1 hz2 rfl (by decide) (some ⟨w.heap.size + 1, 0, none⟩) 4 4 (u8s magB) rfl K1.out rfl K2.out ⟨g, 0, none⟩ m cap (u8s (numB nv)) rfl K5.out K3.out K4.out hfu h63 hby ?_)
  intro v' W3 hown hgrow
  have hO : Out W0 W3 v' (magB ++ numB nv) := by
    refine ⟨?_, HB2.out.grown hgrow HB2.out.size (fun r hr => by cases hr)⟩
    have e1 : (magB ++ numB nv).length = 4 + m := by rw [List.length_append, HM.out]; rfl
    rw [e1]
    exact ownsRow_base (by simpa [u8s] using hown) HB2.out.size
  obtain ⟨ys, hys⟩ : ∃ ys, magB ++ numB nv = ys := ⟨_, rfl⟩
  rw [hys] at hO
  have HYS : Hid (magB ++ (numB nv ++ (V.take 0).flatMap sgnB) = ys) := Lib.hid (by simpa using hys)
  have hyl : ys.length ≤ 14 := by rw [← hys, List.length_append, HM.out]; show 4 + m ≤ 14; omega
  have HO := Lib.hid hO
  clear hown hgrow hO hys K1 K2 K3 K4 K5 HM HB2 HP h63 hby hfu hl
  have x0 := HO.out.cell (cell_blk (k := 0) HX0.out rfl)
  go_wp2_with fail
  clear x0
  go_loopw [4, 3] (fun x u wr => ∃ (k : Nat) (ys : List Nat), k ≤ nv ∧ x = .int .i64 k ∧ ys.length ≤ 14 + 10 * k ∧ Hid (magB ++ (numB nv ++ (V.take k).flatMap sgnB) = ys) ∧ Hid (Out W0 wr u ys)) (fun x _ _ => nv - (intOf x).toNat)
  case atStart => exact ⟨0, _, Nat.zero_le _, rfl, by omega, HYS, HO⟩
  case round =>
    clear HO HYS hyl
    obtain ⟨k, ys, hk, rfl, hyl, HYS, HO⟩ := hrel
    obtain ⟨ua, uc, rfl⟩ := own_form HO.out.1
    have r0 := HO.out.cell (cell_blk (k := 0) HX0.out rfl)
    by_cases hkn : k < nv
    · skip
      have hki : (k : Int) < (nv : Int) := by omega
      have hlk : k < V.length := by rw [HV.out.2.1]; exact hkn
      obtain ⟨b1, o1, rfl, y0⟩ := (HV.out.1.below HO.out.2 (Nat.le_refl _)) k hlk
      have hz := HV.out.2.2 (V.getD k 0) (by rw [List.getD_eq_getElem?_getD, List.getElem?_eq_getElem hlk]; exact List.getElem_mem hlk)
      have hT := flat_take sgnB 0 V k hlk
      obtain ⟨z, hz'⟩ : ∃ z, V.getD k 0 = z := ⟨_, rfl⟩
      rw [hz'] at y0 hz hT
      clear hz' hlk
      have hn := msigned_any (w := wr) z (by omega) (by omega)
      obtain ⟨L, hL'⟩ : ∃ L, sgnB z = L := ⟨_, rfl⟩
      have hL : L = numB (sgnN z) := hL'.symm
      have hz2' : sgnN z < 1180591620717411303424 := by unfold sgnN; split <;> omega
      rw [hL'] at hn hT
      clear hL' 
      have HT := Lib.hid hT
      clear hT
      have hp : 0 < L.length := by rw [hL]; exact numB_pos _
      have hl10 : L.length ≤ 10 := by rw [hL]; exact num10 (by omega)
      go_wp2_with fail
      refine hn.mono ?_
      rintro e W2 ⟨hb2, v, rfl, ho⟩
      have HL := Lib.hid hL
      obtain ⟨g, cap, rfl, hsrc⟩ := own_src ho hp
      have hO2 := HO.out.call hb2
      obtain ⟨m, hm⟩ : ∃ m, L.length = m := ⟨_, rfl⟩
      rw [hm] at hp hl10 ⊢
      have k5 := u8s_len1 L
      rw [hm] at k5
      have K3 := Lib.hid hsrc
      have K4 := Lib.hid (u8s_one L)
      have K5 := Lib.hid k5
      have HM := Lib.hid hm
      have HO2 := Lib.hid hO2
      have h63 : ys.length + m ≤ maxLen := by unfold maxLen; omega
      have hby : (ys.length + m) * 1 ≤ 140737488355328 := by omega
      have HBS := Lib.hid hO2.2.size
      have HM2 := Lib.hid hm
      clear hsrc k5 hm hL ho hn hb2 hO2 HO r0 y0
      go_wp2_with (at_builtin; refine wpList_append_lies _ rfl (.tmp 22) (.tmp 28) 28 rfl W0.heap.size 5 i0 (.int .u8 0) 1 1 Tryd.underlying28 hi0 hz0 hz1 hz2 rfl (by decide) (.slice ua ys.length uc) ys.length (u8s ys) rfl HO2.out.1 ⟨g, 0, none⟩ m cap (u8s L) rfl K5.out K3.out K4.out hp h63 hby HBS.out _ rfl ?_)
      intro g3 cap3 W3 hown hgrow _ _
      have HO3 := Lib.hid (HO2.out.app hown hgrow HM.out)
      have hyl3 : (ys ++ L).length ≤ ys.length + 10 := by rw [List.length_append, HM.out]; omega
      clear hown hgrow K3 K4 K5 HM HO2 h63 hby HBS hp hl10
      go_wp2
      case roundEnd =>
        refine ⟨⟨k + 1, ys ++ L, by omega, by go_num, by omega, Lib.hid ?_, HO3⟩, by simp [intOf]; omega⟩
        rw [← HYS.out, ← HT.out]
        simp only [List.append_assoc]
    · skip
      have HQ : Hid (magB ++ (numB nv ++ V.flatMap sgnB) = ys) := Lib.hid (by
        have := HYS.out
        rwa [show V.take k = V by rw [show k = V.length by rw [HV.out.2.1]; omega]; exact List.take_length] at this)
      obtain rfl : nv = k := by omega
      have hyl5 : ys.length ≤ 14 + 640 := by omega
      clear HYS hkn hyl
      have hyl := hyl5
      clear hyl5
      have x1 := HO.out.cell (cell_blk (k := 1) HX0.out rfl)
      have hn := mnumber_any (w := wr) na (by omega)
      obtain ⟨L, hL'⟩ : ∃ L, numB na = L := ⟨_, rfl⟩
      have hL : L = numB na := hL'.symm
      rw [hL'] at hn
      clear hL'
      have hp : 0 < L.length := by rw [hL]; exact numB_pos _
      have hl10 : L.length ≤ 10 := by rw [hL]; exact num10 (by omega)
      go_wp2_with fail
      refine hn.mono ?_
      rintro e W2 ⟨hb2, v, rfl, ho⟩
      have HL := Lib.hid hL
      obtain ⟨g, cap, rfl, hsrc⟩ := own_src ho hp
      have hO2 := HO.out.call hb2
      obtain ⟨m, hm⟩ : ∃ m, L.length = m := ⟨_, rfl⟩
      rw [hm] at hp hl10 ⊢
      have k5 := u8s_len1 L
      rw [hm] at k5
      have K3 := Lib.hid hsrc
      have K4 := Lib.hid (u8s_one L)
      have K5 := Lib.hid k5
      have HM := Lib.hid hm
      have HO2 := Lib.hid hO2
      have h63 : ys.length + m ≤ maxLen := by unfold maxLen; omega
      have hby : (ys.length + m) * 1 ≤ 140737488355328 := by omega
      have HBS := Lib.hid hO2.2.size
      have HM2 := Lib.hid hm
      clear hsrc k5 hm hL ho hn hb2 hO2 HO r0 x1
      go_wp2_with (at_builtin; refine wpList_append_lies _ rfl (.tmp 30) (.tmp 34) 28 rfl W0.heap.size 5 i0 (.int .u8 0) 1 1 Tryd.underlying28 hi0 hz0 hz1 hz2 rfl (by decide) (.slice ua ys.length uc) ys.length (u8s ys) rfl HO2.out.1 ⟨g, 0, none⟩ m cap (u8s L) rfl K5.out K3.out K4.out hp h63 hby HBS.out _ rfl ?_)
      intro g3 cap3 W3 hown hgrow _ _
      have HO3 := Lib.hid (HO2.out.app hown hgrow HM.out)
      have hyl3 : (ys ++ L).length ≤ ys.length + 10 := by rw [List.length_append, HM.out]; omega
      clear hown hgrow K3 K4 K5 HM HO2 h63 hby HBS hp hl10
      have HYS : Hid ((magB ++ (numB nv ++ V.flatMap sgnB)) ++ (numB na ++ (A.take 0).flatMap cntB) = ys ++ L) := Lib.hid (by
        rw [← HQ.out, HL.out]
        simp [List.append_assoc])
      generalize hzs : ys ++ L = zs at HO3 hyl3 HYS
      have hyl4 : zs.length ≤ 664 := by omega
      have HO := HO3
      have hyl := hyl4
      clear HQ HL hzs hyl3 hyl4 HO3
      have x1 := HO.out.cell (cell_blk (k := 1) HX0.out rfl)
      go_wp2_with fail
      clear x1
      go_loopw [5, 3] (fun x u wr => ∃ (k : Nat) (ys : List Nat), k ≤ na ∧ x = .int .i64 k ∧ ys.length ≤ 664 + 10 * k ∧ Hid ((magB ++ (numB nv ++ V.flatMap sgnB)) ++ (numB na ++ (A.take k).flatMap cntB) = ys) ∧ Hid (Out W0 wr u ys)) (fun x _ _ => na - (intOf x).toNat)
      case atStart => exact ⟨0, _, Nat.zero_le _, rfl, by omega, HYS, HO⟩
      case round =>
        clear HO HYS hyl
        obtain ⟨k, ys, hk, rfl, hyl, HYS, HO⟩ := hrel
        obtain ⟨ua, uc, rfl⟩ := own_form HO.out.1
        have r0 := HO.out.cell (cell_blk (k := 1) HX0.out rfl)
        by_cases hkn : k < na
        · skip
          have hki : (k : Int) < (na : Int) := by omega
          have hlk : k < A.length := by rw [HA.out.2.1]; exact hkn
          obtain ⟨b1, o1, rfl, y0⟩ := (HA.out.1.below HO.out.2 (Nat.le_refl _)) k hlk
          have hz := HA.out.2.2 (A.getD k 0) (by rw [List.getD_eq_getElem?_getD, List.getElem?_eq_getElem hlk]; exact List.getElem_mem hlk)
          have hT := flat_take cntB 0 A k hlk
          obtain ⟨z, hz'⟩ : ∃ z, A.getD k 0 = z := ⟨_, rfl⟩
          rw [hz'] at y0 hz hT
          clear hz' hlk
          obtain ⟨zn, rfl⟩ : ∃ zn : Nat, z = zn := ⟨z.toNat, by omega⟩
          have hn := mnumber_any (w := wr) zn (by omega)
          obtain ⟨L, hL'⟩ : ∃ L, numB zn = L := ⟨_, rfl⟩
          have hL : L = numB zn := hL'.symm
          have hc : cntB (zn : Int) = L := hL'
          rw [hL'] at hn
          rw [hc] at hT
          clear hL' hc
          have HT := Lib.hid hT
          clear hT
          have hp : 0 < L.length := by rw [hL]; exact numB_pos _
          have hl10 : L.length ≤ 10 := by rw [hL]; exact num10 (by omega)
          go_wp2_with fail
          refine hn.mono ?_
          rintro e W2 ⟨hb2, v, rfl, ho⟩
          have HL := Lib.hid hL
          obtain ⟨g, cap, rfl, hsrc⟩ := own_src ho hp
          have hO2 := HO.out.call hb2
          obtain ⟨m, hm⟩ : ∃ m, L.length = m := ⟨_, rfl⟩
          rw [hm] at hp hl10 ⊢
          have k5 := u8s_len1 L
          rw [hm] at k5
          have K3 := Lib.hid hsrc
          have K4 := Lib.hid (u8s_one L)
          have K5 := Lib.hid k5
          have HM := Lib.hid hm
          have HO2 := Lib.hid hO2
          have h63 : ys.length + m ≤ maxLen := by unfold maxLen; omega
          have hby : (ys.length + m) * 1 ≤ 140737488355328 := by omega
          have HBS := Lib.hid hO2.2.size
          have HM2 := Lib.hid hm
          clear hsrc k5 hm hL ho hn hb2 hO2 HO r0 y0
          go_wp2_with (at_builtin; refine wpList_append_lies _ rfl (.tmp 43) (.tmp 49) 28 rfl W0.heap.size 5 i0 (.int .u8 0) 1 1 Tryd.underlying28 hi0 hz0 hz1 hz2 rfl (by decide) (.slice ua ys.length uc) ys.length (u8s ys) rfl HO2.out.1 ⟨g, 0, none⟩ m cap (u8s L) rfl K5.out K3.out K4.out hp h63 hby HBS.out _ rfl ?_)
          intro g3 cap3 W3 hown hgrow _ _
          have HO3 := Lib.hid (HO2.out.app hown hgrow HM.out)
          have hyl3 : (ys ++ L).length ≤ ys.length + 10 := by rw [List.length_append, HM.out]; omega
          clear hown hgrow K3 K4 K5 HM HO2 h63 hby HBS hp hl10
          go_wp2
          case roundEnd =>
            refine ⟨⟨k + 1, ys ++ L, by omega, by go_num, by omega, Lib.hid ?_, HO3⟩, by simp [intOf]; omega⟩
            rw [← HYS.out, ← HT.out]
            simp only [List.append_assoc]
        · skip
          have HQ : Hid ((magB ++ (numB nv ++ V.flatMap sgnB)) ++ (numB na ++ A.flatMap cntB) = ys) := Lib.hid (by
            have := HYS.out
            rwa [show A.take k = A by rw [show k = A.length by rw [HA.out.2.1]; omega]; exact List.take_length] at this)
          obtain rfl : na = k := by omega
          have hyl5 : ys.length ≤ 664 + 640 := by omega
          clear HYS hkn hyl
          have hyl := hyl5
          clear hyl5
          have x2 := HO.out.cell (cell_blk (k := 2) HX0.out rfl)
          have hn := mnumber_any (w := wr) nc (by omega)
          obtain ⟨L, hL'⟩ : ∃ L, numB nc = L := ⟨_, rfl⟩
          have hL : L = numB nc := hL'.symm
          rw [hL'] at hn
          clear hL'
          have hp : 0 < L.length := by rw [hL]; exact numB_pos _
          have hl10 : L.length ≤ 10 := by rw [hL]; exact num10 (by omega)
          go_wp2_with fail
          refine hn.mono ?_
          rintro e W2 ⟨hb2, v, rfl, ho⟩
          have HL := Lib.hid hL
          obtain ⟨g, cap, rfl, hsrc⟩ := own_src ho hp
          have hO2 := HO.out.call hb2
          obtain ⟨m, hm⟩ : ∃ m, L.length = m := ⟨_, rfl⟩
          rw [hm] at hp hl10 ⊢
          have k5 := u8s_len1 L
          rw [hm] at k5
          have K3 := Lib.hid hsrc
          have K4 := Lib.hid (u8s_one L)
          have K5 := Lib.hid k5
          have HM := Lib.hid hm
          have HO2 := Lib.hid hO2
          have h63 : ys.length + m ≤ maxLen := by unfold maxLen; omega
          have hby : (ys.length + m) * 1 ≤ 140737488355328 := by omega
          have HBS := Lib.hid hO2.2.size
          have HM2 := Lib.hid hm
          clear hsrc k5 hm hL ho hn hb2 hO2 HO r0 x2
          go_wp2_with (at_builtin; refine wpList_append_lies _ rfl (.tmp 51) (.tmp 55) 28 rfl W0.heap.size 5 i0 (.int .u8 0) 1 1 Tryd.underlying28 hi0 hz0 hz1 hz2 rfl (by decide) (.slice ua ys.length uc) ys.length (u8s ys) rfl HO2.out.1 ⟨g, 0, none⟩ m cap (u8s L) rfl K5.out K3.out K4.out hp h63 hby HBS.out _ rfl ?_)
          intro g3 cap3 W3 hown hgrow _ _
          have HO3 := Lib.hid (HO2.out.app hown hgrow HM.out)
          have hyl3 : (ys ++ L).length ≤ ys.length + 10 := by rw [List.length_append, HM.out]; omega
          clear hown hgrow K3 K4 K5 HM HO2 h63 hby HBS hp hl10
          have HYS : Hid (((magB ++ (numB nv ++ V.flatMap sgnB)) ++ (numB na ++ A.flatMap cntB)) ++ (numB nc ++ (C.take 0).flatMap cntB) = ys ++ L) := Lib.hid (by
            rw [← HQ.out, HL.out]
            simp [List.append_assoc])
          generalize hzs : ys ++ L = zs at HO3 hyl3 HYS
          have hyl4 : zs.length ≤ 1320 := by omega
          have HO := HO3
          have hyl := hyl4
          clear HQ HL hzs hyl3 hyl4 HO3
          have x2 := HO.out.cell (cell_blk (k := 2) HX0.out rfl)
          go_wp2_with fail
          clear x2
          go_loopw [6, 3] (fun x u wr => ∃ (k : Nat) (ys : List Nat), k ≤ nc ∧ x = .int .i64 k ∧ ys.length ≤ 1320 + 10 * k ∧ Hid (((magB ++ (numB nv ++ V.flatMap sgnB)) ++ (numB na ++ A.flatMap cntB)) ++ (numB nc ++ (C.take k).flatMap cntB) = ys) ∧ Hid (Out W0 wr u ys)) (fun x _ _ => nc - (intOf x).toNat)
          case atStart => exact ⟨0, _, Nat.zero_le _, rfl, by omega, HYS, HO⟩
          case round =>
            clear HO HYS hyl
            obtain ⟨k, ys, hk, rfl, hyl, HYS, HO⟩ := hrel
            obtain ⟨ua, uc, rfl⟩ := own_form HO.out.1
            have r0 := HO.out.cell (cell_blk (k := 2) HX0.out rfl)
            by_cases hkn : k < nc
            · skip
              have hki : (k : Int) < (nc : Int) := by omega
              have hlk : k < C.length := by rw [HC.out.2.1]; exact hkn
              obtain ⟨b1, o1, rfl, y0⟩ := (HC.out.1.below HO.out.2 (Nat.le_refl _)) k hlk
              have hz := HC.out.2.2 (C.getD k 0) (by rw [List.getD_eq_getElem?_getD, List.getElem?_eq_getElem hlk]; exact List.getElem_mem hlk)
              have hT := flat_take cntB 0 C k hlk
              obtain ⟨z, hz'⟩ : ∃ z, C.getD k 0 = z := ⟨_, rfl⟩
              rw [hz'] at y0 hz hT
              clear hz' hlk
              obtain ⟨zn, rfl⟩ : ∃ zn : Nat, z = zn := ⟨z.toNat, by omega⟩
              have hn := mnumber_any (w := wr) zn (by omega)
              obtain ⟨L, hL'⟩ : ∃ L, numB zn = L := ⟨_, rfl⟩
              have hL : L = numB zn := hL'.symm
              have hc : cntB (zn : Int) = L := hL'
              rw [hL'] at hn
              rw [hc] at hT
              clear hL' hc
              have HT := Lib.hid hT
              clear hT
              have hp : 0 < L.length := by rw [hL]; exact numB_pos _
              have hl10 : L.length ≤ 10 := by rw [hL]; exact num10 (by omega)
              go_wp2_with fail
              refine hn.mono ?_
              rintro e W2 ⟨hb2, v, rfl, ho⟩
              have HL := Lib.hid hL
              obtain ⟨g, cap, rfl, hsrc⟩ := own_src ho hp
              have hO2 := HO.out.call hb2
              obtain ⟨m, hm⟩ : ∃ m, L.length = m := ⟨_, rfl⟩
              rw [hm] at hp hl10 ⊢
              have k5 := u8s_len1 L
              rw [hm] at k5
              have K3 := Lib.hid hsrc
              have K4 := Lib.hid (u8s_one L)
              have K5 := Lib.hid k5
              have HM := Lib.hid hm
              have HO2 := Lib.hid hO2
              have h63 : ys.length + m ≤ maxLen := by unfold maxLen; omega
              have hby : (ys.length + m) * 1 ≤ 140737488355328 := by omega
              have HBS := Lib.hid hO2.2.size
              have HM2 := Lib.hid hm
              clear hsrc k5 hm hL ho hn hb2 hO2 HO r0 y0
              go_wp2_with (at_builtin; refine wpList_append_lies _ rfl (.tmp 64) (.tmp 70) 28 rfl W0.heap.size 5 i0 (.int .u8 0) 1 1 Tryd.underlying28 hi0 hz0 hz1 hz2 rfl (by decide) (.slice ua ys.length uc) ys.length (u8s ys) rfl HO2.out.1 ⟨g, 0, none⟩ m cap (u8s L) rfl K5.out K3.out K4.out hp h63 hby HBS.out _ rfl ?_)
              intro g3 cap3 W3 hown hgrow _ _
              have HO3 := Lib.hid (HO2.out.app hown hgrow HM.out)
              have hyl3 : (ys ++ L).length ≤ ys.length + 10 := by rw [List.length_append, HM.out]; omega
              clear hown hgrow K3 K4 K5 HM HO2 h63 hby HBS hp hl10
              go_wp2
              case roundEnd =>
                refine ⟨⟨k + 1, ys ++ L, by omega, by go_num, by omega, Lib.hid ?_, HO3⟩, by simp [intOf]; omega⟩
                rw [← HYS.out, ← HT.out]
                simp only [List.append_assoc]
            · skip
              have HQ : Hid (((magB ++ (numB nv ++ V.flatMap sgnB)) ++ (numB na ++ A.flatMap cntB)) ++ (numB nc ++ C.flatMap cntB) = ys) := Lib.hid (by
                have := HYS.out
                rwa [show C.take k = C by rw [show k = C.length by rw [HC.out.2.1]; omega]; exact List.take_length] at this)
              obtain rfl : nc = k := by omega
              have hyl5 : ys.length ≤ 1320 + 640 := by omega
              clear HYS hkn hyl
              have hyl := hyl5
              clear hyl5
              have hnm := HNM.out
              have HKP : Hid (∀ W u ys, Out W0 W u ys → W.cell? ⟨w.heap.size, 3, none⟩ = some (.int .i64 (mu : Int)) ∧ W.cell? ⟨w.heap.size, 4, none⟩ = some (.int .i64 (co : Int))) := Lib.hid (fun W u ys h => ⟨h.cell (cell_blk (k := 3) HX0.out rfl), h.cell (cell_blk (k := 4) HX0.out rfl)⟩)
              go_wp2_with fail
              clear r0
              refine wp_region_x [] (fun W => W.cell? ⟨w.heap.size, 3, none⟩ = some (.int .i64 (mu : Int)) ∧ W.cell? ⟨w.heap.size, 4, none⟩ = some (.int .i64 (co : Int))) hmx ?_
              have HOd := Lib.hid (HO.out.call (Below.refl _ wr).drew)
              have hS0 := HKP.out _ _ _ HOd.out
              clear HO
              generalize wr.drew = wd at *
              refine wpX_take 0 (v := ?v0) rfl (by kernel_rfl) (by kernel_rfl) (by kernel_rfl) (by kernel_rfl) (fun _ _ _ h => h) hS0 (Or.inl ⟨by kernel_rfl, ?h0⟩) ?_
              case h0 => (intro W1 hS1; obtain ⟨s0, s1⟩ := hS1; go_simp; with_reducible rfl)
              refine wpX_take 1 (v := ?v1) rfl (by kernel_rfl) (by kernel_rfl) (by kernel_rfl) (by kernel_rfl) (fun _ _ _ h => h) hS0 (Or.inl ⟨by kernel_rfl, ?h1⟩) ?_
              case h1 => (intro W1 hS1; obtain ⟨s0, s1⟩ := hS1; go_simp; with_reducible rfl)
              refine wpX_take 2 (v := ?v2) rfl (by kernel_rfl) (by kernel_rfl) (by kernel_rfl) (by kernel_rfl) (fun _ _ _ h => h) hS0 (Or.inl ⟨by kernel_rfl, ?h2⟩) ?_
              case h2 => (intro W1 hS1; obtain ⟨s0, s1⟩ := hS1; go_simp; with_reducible rfl)
              refine wpX_take 5 (v := ?v5) rfl (by kernel_rfl) (by kernel_rfl) (by kernel_rfl) (by kernel_rfl) (fun _ _ _ h => h) hS0 (Or.inl ⟨by kernel_rfl, ?h5⟩) ?_
              case h5 => (intro W1 hS1; obtain ⟨s0, s1⟩ := hS1; go_simp; with_reducible rfl)
              refine wpX_take 6 (v := ?v6) rfl (by kernel_rfl) (by kernel_rfl) (by kernel_rfl) (by kernel_rfl) (fun _ _ _ h => h) hS0 (Or.inl ⟨by kernel_rfl, ?h6⟩) ?_
              case h6 => (intro W1 hS1; obtain ⟨s0, s1⟩ := hS1; go_simp; with_reducible rfl)
              have hn := mnumber_any (w := wd) mu (by omega)
              obtain ⟨L1, hL'⟩ : ∃ L, numB mu = L := ⟨_, rfl⟩
              have hL : L1 = numB mu := hL'.symm
              rw [hL'] at hn
              clear hL'
              have hp : 0 < L1.length := by rw [hL]; exact numB_pos _
              have hl10 : L1.length ≤ 10 := by rw [hL]; exact num10 (by omega)
              refine wpX_one 3 (by kernel_rfl) rfl (fun K hK => ?_)
              go_simp
              refine hn.mono ?_
              rintro e we ⟨hb2, v, rfl, ho⟩
              have HOe := Lib.hid (HOd.out.call hb2)
              refine hK _ _ (fun _ => HKP.out _ _ _ HOe.out) ?_
              clear hK K hS0
              have hS0 := HKP.out _ _ _ HOe.out
              obtain ⟨g, cap, rfl, hsrc⟩ := own_src ho hp
              have HL1 := Lib.hid hL
              obtain ⟨m1, hm⟩ : ∃ m, L1.length = m := ⟨_, rfl⟩
              rw [hm] at hp hl10 ⊢
              have k5 := u8s_len1 L1
              rw [hm] at k5
              have K3 := Lib.hid hsrc
              have K4 := Lib.hid (u8s_one L1)
              have K5 := Lib.hid k5
              have HM1 := Lib.hid hm
              have h63 : ys.length + m1 ≤ maxLen := by unfold maxLen; omega
              have hby : (ys.length + m1) * 1 ≤ 140737488355328 := by omega
              have HBS := Lib.hid HOe.out.2.size
              clear hsrc k5 hm hL ho hn hb2
              refine wpX_one 4 (by kernel_rfl) rfl (fun K hK => ?_)
              refine step_append_lies _ rfl (.tmp 72) (.tmp 75) 28 rfl W0.heap.size 5 i0 (.int .u8 0) 1 1 Tryd.underlying28 hi0 hz0 hz1 hz2 rfl (by decide) (.slice ua ys.length uc) ys.length (u8s ys) rfl HOe.out.1 ⟨g, 0, none⟩ m1 cap (u8s L1) rfl K5.out K3.out K4.out hp h63 hby HBS.out _ rfl ?_
              intro g3 cap3 wf hown hgrow _ _
              have HO3 := Lib.hid (HOe.out.app hown hgrow HM1.out)
              have hyl3 : (ys ++ L1).length ≤ ys.length + 10 := by rw [List.length_append, HM1.out]; omega
              have hlq : ys.length + m1 = (ys ++ L1).length := by rw [List.length_append, HM1.out]
              rw [hlq] at HO3 ⊢
              refine hK _ _ (fun _ => HKP.out _ _ _ HO3.out) ?_
              clear hK K hS0
              have hS0 := HKP.out _ _ _ HO3.out
              clear hown hgrow K3 K4 K5 HM1 HOe h63 hby HBS hp hl10 hlq
              have HQ2 : Hid ((((magB ++ (numB nv ++ V.flatMap sgnB)) ++ (numB na ++ A.flatMap cntB)) ++ (numB nc ++ C.flatMap cntB)) ++ numB mu = ys ++ L1) := Lib.hid (by rw [← HQ.out, HL1.out])
              generalize hzs : ys ++ L1 = zs at HO3 hyl3 HQ2 ⊢
              have hylz : zs.length ≤ 1970 := by omega
              clear HQ HL1 hzs hyl3 HOd hyl
              have hn := mnumber_any (w := wf) co (by omega)
              obtain ⟨L2, hL'⟩ : ∃ L, numB co = L := ⟨_, rfl⟩
              have hL : L2 = numB co := hL'.symm
              rw [hL'] at hn
              clear hL'
              have hp : 0 < L2.length := by rw [hL]; exact numB_pos _
              have hl10 : L2.length ≤ 10 := by rw [hL]; exact num10 (by omega)
              refine wpX_one 7 (by kernel_rfl) rfl (fun K hK => ?_)
              go_simp
              refine hn.mono ?_
              rintro e wg ⟨hb2, v, rfl, ho⟩
              have HOg := Lib.hid (HO3.out.call hb2)
              refine hK _ _ (fun _ => HKP.out _ _ _ HOg.out) ?_
              clear hK K hS0
              have hS0 := HKP.out _ _ _ HOg.out
              obtain ⟨g, cap, rfl, hsrc⟩ := own_src ho hp
              have HL2 := Lib.hid hL
              obtain ⟨m2, hm⟩ : ∃ m, L2.length = m := ⟨_, rfl⟩
              rw [hm] at hp hl10 ⊢
              have k5 := u8s_len1 L2
              rw [hm] at k5
              have K3 := Lib.hid hsrc
              have K4 := Lib.hid (u8s_one L2)
              have K5 := Lib.hid k5
              have HM2 := Lib.hid hm
              have h63 : zs.length + m2 ≤ maxLen := by unfold maxLen; omega
              have hby : (zs.length + m2) * 1 ≤ 140737488355328 := by omega
              have HBS := Lib.hid HOg.out.2.size
              clear hsrc k5 hm hL ho hn hb2
              refine wpX_one 8 (by kernel_rfl) rfl (fun K hK => ?_)
              refine step_append_lies _ rfl (.tmp 76) (.tmp 79) 28 rfl W0.heap.size 5 i0 (.int .u8 0) 1 1 Tryd.underlying28 hi0 hz0 hz1 hz2 rfl (by decide) (.slice (some ⟨g3, 0, none⟩) zs.length cap3) zs.length (u8s zs) rfl HOg.out.1 ⟨g, 0, none⟩ m2 cap (u8s L2) rfl K5.out K3.out K4.out hp h63 hby HBS.out _ rfl ?_
              intro g3 cap3 wh hown hgrow _ _
              have HO3 := Lib.hid (HOg.out.app hown hgrow HM2.out)
              have hyl3 : (zs ++ L2).length ≤ zs.length + 10 := by rw [List.length_append, HM2.out]; omega
              have hlq : zs.length + m2 = (zs ++ L2).length := by rw [List.length_append, HM2.out]
              rw [hlq] at HO3 ⊢
              refine hK _ _ (fun _ => HKP.out _ _ _ HO3.out) ?_
              clear hK K hS0
              have hS0 := HKP.out _ _ _ HO3.out
              clear hown hgrow K3 K4 K5 HM2 HOg h63 hby HBS hp hl10 hlq
              have HQ3 : Hid ((((magB ++ (numB nv ++ V.flatMap sgnB)) ++ (numB na ++ A.flatMap cntB)) ++ (numB nc ++ C.flatMap cntB)) ++ numB mu ++ numB co = zs ++ L2) := Lib.hid (by rw [← HQ2.out, HL2.out])
              generalize hvs : zs ++ L2 = vs at HO3 hyl3 HQ3 ⊢
              have hyl : vs.length ≤ 1980 := by omega
              clear HQ2 HL2 hvs hyl3 hylz
              refine wpX_take 9 (v := ?v9) rfl (by kernel_rfl) (by kernel_rfl) (by kernel_rfl) (by kernel_rfl) (fun _ _ _ h => h) hS0 (Or.inl ⟨by kernel_rfl, ?h9⟩) ?_
              case h9 => (intro W1 hS1; obtain ⟨s0, s1⟩ := hS1; go_simp; with_reducible rfl)
              refine wpX_done (by kernel_rfl) ?_ _
              go_simp
              clear hS0
              obtain ⟨ua, hua⟩ : ∃ ua, some (⟨g3, 0, none⟩ : Addr) = ua := ⟨_, rfl⟩
              obtain ⟨uc, huc⟩ : ∃ uc, cap3 = uc := ⟨_, rfl⟩
              rw [hua, huc] at HO3 ⊢
              clear hua huc
              obtain ⟨ys, hys⟩ : ∃ ys, vs = ys := ⟨_, rfl⟩
              rw [hys] at HO3 HQ3 hyl ⊢
              clear hys
              have HO := HO3
              clear HO3
              have x5 := HO.out.cell (cell_blk (k := 5) HX0.out rfl)
              have hn : Calls Tryd.prog 30 #[.int .i64 (0 : Int)] wh _ := mnumber_any (w := wh) 0 (by omega)
              obtain ⟨L, hL'⟩ : ∃ L, numB 0 = L := ⟨_, rfl⟩
              have hL : L = numB 0 := hL'.symm
              rw [hL'] at hn
              clear hL'
              have hp : 0 < L.length := by rw [hL]; exact numB_pos _
              have hl10 : L.length ≤ 10 := by rw [hL]; exact num10 (by omega)
              go_wp2_with fail
              refine hn.mono ?_
              rintro e W2 ⟨hb2, v, rfl, ho⟩
              have HL := Lib.hid hL
              obtain ⟨g, cap, rfl, hsrc⟩ := own_src ho hp
              have hO2 := HO.out.call hb2
              obtain ⟨m, hm⟩ : ∃ m, L.length = m := ⟨_, rfl⟩
              rw [hm] at hp hl10 ⊢
              have k5 := u8s_len1 L
              rw [hm] at k5
              have K3 := Lib.hid hsrc
              have K4 := Lib.hid (u8s_one L)
              have K5 := Lib.hid k5
              have HM := Lib.hid hm
              have HO2 := Lib.hid hO2
              have h63 : ys.length + m ≤ maxLen := by unfold maxLen; omega
              have hby : (ys.length + m) * 1 ≤ 140737488355328 := by omega
              have HBS := Lib.hid hO2.2.size
              have HM2 := Lib.hid hm
              clear hsrc k5 hm hL ho hn hb2 hO2 HO x5
              go_wp2_with (at_builtin; refine wpList_append_lies _ rfl (.tmp 81) (.tmp 85) 28 rfl W0.heap.size 5 i0 (.int .u8 0) 1 1 Tryd.underlying28 hi0 hz0 hz1 hz2 rfl (by decide) (.slice ua ys.length uc) ys.length (u8s ys) rfl HO2.out.1 ⟨g, 0, none⟩ m cap (u8s L) rfl K5.out K3.out K4.out hp h63 hby HBS.out _ rfl ?_)
              intro g3 cap3 W3 hown hgrow _ _
              have HO3 := Lib.hid (HO2.out.app hown hgrow HM.out)
              have hyl3 : (ys ++ L).length ≤ ys.length + 10 := by rw [List.length_append, HM.out]; omega
              clear hown hgrow K3 K4 K5 HM HO2 h63 hby HBS hp hl10
              have HQ4 : Hid (Z = ys ++ L) := Lib.hid (by
                rw [← HQ3.out, HL.out, ← HZ.out]
                simp only [List.append_assoc])
              rw [← HQ4.out] at HO3 hyl3
              have hlq : ys.length + m = Z.length := by rw [HQ4.out, List.length_append, HM2.out]
              rw [hlq] at HO3 ⊢
              have hz5 : Z.length ≤ 5000 := Nat.le_trans hyl3 (by omega)
              clear hlq
              have x5 := HO3.out.cell (cell_blk (k := 5) HX0.out rfl)
              go_wp2_with fail
              go_loopw [7, 3] (fun x u wr => x = .int .i64 0 ∧ u = .slice (some ⟨g3, 0, none⟩) Z.length cap3 ∧ Hid (Out W0 wr (.slice (some ⟨g3, 0, none⟩) Z.length cap3) Z)) (fun _ _ _ => 0)
              case atStart => exact ⟨rfl, rfl, HO3⟩
              case round =>
                clear HO3 x5
                obtain ⟨rfl, rfl, HO3⟩ := hrel
                have x5 := HO3.out.cell (cell_blk (k := 5) HX0.out rfl)
                have hby := own_bys HO3.out.1 rfl
                have hsl0 := @sealed_any wr (some ⟨g3, 0, none⟩) Z
                have hsl := hsl0 (n := Z.length) (cap := cap3) rfl hz5 hby HSM.out
                clear hsl0
                clear hby
                go_wp2_with fail
                refine hsl.mono ?_
                rintro e W5 ⟨hb5, v, rfl, ho⟩
                have HE := Lib.hid (And.intro (HB0.out.trans ((HO3.out.call hb5).2.mono HB0.out.size)) (ownsRow_base (b' := w.heap.size) ho (Nat.le_trans HB0.out.size HO3.out.2.size)))
                clear hsl hb5 ho x5 HO3
                go_wp2
                go_ret
                exact ⟨HE.out.1, _, _, rfl, seal_len Z, HE.out.2⟩
end Go.Proofs.YtjbinejaagpleaaDoor
