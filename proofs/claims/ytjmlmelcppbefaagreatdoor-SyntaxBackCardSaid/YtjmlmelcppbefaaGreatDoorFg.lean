/- Is a program no more than is worked out here (20)? Asked: it lies in memory. -/
import Derived.Test.YtjmlmelcppbefaaGreatDoorFb
namespace Go.Proofs.YtjmlmelcppbefaaGreatDoor
open Go.RowKit Go.Maps
def SomeB (w : World) (e : Ending) (w' : World) : Prop := (∃ q : Bool, e = .returned (.bool q)) ∧ Below w.heap.size w w'
theorem SomeB.mk {w w' : World} (q : Bool) (h : Below w.heap.size w w') : SomeB w (.returned (.bool q)) w' := ⟨⟨q, rfl⟩, h⟩
set_option maxRecDepth 100000 in
set_option maxHeartbeats 4000000 in
theorem few_some (l : List De) (a : Option Addr) (cap : Nat) (w : World) (hc : Roomy l.length cap) (h : DesL (fun _ => True) w a l) : Calls Tryz.prog 20 #[.slice a l.length cap] w fun e w' => SomeB w e w' := by
  have hmx : Tryz.prog.follows .mixedOrders = true := by kernel_rfl
  obtain ⟨N, hN⟩ : ∃ N, l.length = N := ⟨_, rfl⟩
  rw [hN] at hc ⊢
  have HN := Lib.hid hN
  have HE := Lib.hid (And.intro (Below.refl w.heap.size w) h)
  clear hN h
  go_enter Tryz.func20, Tryz.ntmps20
  go_wp2_with fail
  go_loopg [3, 4] N (fun x mv iv wr => ∃ i : Nat, i ≤ N ∧ x = N - i ∧ iv = .int .i64 (i : Int) ∧ (∃ m : Int, mv = .int .i64 m) ∧ Hid (Below w.heap.size w wr ∧ DesL (fun _ => True) wr a l))
  case atStart => exact ⟨0, Nat.zero_le _, rfl, rfl, ⟨_, rfl⟩, HE⟩
  case round =>
    clear HE
    obtain ⟨i, hi, rfl, rfl, ⟨m, rfl⟩, HE⟩ := hrel
    obtain ⟨hb1, h1⟩ := HE.out
    by_cases hiN : i < N
    · have hlt : (i : Int) < (N : Int) := by omega
      have hp0 : (0 : Int) ≤ (i : Int) := by omega
      have hroom2 : (i : Int) + 1 ≤ 9223372036854775807 := by
        have h1 := hc.1
        have h2 := hc.2
        omega
      by_cases hm : m ≤ 3000
      · obtain ⟨b2, off2, cs, rfl, -, hcs, hdl⟩ := h1 i (by rw [HN.out]; exact hiN)
        obtain ⟨d, hd⟩ : ∃ d, l.getD i default = d := ⟨_, rfl⟩
        rw [hd] at hdl
        obtain ⟨dk, dl, dc, ds, dn, body⟩ := d
        obtain ⟨ab, capb, rfl, hroomb, hbody⟩ := hdl
        dsimp only at hroomb hbody hcs
        have p3 := World.cellU_cell (hcs 3 _ rfl)
        have p5 := World.cellU_cell (hcs 5 _ rfl)
        have c1 := fun (W : World) (hb : Below wr.heap.size wr W) => bigs_some (SizeOf.sizeOf body + 1) body ab capb W (by omega) ((show SlAt wr ab capb body from ⟨hroomb, hbody⟩).below hb)
        have hrB : ∀ W, Below wr.heap.size wr W → W.cell? ⟨b2, off2 + i * 6 + 3, none⟩ = some (.string ds) ∧ W.cell? ⟨b2, off2 + i * 6 + 5, none⟩ = some (.slice ab body.length capb) := fun W hb => by
          have hk : ∀ (b o : Nat) (v : Value), wr.cell? ⟨b, o, none⟩ = some v → W.cell? ⟨b, o, none⟩ = some v := fun b o v hv => by rw [← hv]; simp [World.cell?, hb.block b (World.block_lt_of_cell? wr _ hv)]
          exact ⟨hk _ _ _ p3, hk _ _ _ p5⟩
        have HCL := Lib.hid c1
        have HB := Lib.hid (And.intro hb1 h1)
        have HRB := Lib.hid hrB
        clear hd hcs hroomb hbody hb1 h1 HE p3 p5 c1 hrB
        go_wp2_with fail
        refine wp_region_x [] (fun W => Below wr.heap.size wr W) hmx ?_
        have HS0 : Hid (Below wr.heap.size wr wr.drew) := Lib.hid ((Below.refl _ wr).drew)
        obtain ⟨w0, hw0⟩ : ∃ w0, wr.drew = w0 := ⟨_, rfl⟩
        rw [hw0] at HS0 ⊢
        clear hw0
        refine wpX_takeD 0 (some 15) (v := ?q1v0) rfl rfl (by kernel_rfl) (fun _ _ _ h => h) HS0.out (Or.inl ⟨by rfl, ?q1h0⟩) ?_
        case q1h0 =>
          intro W1 hS1
          clear hS1
          go_simp
          first | with_reducible rfl | rw [if_neg (by omega)]
        refine wpX_takeD 1 (some 16) (v := ?q1v1) rfl rfl (by kernel_rfl) (fun _ _ _ h => h) HS0.out (Or.inl ⟨by rfl, ?q1h1⟩) ?_
        case q1h1 =>
          intro W1 hS1
          clear hS1
          go_simp
          first | with_reducible rfl | rw [if_neg (by omega)]
        refine wpX_takeD 2 (some 17) (v := ?q1v2) rfl rfl (by kernel_rfl) (fun _ _ _ h => h) HS0.out (Or.inl ⟨by rfl, ?q1h2⟩) ?_
        case q1h2 =>
          intro W1 hS1
          clear hS1
          go_simp
          first | with_reducible rfl | rw [if_neg (by omega)]
        refine wpX_takeD 3 (some 18) (v := ?q1v3) rfl rfl (by kernel_rfl) (fun _ _ _ h => h) HS0.out (Or.inl ⟨by rfl, ?q1h3⟩) ?_
        case q1h3 =>
          intro W1 hS1
          clear hS1
          go_simp
          first | with_reducible rfl | rw [if_neg (by omega)]
        simp only [Act.put, List.setIfInBounds_toArray, List.set_cons_zero, List.set_cons_succ]
        refine wpX_takeD 4 (some 19) (v := ?q1v4) rfl rfl (by kernel_rfl) (fun _ _ _ h => h) HS0.out (Or.inl ⟨by rfl, ?q1h4⟩) ?_
        case q1h4 =>
          intro W1 hS1
          clear hS1
          go_simp
          first | with_reducible rfl | rw [if_neg (by omega)]
        refine wpX_takeD 5 (some 20) (v := ?q1v5) rfl rfl (by kernel_rfl) (fun _ _ _ h => h) HS0.out (Or.inl ⟨by rfl, ?q1h5⟩) ?_
        case q1h5 =>
          intro W1 hS1
          clear hS1
          go_simp
          first | with_reducible rfl | rw [if_neg (by omega)]
        refine wpX_takeD 6 (some 21) (v := ?q1v6) rfl rfl (by kernel_rfl) (fun _ _ _ h => h) HS0.out (Or.inl ⟨by rfl, ?q1h6⟩) ?_
        case q1h6 =>
          intro W1 hS1
          obtain ⟨f3, f5⟩ := HRB.out W1 hS1
          clear hS1
          go_simp
          first | with_reducible rfl | rw [if_neg (by omega)]
        refine wpX_takeD 7 (some 22) (v := ?q1v7) rfl rfl (by kernel_rfl) (fun _ _ _ h => h) HS0.out (Or.inl ⟨by rfl, ?q1h7⟩) ?_
        case q1h7 =>
          intro W1 hS1
          clear hS1
          go_simp
          first | with_reducible rfl | rw [if_neg (by omega)]
        simp only [Act.put, List.setIfInBounds_toArray, List.set_cons_zero, List.set_cons_succ]
        refine wpX_takeD 8 (some 23) (v := ?q1v8) rfl rfl (by kernel_rfl) (fun _ _ _ h => h) HS0.out (Or.inl ⟨by rfl, ?q1h8⟩) ?_
        case q1h8 =>
          intro W1 hS1
          clear hS1
          go_simp
          first | with_reducible rfl | rw [if_neg (by omega)]
        refine wpX_takeD 9 (some 24) (v := ?q1v9) rfl rfl (by kernel_rfl) (fun _ _ _ h => h) HS0.out (Or.inl ⟨by rfl, ?q1h9⟩) ?_
        case q1h9 =>
          intro W1 hS1
          clear hS1
          go_simp
          first | with_reducible rfl | rw [if_neg (by omega)]
        refine wpX_takeD 10 (some 25) (v := ?q1v10) rfl rfl (by kernel_rfl) (fun _ _ _ h => h) HS0.out (Or.inl ⟨by rfl, ?q1h10⟩) ?_
        case q1h10 =>
          intro W1 hS1
          clear hS1
          go_simp
          first | with_reducible rfl | rw [if_neg (by omega)]
        refine wpX_takeD 11 (some 26) (v := ?q1v11) rfl rfl (by kernel_rfl) (fun _ _ _ h => h) HS0.out (Or.inl ⟨by rfl, ?q1h11⟩) ?_
        case q1h11 =>
          intro W1 hS1
          clear hS1
          go_simp
          first | with_reducible rfl | rw [if_neg (by omega)]
        simp only [Act.put, List.setIfInBounds_toArray, List.set_cons_zero, List.set_cons_succ]
        refine wpX_takeD 12 (some 27) (v := ?q1v12) rfl rfl (by kernel_rfl) (fun _ _ _ h => h) HS0.out (Or.inl ⟨by rfl, ?q1h12⟩) ?_
        case q1h12 =>
          intro W1 hS1
          clear hS1
          go_simp
          first | with_reducible rfl | rw [if_neg (by omega)]
        refine wpX_takeD 13 (some 28) (v := ?q1v13) rfl rfl (by kernel_rfl) (fun _ _ _ h => h) HS0.out (Or.inl ⟨by rfl, ?q1h13⟩) ?_
        case q1h13 =>
          intro W1 hS1
          obtain ⟨f3, f5⟩ := HRB.out W1 hS1
          clear hS1
          go_simp
          first | with_reducible rfl | rw [if_neg (by omega)]
        simp only [Act.put, List.setIfInBounds_toArray, List.set_cons_zero, List.set_cons_succ]
        refine wpX_one 14 (by kernel_rfl) rfl (fun K hK => ?_)
        go_simp
        refine (HCL.out w0 HS0.out).mono ?_
        rintro e w1 ⟨⟨z0, rfl⟩, hbc⟩
        have HS1 : Hid (Below wr.heap.size wr w1) := Lib.hid (HS0.out.trans (hbc.mono HS0.out.size))
        refine hK _ _ (fun _ => HS1.out) ?_
        clear hK K hbc HS0
        refine wpX_takeD 15 (some 30) (v := ?q1v15) rfl rfl (by kernel_rfl) (fun _ _ _ h => h) HS1.out (Or.inl ⟨by rfl, ?q1h15⟩) ?_
        case q1h15 =>
          intro W1 hS1
          clear hS1
          go_simp
          first | with_reducible rfl | rw [if_neg (by omega)]
        refine wpX_takeD 16 (some 3) (v := ?q1v16) rfl rfl (by kernel_rfl) (fun _ _ _ h => h) HS1.out (Or.inl ⟨by rfl, ?q1h16⟩) ?_
        case q1h16 =>
          intro W1 hS1
          clear hS1
          go_simp
          first | with_reducible rfl | rw [if_neg (by omega)]
        simp only [Act.put, List.setIfInBounds_toArray, List.set_cons_zero, List.set_cons_succ]
        refine wpX_done (by kernel_rfl) ?_ _
        have HE2 : Hid (Below w.heap.size w w1 ∧ DesL (fun _ => True) w1 (some ⟨b2, off2, none⟩) l) := Lib.hid ⟨HB.out.1.trans (HS1.out.mono HB.out.1.size), HB.out.2.below HS1.out⟩
        clear HCL HRB HB HS1
        go_wp2_with fail
        go_roundg (N - (i + 1))
        case measure => omega
        case rel => exact ⟨i + 1, by omega, rfl, rfl, ⟨_, rfl⟩, HE2⟩
      · clear h1 HE
        go_wp2_with fail
        go_ret
        exact SomeB.mk _ hb1
    · obtain rfl : i = N := by omega
      have hlt : ¬ (i : Int) < (i : Int) := by omega
      clear h1 HE
      go_wp2_with fail
      go_ret
      exact SomeB.mk _ hb1
set_option maxRecDepth 100000 in
set_option maxHeartbeats 4000000 in
theorem few_exact (l : List De) (a : Option Addr) (cap : Nat) (w : World) (hc : Roomy l.length cap) (h : DesL (fun _ => True) w a l) (hsm : ∀ j, j < l.length → (l.getD j default).name.size ≤ 16 ∧ ∀ i, i < (l.getD j default).body.length → ((l.getD j default).body.getD i default).sm 24) : Calls Tryz.prog 20 #[.slice a l.length cap] w fun e w' => e = .returned (.bool (fewB l)) ∧ Below w.heap.size w w' := by
  have hmx : Tryz.prog.follows .mixedOrders = true := by kernel_rfl
  obtain ⟨N, hN⟩ : ∃ N, l.length = N := ⟨_, rfl⟩
  rw [hN] at hc hsm ⊢
  have HN := Lib.hid hN
  have HE := Lib.hid (And.intro (Below.refl w.heap.size w) h)
  have HSM := Lib.hid hsm
  obtain ⟨D, hD⟩ : ∃ D, deBig (l.drop 0) 0 = D := ⟨_, rfl⟩
  rw [show fewB l = decide (D ≤ 3000) from by rw [← hD]; rfl]
  have HD : Hid (deBig (l.drop 0) 0 = D ∧ 0 ≤ 20000000000000) := Lib.hid ⟨hD, by omega⟩
  obtain ⟨R, hR⟩ : ∃ R, decide (D ≤ 3000) = R := ⟨_, rfl⟩
  rw [hR]
  have HR := Lib.hid hR
  clear hsm hD hR
  clear hN h
  go_enter Tryz.func20, Tryz.ntmps20
  go_wp2_with fail
  go_loopg [3, 4] N (fun x mv iv wr => ∃ i : Nat, i ≤ N ∧ x = N - i ∧ iv = .int .i64 (i : Int) ∧ (∃ m : Nat, mv = .int .i64 (m : Int) ∧ Hid (deBig (l.drop i) m = D ∧ m ≤ 20000000000000)) ∧ Hid (Below w.heap.size w wr ∧ DesL (fun _ => True) wr a l))
  case atStart => exact ⟨0, Nat.zero_le _, rfl, rfl, ⟨0, rfl, HD⟩, HE⟩
  case round =>
    clear HE HD
    obtain ⟨i, hi, rfl, rfl, ⟨m, rfl, HM⟩, HE⟩ := hrel
    obtain ⟨hb1, h1⟩ := HE.out
    by_cases hiN : i < N
    · have hlt : (i : Int) < (N : Int) := by omega
      have hp0 : (0 : Int) ≤ (i : Int) := by omega
      have hroom2 : (i : Int) + 1 ≤ 9223372036854775807 := by
        have h1 := hc.1
        have h2 := hc.2
        omega
      by_cases hm : (m : Int) ≤ 3000
      · obtain ⟨b2, off2, cs, rfl, -, hcs, hdl⟩ := h1 i (by rw [HN.out]; exact hiN)
        have hsx := HSM.out i hiN
        have hM := HM.out.1
        rw [deBig_drop (by rw [HN.out]; exact hiN) (by omega)] at hM
        obtain ⟨d, hd⟩ : ∃ d, l.getD i default = d := ⟨_, rfl⟩
        rw [hd] at hdl hsx hM
        obtain ⟨dk, dl, dc, ds, dn, body⟩ := d
        obtain ⟨ab, capb, rfl, hroomb, hbody⟩ := hdl
        dsimp only at hroomb hbody hcs hsx hM
        have p3 := World.cellU_cell (hcs 3 _ rfl)
        have p5 := World.cellU_cell (hcs 5 _ rfl)
        have hbm := sbigL_max body 0 (fun j hj => ssm_big 24 _ (hsx.2 j hj))
        have hb24 := sB_24
        have c1 := fun (W : World) (hb : Below wr.heap.size wr W) => bigs_exact (SizeOf.sizeOf body + 1) 24 body ab capb W (by omega) (Nat.le_refl _) hsx.2 ((show SlAt wr ab capb body from ⟨hroomb, hbody⟩).below hb)
        obtain ⟨q, hq⟩ : ∃ q, St.bigL body 0 = q := ⟨_, rfl⟩
        rw [hq] at c1 hM hbm
        have hs16 := hsx.1
        have HM2 : Hid (deBig (l.drop (i + 1)) (m + (1 + ds.size + q)) = D ∧ m + (1 + ds.size + q) ≤ 20000000000000) := Lib.hid ⟨hM, by omega⟩
        have hqb : q ≤ 5000000003000 := by omega
        clear hM hsx hbm hb24 hq HM
        have hrB : ∀ W, Below wr.heap.size wr W → W.cell? ⟨b2, off2 + i * 6 + 3, none⟩ = some (.string ds) ∧ W.cell? ⟨b2, off2 + i * 6 + 5, none⟩ = some (.slice ab body.length capb) := fun W hb => by
          have hk : ∀ (b o : Nat) (v : Value), wr.cell? ⟨b, o, none⟩ = some v → W.cell? ⟨b, o, none⟩ = some v := fun b o v hv => by rw [← hv]; simp [World.cell?, hb.block b (World.block_lt_of_cell? wr _ hv)]
          exact ⟨hk _ _ _ p3, hk _ _ _ p5⟩
        have HCL := Lib.hid c1
        have HB := Lib.hid (And.intro hb1 h1)
        have HRB := Lib.hid hrB
        clear hd hcs hroomb hbody hb1 h1 HE p3 p5 c1 hrB
        go_wp2_with fail
        refine wp_region_x [] (fun W => Below wr.heap.size wr W) hmx ?_
        have HS0 : Hid (Below wr.heap.size wr wr.drew) := Lib.hid ((Below.refl _ wr).drew)
        obtain ⟨w0, hw0⟩ : ∃ w0, wr.drew = w0 := ⟨_, rfl⟩
        rw [hw0] at HS0 ⊢
        clear hw0
        refine wpX_takeD 0 (some 15) (v := ?q2v0) rfl rfl (by kernel_rfl) (fun _ _ _ h => h) HS0.out (Or.inl ⟨by rfl, ?q2h0⟩) ?_
        case q2h0 =>
          intro W1 hS1
          clear hS1
          go_simp
          first | with_reducible rfl | rw [if_neg (by omega)]
        refine wpX_takeD 1 (some 16) (v := ?q2v1) rfl rfl (by kernel_rfl) (fun _ _ _ h => h) HS0.out (Or.inl ⟨by rfl, ?q2h1⟩) ?_
        case q2h1 =>
          intro W1 hS1
          clear hS1
          go_simp
          first | with_reducible rfl | rw [if_neg (by omega)]
        refine wpX_takeD 2 (some 17) (v := ?q2v2) rfl rfl (by kernel_rfl) (fun _ _ _ h => h) HS0.out (Or.inl ⟨by rfl, ?q2h2⟩) ?_
        case q2h2 =>
          intro W1 hS1
          clear hS1
          go_simp
          first | with_reducible rfl | rw [if_neg (by omega)]
        refine wpX_takeD 3 (some 18) (v := ?q2v3) rfl rfl (by kernel_rfl) (fun _ _ _ h => h) HS0.out (Or.inl ⟨by rfl, ?q2h3⟩) ?_
        case q2h3 =>
          intro W1 hS1
          clear hS1
          go_simp
          first | with_reducible rfl | rw [if_neg (by omega)]
        simp only [Act.put, List.setIfInBounds_toArray, List.set_cons_zero, List.set_cons_succ]
        refine wpX_takeD 4 (some 19) (v := ?q2v4) rfl rfl (by kernel_rfl) (fun _ _ _ h => h) HS0.out (Or.inl ⟨by rfl, ?q2h4⟩) ?_
        case q2h4 =>
          intro W1 hS1
          clear hS1
          go_simp
          first | with_reducible rfl | rw [if_neg (by omega)]
        refine wpX_takeD 5 (some 20) (v := ?q2v5) rfl rfl (by kernel_rfl) (fun _ _ _ h => h) HS0.out (Or.inl ⟨by rfl, ?q2h5⟩) ?_
        case q2h5 =>
          intro W1 hS1
          clear hS1
          go_simp
          first | with_reducible rfl | rw [if_neg (by omega)]
        refine wpX_takeD 6 (some 21) (v := ?q2v6) rfl rfl (by kernel_rfl) (fun _ _ _ h => h) HS0.out (Or.inl ⟨by rfl, ?q2h6⟩) ?_
        case q2h6 =>
          intro W1 hS1
          obtain ⟨f3, f5⟩ := HRB.out W1 hS1
          clear hS1
          go_simp
          first | with_reducible rfl | rw [if_neg (by omega)]
        refine wpX_takeD 7 (some 22) (v := ?q2v7) rfl rfl (by kernel_rfl) (fun _ _ _ h => h) HS0.out (Or.inl ⟨by rfl, ?q2h7⟩) ?_
        case q2h7 =>
          intro W1 hS1
          clear hS1
          go_simp
          first | with_reducible rfl | rw [if_neg (by omega)]
        simp only [Act.put, List.setIfInBounds_toArray, List.set_cons_zero, List.set_cons_succ]
        refine wpX_takeD 8 (some 23) (v := ?q2v8) rfl rfl (by kernel_rfl) (fun _ _ _ h => h) HS0.out (Or.inl ⟨by rfl, ?q2h8⟩) ?_
        case q2h8 =>
          intro W1 hS1
          clear hS1
          go_simp
          first | with_reducible rfl | rw [if_neg (by omega)]
        refine wpX_takeD 9 (some 24) (v := ?q2v9) rfl rfl (by kernel_rfl) (fun _ _ _ h => h) HS0.out (Or.inl ⟨by rfl, ?q2h9⟩) ?_
        case q2h9 =>
          intro W1 hS1
          clear hS1
          go_simp
          first | with_reducible rfl | rw [if_neg (by omega)]
        refine wpX_takeD 10 (some 25) (v := ?q2v10) rfl rfl (by kernel_rfl) (fun _ _ _ h => h) HS0.out (Or.inl ⟨by rfl, ?q2h10⟩) ?_
        case q2h10 =>
          intro W1 hS1
          clear hS1
          go_simp
          first | with_reducible rfl | rw [if_neg (by omega)]
        refine wpX_takeD 11 (some 26) (v := ?q2v11) rfl rfl (by kernel_rfl) (fun _ _ _ h => h) HS0.out (Or.inl ⟨by rfl, ?q2h11⟩) ?_
        case q2h11 =>
          intro W1 hS1
          clear hS1
          go_simp
          first | with_reducible rfl | rw [if_neg (by omega)]
        simp only [Act.put, List.setIfInBounds_toArray, List.set_cons_zero, List.set_cons_succ]
        refine wpX_takeD 12 (some 27) (v := ?q2v12) rfl rfl (by kernel_rfl) (fun _ _ _ h => h) HS0.out (Or.inl ⟨by rfl, ?q2h12⟩) ?_
        case q2h12 =>
          intro W1 hS1
          clear hS1
          go_simp
          first | with_reducible rfl | rw [if_neg (by omega)]
        refine wpX_takeD 13 (some 28) (v := ?q2v13) rfl rfl (by kernel_rfl) (fun _ _ _ h => h) HS0.out (Or.inl ⟨by rfl, ?q2h13⟩) ?_
        case q2h13 =>
          intro W1 hS1
          obtain ⟨f3, f5⟩ := HRB.out W1 hS1
          clear hS1
          go_simp
          first | with_reducible rfl | rw [if_neg (by omega)]
        simp only [Act.put, List.setIfInBounds_toArray, List.set_cons_zero, List.set_cons_succ]
        refine wpX_one 14 (by kernel_rfl) rfl (fun K hK => ?_)
        go_simp
        refine (HCL.out w0 HS0.out).mono ?_
        rintro e w1 ⟨rfl, hbc⟩
        have HS1 : Hid (Below wr.heap.size wr w1) := Lib.hid (HS0.out.trans (hbc.mono HS0.out.size))
        refine hK _ _ (fun _ => HS1.out) ?_
        clear hK K hbc HS0
        refine wpX_takeD 15 (some 30) (v := ?q2v15) rfl rfl (by kernel_rfl) (fun _ _ _ h => h) HS1.out (Or.inl ⟨by rfl, ?q2h15⟩) ?_
        case q2h15 =>
          intro W1 hS1
          clear hS1
          go_simp
          first | with_reducible rfl | rw [if_neg (by omega)]
        refine wpX_takeD 16 (some 3) (v := ?q2v16) rfl rfl (by kernel_rfl) (fun _ _ _ h => h) HS1.out (Or.inl ⟨by rfl, ?q2h16⟩) ?_
        case q2h16 =>
          intro W1 hS1
          clear hS1
          go_simp
          first | with_reducible rfl | rw [if_neg (by omega)]
        simp only [Act.put, List.setIfInBounds_toArray, List.set_cons_zero, List.set_cons_succ]
        refine wpX_done (by kernel_rfl) ?_ _
        have HE2 : Hid (Below w.heap.size w w1 ∧ DesL (fun _ => True) w1 (some ⟨b2, off2, none⟩) l) := Lib.hid ⟨HB.out.1.trans (HS1.out.mono HB.out.1.size), HB.out.2.below HS1.out⟩
        clear HCL HRB HB HS1
        go_wp2_with fail
        go_roundg (N - (i + 1))
        case measure => omega
        case rel => exact ⟨i + 1, by omega, rfl, rfl, ⟨m + (1 + ds.size + q), congrArg (Value.int .i64) (by rw [IntWalk.i64_in ((m : Int) + 1) (by omega), IntWalk.i64_in ((m : Int) + 1 + (ds.size : Int)) (by omega), IntWalk.i64_in ((m : Int) + 1 + (ds.size : Int) + (q : Int)) (by omega)]; omega), HM2⟩, HE2⟩
      · clear h1 HE
        have hmD : m = D := by rw [← HM.out.1, deBig_gt (by omega)]
        subst hmD
        clear HM
        have hm3 : ¬ m ≤ 3000 := by omega
        have hRf : R = false := by rw [← HR.out, decide_eq_false hm3]
        subst hRf
        go_wp2_with fail
        go_ret
        exact ⟨rfl, hb1⟩
    · obtain rfl : i = N := by omega
      have hlt : ¬ (i : Int) < (i : Int) := by omega
      clear h1 HE
      have hmD : m = D := by rw [← HM.out.1, List.drop_eq_nil_of_le (by rw [HN.out]; exact Nat.le_refl _), deBig]
      subst hmD
      clear HM
      by_cases hm3 : m ≤ 3000
      · have hRt : R = true := by rw [← HR.out, decide_eq_true hm3]
        subst hRt
        have hm4 : (m : Int) ≤ 3000 := by omega
        go_wp2_with fail
        go_ret
        exact ⟨rfl, hb1⟩
      · have hRf : R = false := by rw [← HR.out, decide_eq_false hm3]
        subst hRf
        have hm4 : ¬ (m : Int) ≤ 3000 := by omega
        go_wp2_with fail
        go_ret
        exact ⟨rfl, hb1⟩
end Go.Proofs.YtjmlmelcppbefaaGreatDoor
