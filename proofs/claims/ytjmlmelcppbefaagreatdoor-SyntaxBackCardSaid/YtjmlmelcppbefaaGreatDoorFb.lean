/- How many parts statements have, up to a bound (43). Asked: they lie in memory. -/
import Derived.Test.YtjmlmelcppbefaaGreatDoorFa
import Derived.Test.YtjmlmelcppbefaaGreatDoorX2
import Derived.Test.YtjmlmelcppbefaaGreatDoorX1
import Derived.Test.YtjmlmelcppbefaaGreatDoorV2
namespace Go.Proofs.YtjmlmelcppbefaaGreatDoor
open Go.RowKit Go.Maps
def BigsS (n : Nat) : Prop := ∀ (l : List St) (a : Option Addr) (cap : Nat) (w : World), SizeOf.sizeOf l < n → SlAt w a cap l → Calls Tryz.prog 43 #[.slice a l.length cap, .int .i64 3000] w fun e w' => (∃ z : Int, e = .returned (.int .i64 z)) ∧ Below w.heap.size w w'
set_option maxRecDepth 100000 in
set_option maxHeartbeats 8000000 in
theorem bigs_some_step (n : Nat) (ih : BigsS n) : BigsS (n + 1) := by
  intro l a cap w hsz h
  obtain ⟨d46, hu46, hr46⟩ := under46
  have hmx : Tryz.prog.follows .mixedOrders = true := by kernel_rfl
  obtain ⟨N, hN⟩ : ∃ N, l.length = N := ⟨_, rfl⟩
  have hc := h.1
  rw [hN] at hc ⊢
  have HN := Lib.hid hN
  have HSZ := Lib.hid hsz
  have HE := Lib.hid (And.intro (Below.refl w.heap.size w) h)
  clear hN hsz h
  go_enter Tryz.func43, Tryz.ntmps43
  go_wp2_with fail
  go_loopg [5, 6] N (fun x mv iv wr => ∃ i : Nat, i ≤ N ∧ x = N - i ∧ iv = .int .i64 (i : Int) ∧ (∃ m : Int, mv = .int .i64 m) ∧ Hid (Below w.heap.size w wr ∧ SlAt wr a cap l))
  case atStart => exact ⟨0, Nat.zero_le _, rfl, rfl, ⟨_, rfl⟩, HE⟩
  case round =>
    clear HE
    obtain ⟨i, hi, rfl, rfl, ⟨m, rfl⟩, HE⟩ := hrel
    obtain ⟨hb1, h1⟩ := HE.out
    by_cases hiN : i < N
    · have hlt : (i : Int) < (N : Int) := by omega
      have hp0 : (0 : Int) ≤ (i : Int) := by omega
      have hroom2 : (i : Int) + 1 ≤ 9223372036854775807 := by
        have h1 := hc.1
        have h2 := hc.2
        omega
      by_cases hm : m ≤ 3000
      · obtain ⟨s, hs⟩ : ∃ s, l[i]? = some s := ⟨_, List.getElem?_eq_getElem (by rw [HN.out]; exact hiN)⟩
        have hsz := size_at hs
        obtain ⟨b2, off2, rfl, hst⟩ := h1.at hs
        obtain ⟨sk, sl, sc, sn, sw, sx, sy, sb, se, sid, ssl, sot, slo⟩ := s
        obtain ⟨p0, p1, p2, p3, p4, hx, hy, ⟨ab, capb, p19, hbody⟩, ae, cape, p20, hels⟩ := hst.parts
        obtain ⟨hzb, hze⟩ := body_lt sk sl sc sn sw sx sy sb se sid ssl sot slo
        have hszb : SizeOf.sizeOf sb < n := by have := HSZ.out; omega
        have hsze : SizeOf.sizeOf se < n := by have := HSZ.out; omega
        obtain ⟨cx, hrx, hlx, hLx⟩ := ExL.at0 hx
        obtain ⟨cy, hry, hly, hLy⟩ := ExL.at0 hy
        have c1 := fun W hb => big_some sx.depth sx cx W (Nat.le_refl _) (hLx.below (w' := W) hb)
        have c2 := fun W hb => big_some sy.depth sy cy W (Nat.le_refl _) (hLy.below (w' := W) hb)
        have c3 := fun W hb => ih sb ab capb W hszb (hbody.below (w' := W) hb)
        have c4 := fun W hb => ih se ae cape W hsze (hels.below (w' := W) hb)
        have hrB : ∀ W, Below wr.heap.size wr W → W.cell? ⟨b2, off2 + i * 25 + 3, none⟩ = some (.string sn) ∧ W.cell? ⟨b2, off2 + i * 25 + 4, none⟩ = some (.string sw) ∧ W.rangeAt b2 (off2 + i * 25 + 5) cx ∧ W.rangeAt b2 (off2 + i * 25 + 12) cy ∧ W.cell? ⟨b2, off2 + i * 25 + 19, none⟩ = some (.slice ab sb.length capb) ∧ W.cell? ⟨b2, off2 + i * 25 + 20, none⟩ = some (.slice ae se.length cape) := fun W hb => by
          have hk : ∀ (b o : Nat) (v : Value), wr.cell? ⟨b, o, none⟩ = some v → W.cell? ⟨b, o, none⟩ = some v := fun b o v hv => by rw [← hv]; simp [World.cell?, hb.block b (World.block_lt_of_cell? wr _ hv)]
          exact ⟨hk _ _ _ p3, hk _ _ _ p4, fun j v hv => hk _ _ _ (hrx j v hv), fun j v hv => hk _ _ _ (hry j v hv), hk _ _ _ p19, hk _ _ _ p20⟩
        have HCL := Lib.hid (And.intro c1 (And.intro c2 (And.intro c3 c4)))
        have HB := Lib.hid (And.intro hb1 h1)
        have HRB := Lib.hid hrB
        clear hst hs hsz hb1 h1 HE p0 p1 p2 p3 p4 p19 p20 hx hy hbody hels hLx hLy hrx hry hzb hze hszb hsze c1 c2 c3 c4 hrB
        go_wp2_with fail
        refine wp_region_x [] (fun W => Below wr.heap.size wr W) hmx ?_
        have HS0 : Hid (Below wr.heap.size wr wr.drew) := Lib.hid ((Below.refl _ wr).drew)
        obtain ⟨w0, hw0⟩ : ∃ w0, wr.drew = w0 := ⟨_, rfl⟩
        rw [hw0] at HS0 ⊢
        clear hw0
        refine wpX_takeD 0 (some 18) (v := ?q1v0) rfl rfl (by kernel_rfl) (fun _ _ _ h => h) HS0.out (Or.inl ⟨by rfl, ?q1h0⟩) ?_
        case q1h0 =>
          intro W1 hS1
          clear hS1
          go_simp
          first | with_reducible rfl | rw [if_neg (by omega)]
        refine wpX_takeD 1 (some 19) (v := ?q1v1) rfl rfl (by kernel_rfl) (fun _ _ _ h => h) HS0.out (Or.inl ⟨by rfl, ?q1h1⟩) ?_
        case q1h1 =>
          intro W1 hS1
          clear hS1
          go_simp
          first | with_reducible rfl | rw [if_neg (by omega)]
        refine wpX_takeD 2 (some 20) (v := ?q1v2) rfl rfl (by kernel_rfl) (fun _ _ _ h => h) HS0.out (Or.inl ⟨by rfl, ?q1h2⟩) ?_
        case q1h2 =>
          intro W1 hS1
          clear hS1
          go_simp
          first | with_reducible rfl | rw [if_neg (by omega)]
        refine wpX_takeD 3 (some 21) (v := ?q1v3) rfl rfl (by kernel_rfl) (fun _ _ _ h => h) HS0.out (Or.inl ⟨by rfl, ?q1h3⟩) ?_
        case q1h3 =>
          intro W1 hS1
          clear hS1
          go_simp
          first | with_reducible rfl | rw [if_neg (by omega)]
        simp only [Act.put, List.setIfInBounds_toArray, List.set_cons_zero, List.set_cons_succ]
        refine wpX_takeD 4 (some 22) (v := ?q1v4) rfl rfl (by kernel_rfl) (fun _ _ _ h => h) HS0.out (Or.inl ⟨by rfl, ?q1h4⟩) ?_
        case q1h4 =>
          intro W1 hS1
          clear hS1
          go_simp
          first | with_reducible rfl | rw [if_neg (by omega)]
        refine wpX_takeD 5 (some 23) (v := ?q1v5) rfl rfl (by kernel_rfl) (fun _ _ _ h => h) HS0.out (Or.inl ⟨by rfl, ?q1h5⟩) ?_
        case q1h5 =>
          intro W1 hS1
          clear hS1
          go_simp
          first | with_reducible rfl | rw [if_neg (by omega)]
        refine wpX_takeD 6 (some 24) (v := ?q1v6) rfl rfl (by kernel_rfl) (fun _ _ _ h => h) HS0.out (Or.inl ⟨by rfl, ?q1h6⟩) ?_
        case q1h6 =>
          intro W1 hS1
          obtain ⟨f3, f4, -, -, f19, f20⟩ := HRB.out W1 hS1
          clear hS1
          go_simp
          first | with_reducible rfl | rw [if_neg (by omega)]
        refine wpX_takeD 7 (some 25) (v := ?q1v7) rfl rfl (by kernel_rfl) (fun _ _ _ h => h) HS0.out (Or.inl ⟨by rfl, ?q1h7⟩) ?_
        case q1h7 =>
          intro W1 hS1
          clear hS1
          go_simp
          first | with_reducible rfl | rw [if_neg (by omega)]
        simp only [Act.put, List.setIfInBounds_toArray, List.set_cons_zero, List.set_cons_succ]
        refine wpX_takeD 8 (some 26) (v := ?q1v8) rfl rfl (by kernel_rfl) (fun _ _ _ h => h) HS0.out (Or.inl ⟨by rfl, ?q1h8⟩) ?_
        case q1h8 =>
          intro W1 hS1
          clear hS1
          go_simp
          first | with_reducible rfl | rw [if_neg (by omega)]
        refine wpX_takeD 9 (some 27) (v := ?q1v9) rfl rfl (by kernel_rfl) (fun _ _ _ h => h) HS0.out (Or.inl ⟨by rfl, ?q1h9⟩) ?_
        case q1h9 =>
          intro W1 hS1
          clear hS1
          go_simp
          first | with_reducible rfl | rw [if_neg (by omega)]
        refine wpX_takeD 10 (some 28) (v := ?q1v10) rfl rfl (by kernel_rfl) (fun _ _ _ h => h) HS0.out (Or.inl ⟨by rfl, ?q1h10⟩) ?_
        case q1h10 =>
          intro W1 hS1
          clear hS1
          go_simp
          first | with_reducible rfl | rw [if_neg (by omega)]
        refine wpX_takeD 11 (some 29) (v := ?q1v11) rfl rfl (by kernel_rfl) (fun _ _ _ h => h) HS0.out (Or.inl ⟨by rfl, ?q1h11⟩) ?_
        case q1h11 =>
          intro W1 hS1
          clear hS1
          go_simp
          first | with_reducible rfl | rw [if_neg (by omega)]
        simp only [Act.put, List.setIfInBounds_toArray, List.set_cons_zero, List.set_cons_succ]
        refine wpX_takeD 12 (some 30) (v := ?q1v12) rfl rfl (by kernel_rfl) (fun _ _ _ h => h) HS0.out (Or.inl ⟨by rfl, ?q1h12⟩) ?_
        case q1h12 =>
          intro W1 hS1
          clear hS1
          go_simp
          first | with_reducible rfl | rw [if_neg (by omega)]
        refine wpX_takeD 13 (some 31) (v := ?q1v13) rfl rfl (by kernel_rfl) (fun _ _ _ h => h) HS0.out (Or.inl ⟨by rfl, ?q1h13⟩) ?_
        case q1h13 =>
          intro W1 hS1
          obtain ⟨f3, f4, -, -, f19, f20⟩ := HRB.out W1 hS1
          clear hS1
          go_simp
          first | with_reducible rfl | rw [if_neg (by omega)]
        refine wpX_takeD 14 (some 32) (v := ?q1v14) rfl rfl (by kernel_rfl) (fun _ _ _ h => h) HS0.out (Or.inl ⟨by rfl, ?q1h14⟩) ?_
        case q1h14 =>
          intro W1 hS1
          clear hS1
          go_simp
          first | with_reducible rfl | rw [if_neg (by omega)]
        refine wpX_takeD 15 (some 33) (v := ?q1v15) rfl rfl (by kernel_rfl) (fun _ _ _ h => h) HS0.out (Or.inl ⟨by rfl, ?q1h15⟩) ?_
        case q1h15 =>
          intro W1 hS1
          clear hS1
          go_simp
          first | with_reducible rfl | rw [if_neg (by omega)]
        simp only [Act.put, List.setIfInBounds_toArray, List.set_cons_zero, List.set_cons_succ]
        refine wpX_takeD 16 (some 34) (v := ?q1v16) rfl rfl (by kernel_rfl) (fun _ _ _ h => h) HS0.out (Or.inl ⟨by rfl, ?q1h16⟩) ?_
        case q1h16 =>
          intro W1 hS1
          clear hS1
          go_simp
          first | with_reducible rfl | rw [if_neg (by omega)]
        refine wpX_takeD 17 (some 35) (v := ?q1v17) rfl rfl (by kernel_rfl) (fun _ _ _ h => h) HS0.out (Or.inl ⟨by rfl, ?q1h17⟩) ?_
        case q1h17 =>
          intro W1 hS1
          clear hS1
          go_simp
          first | with_reducible rfl | rw [if_neg (by omega)]
        refine wpX_takeD 18 (some 36) (v := ?q1v18) rfl rfl (by kernel_rfl) (fun _ _ _ h => h) HS0.out (Or.inl ⟨by rfl, ?q1h18⟩) ?_
        case q1h18 =>
          intro W1 hS1
          clear hS1
          go_simp
          first | with_reducible rfl | rw [if_neg (by omega)]
        refine wpX_takeD 19 (some 37) (v := ?q1v19) rfl rfl (by kernel_rfl) (fun _ _ _ h => h) HS0.out (Or.inl ⟨by rfl, ?q1h19⟩) ?_
        case q1h19 =>
          intro W1 hS1
          clear hS1
          go_simp
          first | with_reducible rfl | rw [if_neg (by omega)]
        simp only [Act.put, List.setIfInBounds_toArray, List.set_cons_zero, List.set_cons_succ]
        refine wpX_takeD 20 (some 38) (v := .agg cx.toArray) rfl rfl (by kernel_rfl) (fun _ _ _ h => h) HS0.out (yieldsIf_load_mid (by rfl) 46 (.tmp 37) rfl b2 (off2 + i * 25 + 5) rfl cx d46 (fun W1 hS1 => (HRB.out W1 hS1).2.2.1) hu46 hr46 (by rw [hlx]; exact info46)) ?_
        refine wpX_takeD 21 (some 39) (v := ?q1v21) rfl rfl (by kernel_rfl) (fun _ _ _ h => h) HS0.out (Or.inl ⟨by rfl, ?q1h21⟩) ?_
        case q1h21 =>
          intro W1 hS1
          clear hS1
          go_simp
          first | with_reducible rfl | rw [if_neg (by omega)]
        refine wpX_takeD 24 (some 42) (v := ?q1v24) rfl rfl (by kernel_rfl) (fun _ _ _ h => h) HS0.out (Or.inl ⟨by rfl, ?q1h24⟩) ?_
        case q1h24 =>
          intro W1 hS1
          clear hS1
          go_simp
          first | with_reducible rfl | rw [if_neg (by omega)]
        refine wpX_takeD 25 (some 43) (v := ?q1v25) rfl rfl (by kernel_rfl) (fun _ _ _ h => h) HS0.out (Or.inl ⟨by rfl, ?q1h25⟩) ?_
        case q1h25 =>
          intro W1 hS1
          clear hS1
          go_simp
          first | with_reducible rfl | rw [if_neg (by omega)]
        simp only [Act.put, List.setIfInBounds_toArray, List.set_cons_zero, List.set_cons_succ]
        refine wpX_takeD 26 (some 44) (v := ?q1v26) rfl rfl (by kernel_rfl) (fun _ _ _ h => h) HS0.out (Or.inl ⟨by rfl, ?q1h26⟩) ?_
        case q1h26 =>
          intro W1 hS1
          clear hS1
          go_simp
          first | with_reducible rfl | rw [if_neg (by omega)]
        refine wpX_takeD 27 (some 45) (v := ?q1v27) rfl rfl (by kernel_rfl) (fun _ _ _ h => h) HS0.out (Or.inl ⟨by rfl, ?q1h27⟩) ?_
        case q1h27 =>
          intro W1 hS1
          clear hS1
          go_simp
          first | with_reducible rfl | rw [if_neg (by omega)]
        refine wpX_takeD 28 (some 46) (v := .agg cy.toArray) rfl rfl (by kernel_rfl) (fun _ _ _ h => h) HS0.out (yieldsIf_load_mid (by rfl) 46 (.tmp 45) rfl b2 (off2 + i * 25 + 12) rfl cy d46 (fun W1 hS1 => (HRB.out W1 hS1).2.2.2.1) hu46 hr46 (by rw [hly]; exact info46)) ?_
        refine wpX_takeD 29 (some 47) (v := ?q1v29) rfl rfl (by kernel_rfl) (fun _ _ _ h => h) HS0.out (Or.inl ⟨by rfl, ?q1h29⟩) ?_
        case q1h29 =>
          intro W1 hS1
          clear hS1
          go_simp
          first | with_reducible rfl | rw [if_neg (by omega)]
        simp only [Act.put, List.setIfInBounds_toArray, List.set_cons_zero, List.set_cons_succ]
        refine wpX_takeD 32 (some 50) (v := ?q1v32) rfl rfl (by kernel_rfl) (fun _ _ _ h => h) HS0.out (Or.inl ⟨by rfl, ?q1h32⟩) ?_
        case q1h32 =>
          intro W1 hS1
          clear hS1
          go_simp
          first | with_reducible rfl | rw [if_neg (by omega)]
        refine wpX_takeD 33 (some 51) (v := ?q1v33) rfl rfl (by kernel_rfl) (fun _ _ _ h => h) HS0.out (Or.inl ⟨by rfl, ?q1h33⟩) ?_
        case q1h33 =>
          intro W1 hS1
          clear hS1
          go_simp
          first | with_reducible rfl | rw [if_neg (by omega)]
        refine wpX_takeD 34 (some 52) (v := ?q1v34) rfl rfl (by kernel_rfl) (fun _ _ _ h => h) HS0.out (Or.inl ⟨by rfl, ?q1h34⟩) ?_
        case q1h34 =>
          intro W1 hS1
          clear hS1
          go_simp
          first | with_reducible rfl | rw [if_neg (by omega)]
        refine wpX_takeD 35 (some 53) (v := ?q1v35) rfl rfl (by kernel_rfl) (fun _ _ _ h => h) HS0.out (Or.inl ⟨by rfl, ?q1h35⟩) ?_
        case q1h35 =>
          intro W1 hS1
          clear hS1
          go_simp
          first | with_reducible rfl | rw [if_neg (by omega)]
        simp only [Act.put, List.setIfInBounds_toArray, List.set_cons_zero, List.set_cons_succ]
        refine wpX_takeD 36 (some 54) (v := ?q1v36) rfl rfl (by kernel_rfl) (fun _ _ _ h => h) HS0.out (Or.inl ⟨by rfl, ?q1h36⟩) ?_
        case q1h36 =>
          intro W1 hS1
          obtain ⟨f3, f4, -, -, f19, f20⟩ := HRB.out W1 hS1
          clear hS1
          go_simp
          first | with_reducible rfl | rw [if_neg (by omega)]
        refine wpX_takeD 37 (some 55) (v := ?q1v37) rfl rfl (by kernel_rfl) (fun _ _ _ h => h) HS0.out (Or.inl ⟨by rfl, ?q1h37⟩) ?_
        case q1h37 =>
          intro W1 hS1
          clear hS1
          go_simp
          first | with_reducible rfl | rw [if_neg (by omega)]
        refine wpX_takeD 40 (some 58) (v := ?q1v40) rfl rfl (by kernel_rfl) (fun _ _ _ h => h) HS0.out (Or.inl ⟨by rfl, ?q1h40⟩) ?_
        case q1h40 =>
          intro W1 hS1
          clear hS1
          go_simp
          first | with_reducible rfl | rw [if_neg (by omega)]
        refine wpX_takeD 41 (some 59) (v := ?q1v41) rfl rfl (by kernel_rfl) (fun _ _ _ h => h) HS0.out (Or.inl ⟨by rfl, ?q1h41⟩) ?_
        case q1h41 =>
          intro W1 hS1
          clear hS1
          go_simp
          first | with_reducible rfl | rw [if_neg (by omega)]
        simp only [Act.put, List.setIfInBounds_toArray, List.set_cons_zero, List.set_cons_succ]
        refine wpX_takeD 42 (some 60) (v := ?q1v42) rfl rfl (by kernel_rfl) (fun _ _ _ h => h) HS0.out (Or.inl ⟨by rfl, ?q1h42⟩) ?_
        case q1h42 =>
          intro W1 hS1
          clear hS1
          go_simp
          first | with_reducible rfl | rw [if_neg (by omega)]
        refine wpX_takeD 43 (some 61) (v := ?q1v43) rfl rfl (by kernel_rfl) (fun _ _ _ h => h) HS0.out (Or.inl ⟨by rfl, ?q1h43⟩) ?_
        case q1h43 =>
          intro W1 hS1
          clear hS1
          go_simp
          first | with_reducible rfl | rw [if_neg (by omega)]
        refine wpX_takeD 44 (some 62) (v := ?q1v44) rfl rfl (by kernel_rfl) (fun _ _ _ h => h) HS0.out (Or.inl ⟨by rfl, ?q1h44⟩) ?_
        case q1h44 =>
          intro W1 hS1
          obtain ⟨f3, f4, -, -, f19, f20⟩ := HRB.out W1 hS1
          clear hS1
          go_simp
          first | with_reducible rfl | rw [if_neg (by omega)]
        refine wpX_takeD 45 (some 63) (v := ?q1v45) rfl rfl (by kernel_rfl) (fun _ _ _ h => h) HS0.out (Or.inl ⟨by rfl, ?q1h45⟩) ?_
        case q1h45 =>
          intro W1 hS1
          clear hS1
          go_simp
          first | with_reducible rfl | rw [if_neg (by omega)]
        simp only [Act.put, List.setIfInBounds_toArray, List.set_cons_zero, List.set_cons_succ]
        refine wpX_one 22 (by kernel_rfl) rfl (fun K hK => ?_)
        go_simp
        refine (HCL.out.1 w0 HS0.out).mono ?_
        rintro e w1 ⟨⟨z0, rfl⟩, hbc⟩
        have HS1 : Hid (Below wr.heap.size wr w1) := Lib.hid (HS0.out.trans (hbc.mono HS0.out.size))
        refine hK _ _ (fun _ => HS1.out) ?_
        clear hK K hbc HS0
        refine wpX_takeD 23 (some 41) (v := ?q1v23) rfl rfl (by kernel_rfl) (fun _ _ _ h => h) HS1.out (Or.inl ⟨by rfl, ?q1h23⟩) ?_
        case q1h23 =>
          intro W1 hS1
          clear hS1
          go_simp
          first | with_reducible rfl | rw [if_neg (by omega)]
        simp only [Act.put, List.setIfInBounds_toArray, List.set_cons_zero, List.set_cons_succ]
        refine wpX_one 30 (by kernel_rfl) rfl (fun K hK => ?_)
        go_simp
        refine (HCL.out.2.1 w1 HS1.out).mono ?_
        rintro e w2 ⟨⟨z1, rfl⟩, hbc⟩
        have HS2 : Hid (Below wr.heap.size wr w2) := Lib.hid (HS1.out.trans (hbc.mono HS1.out.size))
        refine hK _ _ (fun _ => HS2.out) ?_
        clear hK K hbc HS1
        refine wpX_takeD 31 (some 49) (v := ?q1v31) rfl rfl (by kernel_rfl) (fun _ _ _ h => h) HS2.out (Or.inl ⟨by rfl, ?q1h31⟩) ?_
        case q1h31 =>
          intro W1 hS1
          clear hS1
          go_simp
          first | with_reducible rfl | rw [if_neg (by omega)]
        simp only [Act.put, List.setIfInBounds_toArray, List.set_cons_zero, List.set_cons_succ]
        refine wpX_one 38 (by kernel_rfl) rfl (fun K hK => ?_)
        go_simp
        refine (HCL.out.2.2.1 w2 HS2.out).mono ?_
        rintro e w3 ⟨⟨z2, rfl⟩, hbc⟩
        have HS3 : Hid (Below wr.heap.size wr w3) := Lib.hid (HS2.out.trans (hbc.mono HS2.out.size))
        refine hK _ _ (fun _ => HS3.out) ?_
        clear hK K hbc HS2
        refine wpX_takeD 39 (some 57) (v := ?q1v39) rfl rfl (by kernel_rfl) (fun _ _ _ h => h) HS3.out (Or.inl ⟨by rfl, ?q1h39⟩) ?_
        case q1h39 =>
          intro W1 hS1
          clear hS1
          go_simp
          first | with_reducible rfl | rw [if_neg (by omega)]
        simp only [Act.put, List.setIfInBounds_toArray, List.set_cons_zero, List.set_cons_succ]
        refine wpX_one 46 (by kernel_rfl) rfl (fun K hK => ?_)
        go_simp
        refine (HCL.out.2.2.2 w3 HS3.out).mono ?_
        rintro e w4 ⟨⟨z3, rfl⟩, hbc⟩
        have HS4 : Hid (Below wr.heap.size wr w4) := Lib.hid (HS3.out.trans (hbc.mono HS3.out.size))
        refine hK _ _ (fun _ => HS4.out) ?_
        clear hK K hbc HS3
        refine wpX_takeD 47 (some 65) (v := ?q1v47) rfl rfl (by kernel_rfl) (fun _ _ _ h => h) HS4.out (Or.inl ⟨by rfl, ?q1h47⟩) ?_
        case q1h47 =>
          intro W1 hS1
          clear hS1
          go_simp
          first | with_reducible rfl | rw [if_neg (by omega)]
        simp only [Act.put, List.setIfInBounds_toArray, List.set_cons_zero, List.set_cons_succ]
        refine wpX_takeD 48 (some 5) (v := ?q1v48) rfl rfl (by kernel_rfl) (fun _ _ _ h => h) HS4.out (Or.inl ⟨by rfl, ?q1h48⟩) ?_
        case q1h48 =>
          intro W1 hS1
          clear hS1
          go_simp
          first | with_reducible rfl | rw [if_neg (by omega)]
        simp only [Act.put, List.setIfInBounds_toArray, List.set_cons_zero, List.set_cons_succ]
        refine wpX_done (by kernel_rfl) ?_ _
        have HE2 := Lib.hid (And.intro (HB.out.1.trans (HS4.out.mono HB.out.1.size)) (HB.out.2.below HS4.out))
        clear HCL HRB HB HS4
        go_wp2_with fail
        go_roundg (N - (i + 1))
        case measure => omega
        case rel => exact ⟨i + 1, by omega, rfl, rfl, ⟨_, rfl⟩, HE2⟩
      · clear h1 HE
        go_wp2_with fail
        go_ret
        exact ⟨⟨_, rfl⟩, hb1⟩
    · obtain rfl : i = N := by omega
      have hlt : ¬ (i : Int) < (i : Int) := by omega
      clear h1 HE
      go_wp2_with fail
      go_ret
      exact ⟨⟨_, rfl⟩, hb1⟩
theorem bigs_some : ∀ n, BigsS n
  | 0 => fun _ _ _ _ h => absurd h (Nat.not_lt_zero _)
  | n + 1 => bigs_some_step n (bigs_some n)
def BigsE (n : Nat) : Prop := ∀ (k : Nat) (l : List St) (a : Option Addr) (cap : Nat) (w : World), SizeOf.sizeOf l < n → k ≤ 24 → (∀ j, j < l.length → (l.getD j default).sm k) → SlAt w a cap l → Calls Tryz.prog 43 #[.slice a l.length cap, .int .i64 3000] w fun e w' => e = .returned (.int .i64 (St.bigL l 0 : Int)) ∧ Below w.heap.size w w'
set_option maxRecDepth 100000 in
set_option maxHeartbeats 8000000 in
theorem bigs_exact_step (n : Nat) (ih : BigsE n) : BigsE (n + 1) := by
  intro k l a cap w hsz hk24 hsm h
  obtain ⟨d46, hu46, hr46⟩ := under46
  have hmx : Tryz.prog.follows .mixedOrders = true := by kernel_rfl
  obtain ⟨N, hN⟩ : ∃ N, l.length = N := ⟨_, rfl⟩
  have hc := h.1
  rw [hN] at hc hsm ⊢
  have HN := Lib.hid hN
  have HSZ := Lib.hid hsz
  have HE := Lib.hid (And.intro (Below.refl w.heap.size w) h)
  have HSM := Lib.hid hsm
  obtain ⟨D, hD⟩ : ∃ D, St.bigL (l.drop 0) 0 = D := ⟨_, rfl⟩
  rw [show St.bigL l 0 = D from hD]
  have HD : Hid (St.bigL (l.drop 0) 0 = D ∧ 0 ≤ 20000000000000) := Lib.hid ⟨hD, by omega⟩
  clear hsm hD
  clear hN hsz h
  go_enter Tryz.func43, Tryz.ntmps43
  go_wp2_with fail
  go_loopg [5, 6] N (fun x mv iv wr => ∃ i : Nat, i ≤ N ∧ x = N - i ∧ iv = .int .i64 (i : Int) ∧ (∃ m : Nat, mv = .int .i64 (m : Int) ∧ Hid (St.bigL (l.drop i) m = D ∧ m ≤ 20000000000000)) ∧ Hid (Below w.heap.size w wr ∧ SlAt wr a cap l))
  case atStart => exact ⟨0, Nat.zero_le _, rfl, rfl, ⟨0, rfl, HD⟩, HE⟩
  case round =>
    clear HE HD
    obtain ⟨i, hi, rfl, rfl, ⟨m, rfl, HM⟩, HE⟩ := hrel
    obtain ⟨hb1, h1⟩ := HE.out
    by_cases hiN : i < N
    · have hlt : (i : Int) < (N : Int) := by omega
      have hp0 : (0 : Int) ≤ (i : Int) := by omega
      have hroom2 : (i : Int) + 1 ≤ 9223372036854775807 := by
        have h1 := hc.1
        have h2 := hc.2
        omega
      by_cases hm : (m : Int) ≤ 3000
      · obtain ⟨s, hs⟩ : ∃ s, l[i]? = some s := ⟨_, List.getElem?_eq_getElem (by rw [HN.out]; exact hiN)⟩
        have hsz := size_at hs
        obtain ⟨b2, off2, rfl, hst⟩ := h1.at hs
        have hsd : l.getD i default = s := by rw [List.getD_eq_getElem?_getD, hs]; rfl
        have hsx := HSM.out i hiN
        rw [hsd] at hsx
        have hM := HM.out.1
        rw [sbigL_drop (by rw [HN.out]; exact hiN) (by omega), hsd] at hM
        have hbs := ssm_big _ _ hsx
        have hb24 := Nat.le_trans hbs (Nat.le_trans (sB_mono hk24) sB_24)
        obtain ⟨sk, sl, sc, sn, sw, sx, sy, sb, se, sid, ssl, sot, slo⟩ := s
        obtain ⟨p0, p1, p2, p3, p4, hx, hy, ⟨ab, capb, p19, hbody⟩, ae, cape, p20, hels⟩ := hst.parts
        obtain ⟨hzb, hze⟩ := body_lt sk sl sc sn sw sx sy sb se sid ssl sot slo
        have hszb : SizeOf.sizeOf sb < n := by have := HSZ.out; omega
        have hsze : SizeOf.sizeOf se < n := by have := HSZ.out; omega
        obtain ⟨cx, hrx, hlx, hLx⟩ := ExL.at0 hx
        obtain ⟨cy, hry, hly, hLy⟩ := ExL.at0 hy
        match k, hsx with
        | k + 1, hsx =>
        unfold St.sm at hsx
        obtain ⟨-, -, hxm, hym, hbm, hem⟩ := hsx
        have c1 := fun W hb => big_exact 24 sx cx W (by decide) (sm_depth hxm) hxm (hLx.below (w' := W) hb)
        have c2 := fun W hb => big_exact 24 sy cy W (by decide) (sm_depth hym) hym (hLy.below (w' := W) hb)
        have c3 := fun W hb => ih k sb ab capb W hszb (by omega) hbm (hbody.below (w' := W) hb)
        have c4 := fun W hb => ih k se ae cape W hsze (by omega) hem (hels.below (w' := W) hb)
        rw [St.big] at hM hb24
        obtain ⟨qx, hqx⟩ : ∃ q, sx.big = q := ⟨_, rfl⟩
        obtain ⟨qy, hqy⟩ : ∃ q, sy.big = q := ⟨_, rfl⟩
        obtain ⟨qb, hqb⟩ : ∃ q, St.bigL sb 0 = q := ⟨_, rfl⟩
        obtain ⟨qe, hqe⟩ : ∃ q, St.bigL se 0 = q := ⟨_, rfl⟩
        rw [hqx] at c1 hM hb24
        rw [hqy] at c2 hM hb24
        rw [hqb] at c3 hM hb24
        rw [hqe] at c4 hM hb24
        have g0 : (m : Int) + 1 ≤ 9223372036854775807 := by omega
        have g1 : (m : Int) + 1 + (sn.size : Int) ≤ 9223372036854775807 := by omega
        have g2 : (m : Int) + 1 + (sn.size : Int) + (sw.size : Int) ≤ 9223372036854775807 := by omega
        have g3 : (m : Int) + 1 + (sn.size : Int) + (sw.size : Int) + (qx : Int) ≤ 9223372036854775807 := by omega
        have g4 : (m : Int) + 1 + (sn.size : Int) + (sw.size : Int) + (qx : Int) + (qy : Int) ≤ 9223372036854775807 := by omega
        have g5 : (m : Int) + 1 + (sn.size : Int) + (sw.size : Int) + (qx : Int) + (qy : Int) + (qb : Int) ≤ 9223372036854775807 := by omega
        have g6 : (m : Int) + 1 + (sn.size : Int) + (sw.size : Int) + (qx : Int) + (qy : Int) + (qb : Int) + (qe : Int) ≤ 9223372036854775807 := by omega
        have HM2 : Hid (St.bigL (l.drop (i + 1)) (m + (1 + sn.size + sw.size + qx + qy + qb + qe)) = D ∧ m + (1 + sn.size + sw.size + qx + qy + qb + qe) ≤ 20000000000000) := Lib.hid ⟨hM, by omega⟩
        have HQ := Lib.hid (And.intro hqx hqy)
        clear hM hbs hb24 hqx hqy hqb hqe hsd HM hxm hym hbm hem
        have hrB : ∀ W, Below wr.heap.size wr W → W.cell? ⟨b2, off2 + i * 25 + 3, none⟩ = some (.string sn) ∧ W.cell? ⟨b2, off2 + i * 25 + 4, none⟩ = some (.string sw) ∧ W.rangeAt b2 (off2 + i * 25 + 5) cx ∧ W.rangeAt b2 (off2 + i * 25 + 12) cy ∧ W.cell? ⟨b2, off2 + i * 25 + 19, none⟩ = some (.slice ab sb.length capb) ∧ W.cell? ⟨b2, off2 + i * 25 + 20, none⟩ = some (.slice ae se.length cape) := fun W hb => by
          have hk : ∀ (b o : Nat) (v : Value), wr.cell? ⟨b, o, none⟩ = some v → W.cell? ⟨b, o, none⟩ = some v := fun b o v hv => by rw [← hv]; simp [World.cell?, hb.block b (World.block_lt_of_cell? wr _ hv)]
          exact ⟨hk _ _ _ p3, hk _ _ _ p4, fun j v hv => hk _ _ _ (hrx j v hv), fun j v hv => hk _ _ _ (hry j v hv), hk _ _ _ p19, hk _ _ _ p20⟩
        have HCL := Lib.hid (And.intro c1 (And.intro c2 (And.intro c3 c4)))
        have HB := Lib.hid (And.intro hb1 h1)
        have HRB := Lib.hid hrB
        clear hst hs hsz hb1 h1 HE p0 p1 p2 p3 p4 p19 p20 hx hy hbody hels hLx hLy hrx hry hzb hze hszb hsze c1 c2 c3 c4 hrB
        go_wp2_with fail
        refine wp_region_x [] (fun W => Below wr.heap.size wr W) hmx ?_
        have HS0 : Hid (Below wr.heap.size wr wr.drew) := Lib.hid ((Below.refl _ wr).drew)
        obtain ⟨w0, hw0⟩ : ∃ w0, wr.drew = w0 := ⟨_, rfl⟩
        rw [hw0] at HS0 ⊢
        clear hw0
        refine wpX_takeD 0 (some 18) (v := ?q2v0) rfl rfl (by kernel_rfl) (fun _ _ _ h => h) HS0.out (Or.inl ⟨by rfl, ?q2h0⟩) ?_
        case q2h0 =>
          intro W1 hS1
          clear hS1
          go_simp
          first | with_reducible rfl | rw [if_neg (by omega)]
        refine wpX_takeD 1 (some 19) (v := ?q2v1) rfl rfl (by kernel_rfl) (fun _ _ _ h => h) HS0.out (Or.inl ⟨by rfl, ?q2h1⟩) ?_
        case q2h1 =>
          intro W1 hS1
          clear hS1
          go_simp
          first | with_reducible rfl | rw [if_neg (by omega)]
        refine wpX_takeD 2 (some 20) (v := ?q2v2) rfl rfl (by kernel_rfl) (fun _ _ _ h => h) HS0.out (Or.inl ⟨by rfl, ?q2h2⟩) ?_
        case q2h2 =>
          intro W1 hS1
          clear hS1
          go_simp
          first | with_reducible rfl | rw [if_neg (by omega)]
        refine wpX_takeD 3 (some 21) (v := ?q2v3) rfl rfl (by kernel_rfl) (fun _ _ _ h => h) HS0.out (Or.inl ⟨by rfl, ?q2h3⟩) ?_
        case q2h3 =>
          intro W1 hS1
          clear hS1
          go_simp
          first | with_reducible rfl | rw [if_neg (by omega)]
        simp only [Act.put, List.setIfInBounds_toArray, List.set_cons_zero, List.set_cons_succ]
        refine wpX_takeD 4 (some 22) (v := ?q2v4) rfl rfl (by kernel_rfl) (fun _ _ _ h => h) HS0.out (Or.inl ⟨by rfl, ?q2h4⟩) ?_
        case q2h4 =>
          intro W1 hS1
          clear hS1
          go_simp
          first | with_reducible rfl | rw [if_neg (by omega)]
        refine wpX_takeD 5 (some 23) (v := ?q2v5) rfl rfl (by kernel_rfl) (fun _ _ _ h => h) HS0.out (Or.inl ⟨by rfl, ?q2h5⟩) ?_
        case q2h5 =>
          intro W1 hS1
          clear hS1
          go_simp
          first | with_reducible rfl | rw [if_neg (by omega)]
        refine wpX_takeD 6 (some 24) (v := ?q2v6) rfl rfl (by kernel_rfl) (fun _ _ _ h => h) HS0.out (Or.inl ⟨by rfl, ?q2h6⟩) ?_
        case q2h6 =>
          intro W1 hS1
          obtain ⟨f3, f4, -, -, f19, f20⟩ := HRB.out W1 hS1
          clear hS1
          go_simp
          first | with_reducible rfl | rw [if_neg (by omega)]
        refine wpX_takeD 7 (some 25) (v := ?q2v7) rfl rfl (by kernel_rfl) (fun _ _ _ h => h) HS0.out (Or.inl ⟨by rfl, ?q2h7⟩) ?_
        case q2h7 =>
          intro W1 hS1
          clear hS1
          go_simp
          first | with_reducible rfl | rw [if_neg (by omega)]
        simp only [Act.put, List.setIfInBounds_toArray, List.set_cons_zero, List.set_cons_succ]
        refine wpX_takeD 8 (some 26) (v := ?q2v8) rfl rfl (by kernel_rfl) (fun _ _ _ h => h) HS0.out (Or.inl ⟨by rfl, ?q2h8⟩) ?_
        case q2h8 =>
          intro W1 hS1
          clear hS1
          go_simp
          first | with_reducible rfl | rw [if_neg (by omega)]
        refine wpX_takeD 9 (some 27) (v := ?q2v9) rfl rfl (by kernel_rfl) (fun _ _ _ h => h) HS0.out (Or.inl ⟨by rfl, ?q2h9⟩) ?_
        case q2h9 =>
          intro W1 hS1
          clear hS1
          go_simp
          first | with_reducible rfl | rw [if_neg (by omega)]
        refine wpX_takeD 10 (some 28) (v := ?q2v10) rfl rfl (by kernel_rfl) (fun _ _ _ h => h) HS0.out (Or.inl ⟨by rfl, ?q2h10⟩) ?_
        case q2h10 =>
          intro W1 hS1
          clear hS1
          go_simp
          first | with_reducible rfl | rw [if_neg (by omega)]
        refine wpX_takeD 11 (some 29) (v := ?q2v11) rfl rfl (by kernel_rfl) (fun _ _ _ h => h) HS0.out (Or.inl ⟨by rfl, ?q2h11⟩) ?_
        case q2h11 =>
          intro W1 hS1
          clear hS1
          go_simp
          first | with_reducible rfl | rw [if_neg (by omega)]
        simp only [Act.put, List.setIfInBounds_toArray, List.set_cons_zero, List.set_cons_succ]
        refine wpX_takeD 12 (some 30) (v := ?q2v12) rfl rfl (by kernel_rfl) (fun _ _ _ h => h) HS0.out (Or.inl ⟨by rfl, ?q2h12⟩) ?_
        case q2h12 =>
          intro W1 hS1
          clear hS1
          go_simp
          first | with_reducible rfl | rw [if_neg (by omega)]
        refine wpX_takeD 13 (some 31) (v := ?q2v13) rfl rfl (by kernel_rfl) (fun _ _ _ h => h) HS0.out (Or.inl ⟨by rfl, ?q2h13⟩) ?_
        case q2h13 =>
          intro W1 hS1
          obtain ⟨f3, f4, -, -, f19, f20⟩ := HRB.out W1 hS1
          clear hS1
          go_simp
          first | with_reducible rfl | rw [if_neg (by omega)]
        refine wpX_takeD 14 (some 32) (v := ?q2v14) rfl rfl (by kernel_rfl) (fun _ _ _ h => h) HS0.out (Or.inl ⟨by rfl, ?q2h14⟩) ?_
        case q2h14 =>
          intro W1 hS1
          clear hS1
          go_simp
          first | with_reducible rfl | rw [if_neg (by omega)]
        refine wpX_takeD 15 (some 33) (v := ?q2v15) rfl rfl (by kernel_rfl) (fun _ _ _ h => h) HS0.out (Or.inl ⟨by rfl, ?q2h15⟩) ?_
        case q2h15 =>
          intro W1 hS1
          clear hS1
          go_simp
          first | with_reducible rfl | rw [if_neg (by omega)]
        simp only [Act.put, List.setIfInBounds_toArray, List.set_cons_zero, List.set_cons_succ]
        refine wpX_takeD 16 (some 34) (v := ?q2v16) rfl rfl (by kernel_rfl) (fun _ _ _ h => h) HS0.out (Or.inl ⟨by rfl, ?q2h16⟩) ?_
        case q2h16 =>
          intro W1 hS1
          clear hS1
          go_simp
          first | with_reducible rfl | rw [if_neg (by omega)]
        refine wpX_takeD 17 (some 35) (v := ?q2v17) rfl rfl (by kernel_rfl) (fun _ _ _ h => h) HS0.out (Or.inl ⟨by rfl, ?q2h17⟩) ?_
        case q2h17 =>
          intro W1 hS1
          clear hS1
          go_simp
          first | with_reducible rfl | rw [if_neg (by omega)]
        refine wpX_takeD 18 (some 36) (v := ?q2v18) rfl rfl (by kernel_rfl) (fun _ _ _ h => h) HS0.out (Or.inl ⟨by rfl, ?q2h18⟩) ?_
        case q2h18 =>
          intro W1 hS1
          clear hS1
          go_simp
          first | with_reducible rfl | rw [if_neg (by omega)]
        refine wpX_takeD 19 (some 37) (v := ?q2v19) rfl rfl (by kernel_rfl) (fun _ _ _ h => h) HS0.out (Or.inl ⟨by rfl, ?q2h19⟩) ?_
        case q2h19 =>
          intro W1 hS1
          clear hS1
          go_simp
          first | with_reducible rfl | rw [if_neg (by omega)]
        simp only [Act.put, List.setIfInBounds_toArray, List.set_cons_zero, List.set_cons_succ]
        refine wpX_takeD 20 (some 38) (v := .agg cx.toArray) rfl rfl (by kernel_rfl) (fun _ _ _ h => h) HS0.out (yieldsIf_load_mid (by rfl) 46 (.tmp 37) rfl b2 (off2 + i * 25 + 5) rfl cx d46 (fun W1 hS1 => (HRB.out W1 hS1).2.2.1) hu46 hr46 (by rw [hlx]; exact info46)) ?_
        refine wpX_takeD 21 (some 39) (v := ?q2v21) rfl rfl (by kernel_rfl) (fun _ _ _ h => h) HS0.out (Or.inl ⟨by rfl, ?q2h21⟩) ?_
        case q2h21 =>
          intro W1 hS1
          clear hS1
          go_simp
          first | with_reducible rfl | rw [if_neg (by omega)]
        refine wpX_takeD 24 (some 42) (v := ?q2v24) rfl rfl (by kernel_rfl) (fun _ _ _ h => h) HS0.out (Or.inl ⟨by rfl, ?q2h24⟩) ?_
        case q2h24 =>
          intro W1 hS1
          clear hS1
          go_simp
          first | with_reducible rfl | rw [if_neg (by omega)]
        refine wpX_takeD 25 (some 43) (v := ?q2v25) rfl rfl (by kernel_rfl) (fun _ _ _ h => h) HS0.out (Or.inl ⟨by rfl, ?q2h25⟩) ?_
        case q2h25 =>
          intro W1 hS1
          clear hS1
          go_simp
          first | with_reducible rfl | rw [if_neg (by omega)]
        simp only [Act.put, List.setIfInBounds_toArray, List.set_cons_zero, List.set_cons_succ]
        refine wpX_takeD 26 (some 44) (v := ?q2v26) rfl rfl (by kernel_rfl) (fun _ _ _ h => h) HS0.out (Or.inl ⟨by rfl, ?q2h26⟩) ?_
        case q2h26 =>
          intro W1 hS1
          clear hS1
          go_simp
          first | with_reducible rfl | rw [if_neg (by omega)]
        refine wpX_takeD 27 (some 45) (v := ?q2v27) rfl rfl (by kernel_rfl) (fun _ _ _ h => h) HS0.out (Or.inl ⟨by rfl, ?q2h27⟩) ?_
        case q2h27 =>
          intro W1 hS1
          clear hS1
          go_simp
          first | with_reducible rfl | rw [if_neg (by omega)]
        refine wpX_takeD 28 (some 46) (v := .agg cy.toArray) rfl rfl (by kernel_rfl) (fun _ _ _ h => h) HS0.out (yieldsIf_load_mid (by rfl) 46 (.tmp 45) rfl b2 (off2 + i * 25 + 12) rfl cy d46 (fun W1 hS1 => (HRB.out W1 hS1).2.2.2.1) hu46 hr46 (by rw [hly]; exact info46)) ?_
        refine wpX_takeD 29 (some 47) (v := ?q2v29) rfl rfl (by kernel_rfl) (fun _ _ _ h => h) HS0.out (Or.inl ⟨by rfl, ?q2h29⟩) ?_
        case q2h29 =>
          intro W1 hS1
          clear hS1
          go_simp
          first | with_reducible rfl | rw [if_neg (by omega)]
        simp only [Act.put, List.setIfInBounds_toArray, List.set_cons_zero, List.set_cons_succ]
        refine wpX_takeD 32 (some 50) (v := ?q2v32) rfl rfl (by kernel_rfl) (fun _ _ _ h => h) HS0.out (Or.inl ⟨by rfl, ?q2h32⟩) ?_
        case q2h32 =>
          intro W1 hS1
          clear hS1
          go_simp
          first | with_reducible rfl | rw [if_neg (by omega)]
        refine wpX_takeD 33 (some 51) (v := ?q2v33) rfl rfl (by kernel_rfl) (fun _ _ _ h => h) HS0.out (Or.inl ⟨by rfl, ?q2h33⟩) ?_
        case q2h33 =>
          intro W1 hS1
          clear hS1
          go_simp
          first | with_reducible rfl | rw [if_neg (by omega)]
        refine wpX_takeD 34 (some 52) (v := ?q2v34) rfl rfl (by kernel_rfl) (fun _ _ _ h => h) HS0.out (Or.inl ⟨by rfl, ?q2h34⟩) ?_
        case q2h34 =>
          intro W1 hS1
          clear hS1
          go_simp
          first | with_reducible rfl | rw [if_neg (by omega)]
        refine wpX_takeD 35 (some 53) (v := ?q2v35) rfl rfl (by kernel_rfl) (fun _ _ _ h => h) HS0.out (Or.inl ⟨by rfl, ?q2h35⟩) ?_
        case q2h35 =>
          intro W1 hS1
          clear hS1
          go_simp
          first | with_reducible rfl | rw [if_neg (by omega)]
        simp only [Act.put, List.setIfInBounds_toArray, List.set_cons_zero, List.set_cons_succ]
        refine wpX_takeD 36 (some 54) (v := ?q2v36) rfl rfl (by kernel_rfl) (fun _ _ _ h => h) HS0.out (Or.inl ⟨by rfl, ?q2h36⟩) ?_
        case q2h36 =>
          intro W1 hS1
          obtain ⟨f3, f4, -, -, f19, f20⟩ := HRB.out W1 hS1
          clear hS1
          go_simp
          first | with_reducible rfl | rw [if_neg (by omega)]
        refine wpX_takeD 37 (some 55) (v := ?q2v37) rfl rfl (by kernel_rfl) (fun _ _ _ h => h) HS0.out (Or.inl ⟨by rfl, ?q2h37⟩) ?_
        case q2h37 =>
          intro W1 hS1
          clear hS1
          go_simp
          first | with_reducible rfl | rw [if_neg (by omega)]
        refine wpX_takeD 40 (some 58) (v := ?q2v40) rfl rfl (by kernel_rfl) (fun _ _ _ h => h) HS0.out (Or.inl ⟨by rfl, ?q2h40⟩) ?_
        case q2h40 =>
          intro W1 hS1
          clear hS1
          go_simp
          first | with_reducible rfl | rw [if_neg (by omega)]
        refine wpX_takeD 41 (some 59) (v := ?q2v41) rfl rfl (by kernel_rfl) (fun _ _ _ h => h) HS0.out (Or.inl ⟨by rfl, ?q2h41⟩) ?_
        case q2h41 =>
          intro W1 hS1
          clear hS1
          go_simp
          first | with_reducible rfl | rw [if_neg (by omega)]
        simp only [Act.put, List.setIfInBounds_toArray, List.set_cons_zero, List.set_cons_succ]
        refine wpX_takeD 42 (some 60) (v := ?q2v42) rfl rfl (by kernel_rfl) (fun _ _ _ h => h) HS0.out (Or.inl ⟨by rfl, ?q2h42⟩) ?_
        case q2h42 =>
          intro W1 hS1
          clear hS1
          go_simp
          first | with_reducible rfl | rw [if_neg (by omega)]
        refine wpX_takeD 43 (some 61) (v := ?q2v43) rfl rfl (by kernel_rfl) (fun _ _ _ h => h) HS0.out (Or.inl ⟨by rfl, ?q2h43⟩) ?_
        case q2h43 =>
          intro W1 hS1
          clear hS1
          go_simp
          first | with_reducible rfl | rw [if_neg (by omega)]
        refine wpX_takeD 44 (some 62) (v := ?q2v44) rfl rfl (by kernel_rfl) (fun _ _ _ h => h) HS0.out (Or.inl ⟨by rfl, ?q2h44⟩) ?_
        case q2h44 =>
          intro W1 hS1
          obtain ⟨f3, f4, -, -, f19, f20⟩ := HRB.out W1 hS1
          clear hS1
          go_simp
          first | with_reducible rfl | rw [if_neg (by omega)]
        refine wpX_takeD 45 (some 63) (v := ?q2v45) rfl rfl (by kernel_rfl) (fun _ _ _ h => h) HS0.out (Or.inl ⟨by rfl, ?q2h45⟩) ?_
        case q2h45 =>
          intro W1 hS1
          clear hS1
          go_simp
          first | with_reducible rfl | rw [if_neg (by omega)]
        simp only [Act.put, List.setIfInBounds_toArray, List.set_cons_zero, List.set_cons_succ]
        refine wpX_one 22 (by kernel_rfl) rfl (fun K hK => ?_)
        go_simp
        refine (HCL.out.1 w0 HS0.out).mono ?_
        rintro e w1 ⟨rfl, hbc⟩
        have HS1 : Hid (Below wr.heap.size wr w1) := Lib.hid (HS0.out.trans (hbc.mono HS0.out.size))
        refine hK _ _ (fun _ => HS1.out) ?_
        clear hK K hbc HS0
        refine wpX_takeD 23 (some 41) (v := ?q2v23) rfl rfl (by kernel_rfl) (fun _ _ _ h => h) HS1.out (Or.inl ⟨by rfl, ?q2h23⟩) ?_
        case q2h23 =>
          intro W1 hS1
          clear hS1
          go_simp
          first | with_reducible rfl | rw [if_neg (by omega)]
        simp only [Act.put, List.setIfInBounds_toArray, List.set_cons_zero, List.set_cons_succ]
        refine wpX_one 30 (by kernel_rfl) rfl (fun K hK => ?_)
        go_simp
        refine (HCL.out.2.1 w1 HS1.out).mono ?_
        rintro e w2 ⟨rfl, hbc⟩
        have HS2 : Hid (Below wr.heap.size wr w2) := Lib.hid (HS1.out.trans (hbc.mono HS1.out.size))
        refine hK _ _ (fun _ => HS2.out) ?_
        clear hK K hbc HS1
        refine wpX_takeD 31 (some 49) (v := ?q2v31) rfl rfl (by kernel_rfl) (fun _ _ _ h => h) HS2.out (Or.inl ⟨by rfl, ?q2h31⟩) ?_
        case q2h31 =>
          intro W1 hS1
          clear hS1
          go_simp
          first | with_reducible rfl | rw [if_neg (by omega)]
        simp only [Act.put, List.setIfInBounds_toArray, List.set_cons_zero, List.set_cons_succ]
        refine wpX_one 38 (by kernel_rfl) rfl (fun K hK => ?_)
        go_simp
        refine (HCL.out.2.2.1 w2 HS2.out).mono ?_
        rintro e w3 ⟨rfl, hbc⟩
        have HS3 : Hid (Below wr.heap.size wr w3) := Lib.hid (HS2.out.trans (hbc.mono HS2.out.size))
        refine hK _ _ (fun _ => HS3.out) ?_
        clear hK K hbc HS2
        refine wpX_takeD 39 (some 57) (v := ?q2v39) rfl rfl (by kernel_rfl) (fun _ _ _ h => h) HS3.out (Or.inl ⟨by rfl, ?q2h39⟩) ?_
        case q2h39 =>
          intro W1 hS1
          clear hS1
          go_simp
          first | with_reducible rfl | rw [if_neg (by omega)]
        simp only [Act.put, List.setIfInBounds_toArray, List.set_cons_zero, List.set_cons_succ]
        refine wpX_one 46 (by kernel_rfl) rfl (fun K hK => ?_)
        go_simp
        refine (HCL.out.2.2.2 w3 HS3.out).mono ?_
        rintro e w4 ⟨rfl, hbc⟩
        have HS4 : Hid (Below wr.heap.size wr w4) := Lib.hid (HS3.out.trans (hbc.mono HS3.out.size))
        refine hK _ _ (fun _ => HS4.out) ?_
        clear hK K hbc HS3
        refine wpX_takeD 47 (some 65) (v := ?q2v47) rfl rfl (by kernel_rfl) (fun _ _ _ h => h) HS4.out (Or.inl ⟨by rfl, ?q2h47⟩) ?_
        case q2h47 =>
          intro W1 hS1
          clear hS1
          go_simp
          first | with_reducible rfl | rw [if_neg (by omega)]
        simp only [Act.put, List.setIfInBounds_toArray, List.set_cons_zero, List.set_cons_succ]
        refine wpX_takeD 48 (some 5) (v := ?q2v48) rfl rfl (by kernel_rfl) (fun _ _ _ h => h) HS4.out (Or.inl ⟨by rfl, ?q2h48⟩) ?_
        case q2h48 =>
          intro W1 hS1
          clear hS1
          go_simp
          first | with_reducible rfl | rw [if_neg (by omega)]
        simp only [Act.put, List.setIfInBounds_toArray, List.set_cons_zero, List.set_cons_succ]
        refine wpX_done (by kernel_rfl) ?_ _
        have HE2 := Lib.hid (And.intro (HB.out.1.trans (HS4.out.mono HB.out.1.size)) (HB.out.2.below HS4.out))
        clear HCL HRB HB HS4
        go_wp2_with fail
        go_roundg (N - (i + 1))
        case measure => omega
        case rel => exact ⟨i + 1, by omega, rfl, rfl, ⟨m + (1 + sn.size + sw.size + qx + qy + qb + qe), congrArg (Value.int .i64) (by rw [IntWalk.i64_in ((m : Int) + 1) (by omega), IntWalk.i64_in ((m : Int) + 1 + (sn.size : Int)) (by omega), IntWalk.i64_in ((m : Int) + 1 + (sn.size : Int) + (sw.size : Int)) (by omega), IntWalk.i64_in ((m : Int) + 1 + (sn.size : Int) + (sw.size : Int) + (qx : Int)) (by omega), IntWalk.i64_in ((m : Int) + 1 + (sn.size : Int) + (sw.size : Int) + (qx : Int) + (qy : Int)) (by omega), IntWalk.i64_in ((m : Int) + 1 + (sn.size : Int) + (sw.size : Int) + (qx : Int) + (qy : Int) + (qb : Int)) (by omega), IntWalk.i64_in ((m : Int) + 1 + (sn.size : Int) + (sw.size : Int) + (qx : Int) + (qy : Int) + (qb : Int) + (qe : Int)) (by omega)]; omega), HM2⟩, HE2⟩
      · clear h1 HE
        have hmD : m = D := by rw [← HM.out.1, sbigL_gt (by omega)]
        subst hmD
        clear HM
        go_wp2_with fail
        go_ret
        exact ⟨rfl, hb1⟩
    · obtain rfl : i = N := by omega
      have hlt : ¬ (i : Int) < (i : Int) := by omega
      clear h1 HE
      have hmD : m = D := by rw [← HM.out.1, List.drop_eq_nil_of_le (by rw [HN.out]; exact Nat.le_refl _), St.bigL]
      subst hmD
      clear HM
      go_wp2_with fail
      go_ret
      exact ⟨rfl, hb1⟩
theorem bigs_exact : ∀ n, BigsE n
  | 0 => fun _ _ _ _ _ h => absurd h (Nat.not_lt_zero _)
  | n + 1 => bigs_exact_step n (bigs_exact n)
end Go.Proofs.YtjmlmelcppbefaaGreatDoor
