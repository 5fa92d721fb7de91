/- The document's text of a statement that may be, by its kind. Asked: strconv's table is laid; the statement lies in memory. -/
import Derived.Test.YtjmlmelcppbefaaGreatDoorV2
import Derived.Test.YtjmlmelcppbefaaGreatDoorT44
set_option maxRecDepth 100000
namespace Go.Proofs.YtjmlmelcppbefaaGreatDoor
open Go.RowKit Go.Maps
def RB (w0 : World) (d : Nat) : Prop := ∀ (l : List St) (a : Option Addr) (cap ind : Nat) (W : World), stsR isName l d = true → ind + 1 ≤ d → SlAt w0 a cap l → Below w0.heap.size w0 W → (blockT l ind).length ≤ 70368744177664 →
 Calls Tryz.prog 50 #[.slice a l.length cap, .int .i64 (ind : Int)] W fun e w' => e = .returned (.string (bS (blockT l ind))) ∧ Below W.heap.size W w'
def RL (w0 : World) (d : Nat) : Prop := ∀ (s : St) (cs : List Value) (ind : Nat) (W : World), stR isName s d = true → ind ≤ d → StL (fun _ => True) w0 cs s → Below w0.heap.size w0 W → (stT s ind).length ≤ 70368744177664 →
 Calls Tryz.prog 101 #[.agg cs.toArray, .int .i64 (ind : Int)] W fun e w' => e = .returned (.string (bS (stT s ind))) ∧ Below W.heap.size W w'
theorem name_16b {c : Prop} [Decidable c] {s : ByteArray} (h : (if c then isName s else decide (s = noB)) = true) : s.size ≤ 16 := by
 split at h
 ·unfold isName at h
  simp only [Bool.and_eq_true, decide_eq_true_eq] at h
  exact h.2.1
 ·simp only [decide_eq_true_eq] at h
  subst h
  decide
theorem stR_names {k l c : Int} {s t : ByteArray} {x y : Ex} {body els : List St} {id sl ot : Int} {lo : Bool} {d : Nat} (h : stR isName (.mk k l c s t x y body els id sl ot lo) d = true) : s.size ≤ 16 ∧ t.size ≤ 16 := by
 unfold stR at h
 simp only [Bool.and_eq_true] at h
 exact ⟨name_16b h.2.2.1, name_16b h.2.2.2.1⟩
theorem Stz.below {w0 V V' : World} {z : Nat} {s : St} (h : Stz w0 V z s) (hb : Below V.heap.size V V') : Stz w0 V' z s := by
 obtain ⟨cs, h1, h2, h3⟩ := h.cs
 exact ⟨cs, h1.below hb, h2, h3⟩
variable {w0 W : World} {cs : List Value} {l c : Int} {s t : ByteArray} {x y : Ex} {body els : List St} {id sl ot : Int} {lo : Bool} {ind d : Nat}
set_option maxHeartbeats 4000000 in
theorem rl1 (hT : Tab w0) (h7 : 7 < w0.heap.size) (hR : stR isName (.mk 1 l c s t x y body els id sl ot lo) d = true) (hL : StL (fun _ => True) w0 cs (.mk 1 l c s t x y body els id sl ot lo)) (hw : Below w0.heap.size w0 W) (hlen : (stT (.mk 1 l c s t x y body els id sl ot lo) ind).length ≤ 70368744177664) :
  Calls Tryz.prog 101 #[.agg cs.toArray, .int .i64 (ind : Int)] W fun e w' => e = .returned (.string (bS (stT (.mk 1 l c s t x y body els id sl ot lo) ind))) ∧ Below W.heap.size W w' := by
 obtain ⟨d46, hu46, hr46⟩ := under46
 have hmx : Tryz.prog.follows .mixedOrders = true := by kernel_rfl
 obtain ⟨hs16, ht16⟩ := stR_names hR
 have hinv := stR_inv hR
 have hxR := hinv.2.1 (by decide)
 obtain ⟨tx, htx⟩ : ∃ tx, bS (exT x) = tx := ⟨_, rfl⟩
 have hXl : (exT x).length ≤ 70368744177664 := by
  have := hlen
  simp [stT] at this
  omega
 have hXs : tx.size ≤ 70368744177664 := by rw [← htx, bS_size]; exact hXl
 have hres : bS (stT (.mk 1 l c s t x y body els id sl ot lo) ind) = ⟨#[108, 101, 116, 32]⟩ ++ s ++ ⟨#[32, 61, 32]⟩ ++ tx ++ ⟨#[59]⟩ := by
  rw [← htx]
  exact ba_ext (by simp [stT, bS])
 rw [hres]
 have hl25 := hL.cells.1
 have hb0 : Below W.heap.size W (W.alloc (.cells cs.toArray 64)) := (Below.refl _ W).alloc (Nat.le_refl _) _
 have HZ : Hid (Stz w0 (W.alloc (.cells cs.toArray 64)) W.heap.size (.mk 1 l c s t x y body els id sl ot lo)) := Lib.hid ⟨cs, Blk.new W 64 cs, hl25, hL⟩
 have HB := Lib.hid hb0
 have HW := Lib.hid hw
 have hXc := fun (V : World) (cx : List Value) hb (hLx : ExL (fun _ => True) w0 cx x) => rx_all 24 x cx V (Tab.below hT hb (by omega)) (Nat.lt_of_lt_of_le h7 hb.size) hxR (hLx.below (w' := V) hb) hXl
 rw [htx] at hXc
 have HXC := Lib.hid hXc
 clear hl25 hL hb0 hw hT h7 hinv hR hlen hres hXc htx hXl hxR
 go_enter Tryz.func101, Tryz.ntmps101
 refine wp_seq_k fun K hK => ?_
 have HK := Lib.hid hK
 clear hK
 go_wp2_with fail
 refine HK.out _ _ ?_
 clear HK K
 obtain ⟨z, hzz⟩ : ∃ z, W.heap.size = z := ⟨_, rfl⟩
 rw [hzz] at HZ
 have HB : Hid (Below W.heap.size W (W.alloc (.cells cs.toArray 64))) := HB
 generalize W.alloc (.cells cs.toArray 64) = V0 at *
 rw [hzz]
 have hp0 := HZ.out.parts.1
 go_wp2_with fail
 refine (rkinds_any _).mono ?_
 rintro e V1 ⟨g, rfl, -, hst, hb1⟩
 have hk0 := hst.cell 1
 rw [show stV[1]? = some (.string ⟨#[108, 101, 116]⟩) from rfl] at hk0
 have HB1 := Lib.hid (HB.out.trans (hb1.mono HB.out.size))
 have HZ1 := Lib.hid (HZ.out.below hb1)
 clear hb1 hst hp0 HB HZ
 obtain ⟨p0, p3, p4, ⟨cx, rx, lx, hLx⟩, ⟨cy, ry, ly, hLy⟩, ⟨ab, capb, p19, hbody⟩, ae, cape, p20, hels⟩ := HZ1.out.parts
 have hbw := HW.out.trans (HB1.out.mono HW.out.size)
 have hrB : ∀ Wx, Below V1.heap.size V1 Wx → Wx.cell? ⟨z, 3, none⟩ = some (.string s) ∧ Wx.rangeAt z 5 cx ∧ Wx.rangeAt z 12 cy ∧ Wx.cell? ⟨z, 19, none⟩ = some (.slice ab body.length capb) ∧ Wx.cell? ⟨z, 20, none⟩ = some (.slice ae els.length cape) := fun Wx hb => by
  have hk : ∀ (b o : Nat) (v : Value), V1.cell? ⟨b, o, none⟩ = some v → Wx.cell? ⟨b, o, none⟩ = some v := fun b o v hv => by rw [← hv]; simp [World.cell?, hb.block b (World.block_lt_of_cell? V1 _ hv)]
  exact ⟨hk _ _ _ p3, fun j v hv => hk _ _ _ (rx j v hv), fun j v hv => hk _ _ _ (ry j v hv), hk _ _ _ p19, hk _ _ _ p20⟩
 have HRB := Lib.hid hrB
 have HLX := Lib.hid (And.intro hLx (And.intro hLy (And.intro hbody (And.intro hels hbw))))
 clear hrB rx ry hLx hLy hbody hels hbw p19 p4 p3 p20
 go_wp2_with fail
 refine wp_region_x [] (fun W => Below V1.heap.size V1 W) hmx ?_
 have HS0 : Hid (Below V1.heap.size V1 V1.drew) := Lib.hid ((Below.refl _ V1).drew)
 obtain ⟨w0, hw0⟩ : ∃ w0, V1.drew = w0 := ⟨_, rfl⟩
 rw [hw0] at HS0 ⊢
 clear hw0
 refine wpX_takeD 0 (some 16) (v := ?q1v0) rfl rfl (by kernel_rfl) (fun _ _ _ h => h) HS0.out (Or.inl ⟨by rfl, ?q1h0⟩) ?_
 case q1h0 =>
  intro W1 hS1
  clear hS1
  go_simp
  first | with_reducible rfl | rw [if_neg (by omega)]
 refine wpX_takeD 1 (some 17) (v := ?q1v1) rfl rfl (by kernel_rfl) (fun _ _ _ h => h) HS0.out (Or.inl ⟨by rfl, ?q1h1⟩) ?_
 case q1h1 =>
  intro W1 hS1
  obtain ⟨f3, -, -, f19, f20⟩ := HRB.out W1 hS1
  clear hS1
  go_simp
  first | with_reducible rfl | rw [if_neg (by omega)]
 refine wpX_takeD 2 (some 18) (v := ?q1v2) rfl rfl (by kernel_rfl) (fun _ _ _ h => h) HS0.out (Or.inl ⟨by rfl, ?q1h2⟩) ?_
 case q1h2 =>
  intro W1 hS1
  clear hS1
  go_simp
  first | with_reducible rfl | rw [if_neg (by omega)]
 refine wpX_takeD 3 (some 19) (v := ?q1v3) rfl rfl (by kernel_rfl) (fun _ _ _ h => h) HS0.out (Or.inl ⟨by rfl, ?q1h3⟩) ?_
 case q1h3 =>
  intro W1 hS1
  clear hS1
  go_simp
  first | with_reducible rfl | rw [if_neg (by omega)]
 simp only [Act.put, List.setIfInBounds_toArray, List.set_cons_zero, List.set_cons_succ]
 refine wpX_takeD 4 (some 20) (v := ?q1v4) rfl rfl (by kernel_rfl) (fun _ _ _ h => h) HS0.out (Or.inl ⟨by rfl, ?q1h4⟩) ?_
 case q1h4 =>
  intro W1 hS1
  clear hS1
  go_simp
  first | with_reducible rfl | rw [if_neg (by omega)]
 refine wpX_takeD 5 (some 21) (v := .agg cx.toArray) rfl rfl (by kernel_rfl) (fun _ _ _ h => h) HS0.out (yieldsIf_load_mid (by rfl) 46 (.tmp 20) rfl z 5 rfl cx d46 (fun Wx hSx => (HRB.out Wx hSx).2.1) hu46 hr46 (by rw [lx]; exact info46)) ?_
 simp only [Act.put, List.setIfInBounds_toArray, List.set_cons_zero, List.set_cons_succ]
 refine wpX_one 6 (by kernel_rfl) rfl (fun K hK => ?_)
 go_simp
 refine (HXC.out w0 cx (HLX.out.2.2.2.2.trans (HS0.out.mono HLX.out.2.2.2.2.size)) HLX.out.1).mono ?_
 rintro e v6 ⟨rfl, hbc⟩
 have HS1 : Hid (Below V1.heap.size V1 v6) := Lib.hid (HS0.out.trans (hbc.mono HS0.out.size))
 refine hK _ _ (fun _ => HS1.out) ?_
 clear hK K hbc HS0
 refine wpX_takeD 7 (some 23) (v := ?q1v7) rfl rfl (by kernel_rfl) (fun _ _ _ h => h) HS1.out (Or.inl ⟨by rfl, ?q1h7⟩) ?_
 case q1h7 =>
  intro W1 hS1
  clear hS1
  go_simp
  first | with_reducible rfl | rw [if_neg (by omega)]
 refine wpX_takeD 8 (some 24) (v := ?q1v8) rfl rfl (by kernel_rfl) (fun _ _ _ h => h) HS1.out (Or.inl ⟨by rfl, ?q1h8⟩) ?_
 case q1h8 =>
  intro W1 hS1
  clear hS1
  go_simp
  first | with_reducible rfl | rw [if_neg (by omega)]
 simp only [Act.put, List.setIfInBounds_toArray, List.set_cons_zero, List.set_cons_succ]
 refine wpX_takeD 9 (some 4) (v := ?q1v9) rfl rfl (by kernel_rfl) (fun _ _ _ h => h) HS1.out (Or.inl ⟨by rfl, ?q1h9⟩) ?_
 case q1h9 =>
  intro W1 hS1
  clear hS1
  go_simp
  first | with_reducible rfl | rw [if_neg (by omega)]
 simp only [Act.put, List.setIfInBounds_toArray, List.set_cons_zero, List.set_cons_succ]
 refine wpX_done (by kernel_rfl) ?_ _
 have HB2 := HB1.out.trans (HS1.out.mono HB1.out.size)
 clear HRB HLX HB1 HS1
 go_wp2_with fail
 go_ret
 exact ⟨rfl, by rw [← hzz]; exact HB2⟩
set_option maxHeartbeats 4000000 in
theorem rl2 (hT : Tab w0) (h7 : 7 < w0.heap.size) (hR : stR isName (.mk 2 l c s t x y body els id sl ot lo) d = true) (hL : StL (fun _ => True) w0 cs (.mk 2 l c s t x y body els id sl ot lo)) (hw : Below w0.heap.size w0 W) (hlen : (stT (.mk 2 l c s t x y body els id sl ot lo) ind).length ≤ 70368744177664) :
  Calls Tryz.prog 101 #[.agg cs.toArray, .int .i64 (ind : Int)] W fun e w' => e = .returned (.string (bS (stT (.mk 2 l c s t x y body els id sl ot lo) ind))) ∧ Below W.heap.size W w' := by
 obtain ⟨d46, hu46, hr46⟩ := under46
 have hmx : Tryz.prog.follows .mixedOrders = true := by kernel_rfl
 obtain ⟨hs16, ht16⟩ := stR_names hR
 have hinv := stR_inv hR
 have hxR := hinv.2.1 (by decide)
 obtain ⟨tx, htx⟩ : ∃ tx, bS (exT x) = tx := ⟨_, rfl⟩
 have hXl : (exT x).length ≤ 70368744177664 := by
  have := hlen
  simp [stT] at this
  omega
 have hXs : tx.size ≤ 70368744177664 := by rw [← htx, bS_size]; exact hXl
 have hres : bS (stT (.mk 2 l c s t x y body els id sl ot lo) ind) = s ++ ⟨#[32, 61, 32]⟩ ++ tx ++ ⟨#[59]⟩ := by
  rw [← htx]
  exact ba_ext (by simp [stT, bS])
 rw [hres]
 have hl25 := hL.cells.1
 have hb0 : Below W.heap.size W (W.alloc (.cells cs.toArray 64)) := (Below.refl _ W).alloc (Nat.le_refl _) _
 have HZ : Hid (Stz w0 (W.alloc (.cells cs.toArray 64)) W.heap.size (.mk 2 l c s t x y body els id sl ot lo)) := Lib.hid ⟨cs, Blk.new W 64 cs, hl25, hL⟩
 have HB := Lib.hid hb0
 have HW := Lib.hid hw
 have hXc := fun (V : World) (cx : List Value) hb (hLx : ExL (fun _ => True) w0 cx x) => rx_all 24 x cx V (Tab.below hT hb (by omega)) (Nat.lt_of_lt_of_le h7 hb.size) hxR (hLx.below (w' := V) hb) hXl
 rw [htx] at hXc
 have HXC := Lib.hid hXc
 clear hl25 hL hb0 hw hT h7 hinv hR hlen hres hXc htx hXl hxR
 go_enter Tryz.func101, Tryz.ntmps101
 refine wp_seq_k fun K hK => ?_
 have HK := Lib.hid hK
 clear hK
 go_wp2_with fail
 refine HK.out _ _ ?_
 clear HK K
 obtain ⟨z, hzz⟩ : ∃ z, W.heap.size = z := ⟨_, rfl⟩
 rw [hzz] at HZ
 have HB : Hid (Below W.heap.size W (W.alloc (.cells cs.toArray 64))) := HB
 generalize W.alloc (.cells cs.toArray 64) = V0 at *
 rw [hzz]
 have hp0 := HZ.out.parts.1
 go_wp2_with fail
 refine (rkinds_any _).mono ?_
 rintro e V1 ⟨g, rfl, -, hst, hb1⟩
 have hk0 := hst.cell 2
 rw [show stV[2]? = some (.string ⟨#[]⟩) from rfl] at hk0
 have HB1 := Lib.hid (HB.out.trans (hb1.mono HB.out.size))
 have HZ1 := Lib.hid (HZ.out.below hb1)
 clear hb1 hst hp0 HB HZ
 obtain ⟨p0, p3, p4, ⟨cx, rx, lx, hLx⟩, ⟨cy, ry, ly, hLy⟩, ⟨ab, capb, p19, hbody⟩, ae, cape, p20, hels⟩ := HZ1.out.parts
 have hbw := HW.out.trans (HB1.out.mono HW.out.size)
 have hrB : ∀ Wx, Below V1.heap.size V1 Wx → Wx.cell? ⟨z, 3, none⟩ = some (.string s) ∧ Wx.rangeAt z 5 cx ∧ Wx.rangeAt z 12 cy ∧ Wx.cell? ⟨z, 19, none⟩ = some (.slice ab body.length capb) ∧ Wx.cell? ⟨z, 20, none⟩ = some (.slice ae els.length cape) := fun Wx hb => by
  have hk : ∀ (b o : Nat) (v : Value), V1.cell? ⟨b, o, none⟩ = some v → Wx.cell? ⟨b, o, none⟩ = some v := fun b o v hv => by rw [← hv]; simp [World.cell?, hb.block b (World.block_lt_of_cell? V1 _ hv)]
  exact ⟨hk _ _ _ p3, fun j v hv => hk _ _ _ (rx j v hv), fun j v hv => hk _ _ _ (ry j v hv), hk _ _ _ p19, hk _ _ _ p20⟩
 have HRB := Lib.hid hrB
 have HLX := Lib.hid (And.intro hLx (And.intro hLy (And.intro hbody (And.intro hels hbw))))
 clear hrB rx ry hLx hLy hbody hels hbw p19 p4 p3 p20
 go_wp2_with fail
 refine wp_region_x [] (fun W => Below V1.heap.size V1 W) hmx ?_
 have HS0 : Hid (Below V1.heap.size V1 V1.drew) := Lib.hid ((Below.refl _ V1).drew)
 obtain ⟨w0, hw0⟩ : ∃ w0, V1.drew = w0 := ⟨_, rfl⟩
 rw [hw0] at HS0 ⊢
 clear hw0
 refine wpX_takeD 0 (some 27) (v := ?q2v0) rfl rfl (by kernel_rfl) (fun _ _ _ h => h) HS0.out (Or.inl ⟨by rfl, ?q2h0⟩) ?_
 case q2h0 =>
  intro W1 hS1
  clear hS1
  go_simp
  first | with_reducible rfl | rw [if_neg (by omega)]
 refine wpX_takeD 1 (some 28) (v := ?q2v1) rfl rfl (by kernel_rfl) (fun _ _ _ h => h) HS0.out (Or.inl ⟨by rfl, ?q2h1⟩) ?_
 case q2h1 =>
  intro W1 hS1
  obtain ⟨f3, -, -, f19, f20⟩ := HRB.out W1 hS1
  clear hS1
  go_simp
  first | with_reducible rfl | rw [if_neg (by omega)]
 refine wpX_takeD 2 (some 29) (v := ?q2v2) rfl rfl (by kernel_rfl) (fun _ _ _ h => h) HS0.out (Or.inl ⟨by rfl, ?q2h2⟩) ?_
 case q2h2 =>
  intro W1 hS1
  clear hS1
  go_simp
  first | with_reducible rfl | rw [if_neg (by omega)]
 refine wpX_takeD 3 (some 30) (v := ?q2v3) rfl rfl (by kernel_rfl) (fun _ _ _ h => h) HS0.out (Or.inl ⟨by rfl, ?q2h3⟩) ?_
 case q2h3 =>
  intro W1 hS1
  clear hS1
  go_simp
  first | with_reducible rfl | rw [if_neg (by omega)]
 simp only [Act.put, List.setIfInBounds_toArray, List.set_cons_zero, List.set_cons_succ]
 refine wpX_takeD 4 (some 31) (v := .agg cx.toArray) rfl rfl (by kernel_rfl) (fun _ _ _ h => h) HS0.out (yieldsIf_load_mid (by rfl) 46 (.tmp 30) rfl z 5 rfl cx d46 (fun Wx hSx => (HRB.out Wx hSx).2.1) hu46 hr46 (by rw [lx]; exact info46)) ?_
 simp only [Act.put, List.setIfInBounds_toArray, List.set_cons_zero, List.set_cons_succ]
 refine wpX_one 5 (by kernel_rfl) rfl (fun K hK => ?_)
 go_simp
 refine (HXC.out w0 cx (HLX.out.2.2.2.2.trans (HS0.out.mono HLX.out.2.2.2.2.size)) HLX.out.1).mono ?_
 rintro e v5 ⟨rfl, hbc⟩
 have HS1 : Hid (Below V1.heap.size V1 v5) := Lib.hid (HS0.out.trans (hbc.mono HS0.out.size))
 refine hK _ _ (fun _ => HS1.out) ?_
 clear hK K hbc HS0
 refine wpX_takeD 6 (some 33) (v := ?q2v6) rfl rfl (by kernel_rfl) (fun _ _ _ h => h) HS1.out (Or.inl ⟨by rfl, ?q2h6⟩) ?_
 case q2h6 =>
  intro W1 hS1
  clear hS1
  go_simp
  first | with_reducible rfl | rw [if_neg (by omega)]
 refine wpX_takeD 7 (some 34) (v := ?q2v7) rfl rfl (by kernel_rfl) (fun _ _ _ h => h) HS1.out (Or.inl ⟨by rfl, ?q2h7⟩) ?_
 case q2h7 =>
  intro W1 hS1
  clear hS1
  go_simp
  first | with_reducible rfl | rw [if_neg (by omega)]
 refine wpX_takeD 8 (some 4) (v := ?q2v8) rfl rfl (by kernel_rfl) (fun _ _ _ h => h) HS1.out (Or.inl ⟨by rfl, ?q2h8⟩) ?_
 case q2h8 =>
  intro W1 hS1
  clear hS1
  go_simp
  first | with_reducible rfl | rw [if_neg (by omega)]
 simp only [Act.put, List.setIfInBounds_toArray, List.set_cons_zero, List.set_cons_succ]
 refine wpX_done (by kernel_rfl) ?_ _
 have HB2 := HB1.out.trans (HS1.out.mono HB1.out.size)
 clear HRB HLX HB1 HS1
 go_wp2_with fail
 go_ret
 exact ⟨rfl, by rw [← hzz]; exact HB2⟩
set_option maxHeartbeats 4000000 in
theorem rl3 (hT : Tab w0) (h7 : 7 < w0.heap.size) (hR : stR isName (.mk 3 l c s t x y body els id sl ot lo) d = true) (hL : StL (fun _ => True) w0 cs (.mk 3 l c s t x y body els id sl ot lo)) (hw : Below w0.heap.size w0 W) (hlen : (stT (.mk 3 l c s t x y body els id sl ot lo) ind).length ≤ 70368744177664) :
  Calls Tryz.prog 101 #[.agg cs.toArray, .int .i64 (ind : Int)] W fun e w' => e = .returned (.string (bS (stT (.mk 3 l c s t x y body els id sl ot lo) ind))) ∧ Below W.heap.size W w' := by
 obtain ⟨d46, hu46, hr46⟩ := under46
 have hmx : Tryz.prog.follows .mixedOrders = true := by kernel_rfl
 obtain ⟨hs16, ht16⟩ := stR_names hR
 have hinv := stR_inv hR
 have hxR := hinv.2.1 (by decide)
 obtain ⟨tx, htx⟩ : ∃ tx, bS (exT x) = tx := ⟨_, rfl⟩
 have hXl : (exT x).length ≤ 70368744177664 := by
  have := hlen
  simp [stT] at this
  omega
 have hXs : tx.size ≤ 70368744177664 := by rw [← htx, bS_size]; exact hXl
 have hyR := hinv.2.2.1 rfl
 obtain ⟨ty, hty⟩ : ∃ ty, bS (exT y) = ty := ⟨_, rfl⟩
 have hYl : (exT y).length ≤ 70368744177664 := by
  have := hlen
  simp [stT] at this
  omega
 have hYs : ty.size ≤ 70368744177664 := by rw [← hty, bS_size]; exact hYl
 have hres : bS (stT (.mk 3 l c s t x y body els id sl ot lo) ind) = s ++ ⟨#[91]⟩ ++ ty ++ ⟨#[93, 32, 61, 32]⟩ ++ tx ++ ⟨#[59]⟩ := by
  rw [← htx, ← hty]
  exact ba_ext (by simp [stT, bS])
 rw [hres]
 have hl25 := hL.cells.1
 have hb0 : Below W.heap.size W (W.alloc (.cells cs.toArray 64)) := (Below.refl _ W).alloc (Nat.le_refl _) _
 have HZ : Hid (Stz w0 (W.alloc (.cells cs.toArray 64)) W.heap.size (.mk 3 l c s t x y body els id sl ot lo)) := Lib.hid ⟨cs, Blk.new W 64 cs, hl25, hL⟩
 have HB := Lib.hid hb0
 have HW := Lib.hid hw
 have hXc := fun (V : World) (cx : List Value) hb (hLx : ExL (fun _ => True) w0 cx x) => rx_all 24 x cx V (Tab.below hT hb (by omega)) (Nat.lt_of_lt_of_le h7 hb.size) hxR (hLx.below (w' := V) hb) hXl
 rw [htx] at hXc
 have HXC := Lib.hid hXc
 have hYc := fun (V : World) (cx : List Value) hb (hLx : ExL (fun _ => True) w0 cx y) => rx_all 24 y cx V (Tab.below hT hb (by omega)) (Nat.lt_of_lt_of_le h7 hb.size) hyR (hLx.below (w' := V) hb) hYl
 rw [hty] at hYc
 have HYC := Lib.hid hYc
 clear hl25 hL hb0 hw hT h7 hinv hR hlen hres hXc hYc htx hXl hxR hty hYl hyR
 go_enter Tryz.func101, Tryz.ntmps101
 refine wp_seq_k fun K hK => ?_
 have HK := Lib.hid hK
 clear hK
 go_wp2_with fail
 refine HK.out _ _ ?_
 clear HK K
 obtain ⟨z, hzz⟩ : ∃ z, W.heap.size = z := ⟨_, rfl⟩
 rw [hzz] at HZ
 have HB : Hid (Below W.heap.size W (W.alloc (.cells cs.toArray 64))) := HB
 generalize W.alloc (.cells cs.toArray 64) = V0 at *
 rw [hzz]
 have hp0 := HZ.out.parts.1
 go_wp2_with fail
 refine (rkinds_any _).mono ?_
 rintro e V1 ⟨g, rfl, -, hst, hb1⟩
 have hk0 := hst.cell 3
 rw [show stV[3]? = some (.string ⟨#[]⟩) from rfl] at hk0
 have HB1 := Lib.hid (HB.out.trans (hb1.mono HB.out.size))
 have HZ1 := Lib.hid (HZ.out.below hb1)
 clear hb1 hst hp0 HB HZ
 obtain ⟨p0, p3, p4, ⟨cx, rx, lx, hLx⟩, ⟨cy, ry, ly, hLy⟩, ⟨ab, capb, p19, hbody⟩, ae, cape, p20, hels⟩ := HZ1.out.parts
 have hbw := HW.out.trans (HB1.out.mono HW.out.size)
 have hrB : ∀ Wx, Below V1.heap.size V1 Wx → Wx.cell? ⟨z, 3, none⟩ = some (.string s) ∧ Wx.rangeAt z 5 cx ∧ Wx.rangeAt z 12 cy ∧ Wx.cell? ⟨z, 19, none⟩ = some (.slice ab body.length capb) ∧ Wx.cell? ⟨z, 20, none⟩ = some (.slice ae els.length cape) := fun Wx hb => by
  have hk : ∀ (b o : Nat) (v : Value), V1.cell? ⟨b, o, none⟩ = some v → Wx.cell? ⟨b, o, none⟩ = some v := fun b o v hv => by rw [← hv]; simp [World.cell?, hb.block b (World.block_lt_of_cell? V1 _ hv)]
  exact ⟨hk _ _ _ p3, fun j v hv => hk _ _ _ (rx j v hv), fun j v hv => hk _ _ _ (ry j v hv), hk _ _ _ p19, hk _ _ _ p20⟩
 have HRB := Lib.hid hrB
 have HLX := Lib.hid (And.intro hLx (And.intro hLy (And.intro hbody (And.intro hels hbw))))
 clear hrB rx ry hLx hLy hbody hels hbw p19 p4 p3 p20
 go_wp2_with fail
 refine wp_region_x [] (fun W => Below V1.heap.size V1 W) hmx ?_
 have HS0 : Hid (Below V1.heap.size V1 V1.drew) := Lib.hid ((Below.refl _ V1).drew)
 obtain ⟨w0, hw0⟩ : ∃ w0, V1.drew = w0 := ⟨_, rfl⟩
 rw [hw0] at HS0 ⊢
 clear hw0
 refine wpX_takeD 0 (some 37) (v := ?q3v0) rfl rfl (by kernel_rfl) (fun _ _ _ h => h) HS0.out (Or.inl ⟨by rfl, ?q3h0⟩) ?_
 case q3h0 =>
  intro W1 hS1
  clear hS1
  go_simp
  first | with_reducible rfl | rw [if_neg (by omega)]
 refine wpX_takeD 1 (some 38) (v := ?q3v1) rfl rfl (by kernel_rfl) (fun _ _ _ h => h) HS0.out (Or.inl ⟨by rfl, ?q3h1⟩) ?_
 case q3h1 =>
  intro W1 hS1
  obtain ⟨f3, -, -, f19, f20⟩ := HRB.out W1 hS1
  clear hS1
  go_simp
  first | with_reducible rfl | rw [if_neg (by omega)]
 refine wpX_takeD 2 (some 39) (v := ?q3v2) rfl rfl (by kernel_rfl) (fun _ _ _ h => h) HS0.out (Or.inl ⟨by rfl, ?q3h2⟩) ?_
 case q3h2 =>
  intro W1 hS1
  clear hS1
  go_simp
  first | with_reducible rfl | rw [if_neg (by omega)]
 refine wpX_takeD 3 (some 40) (v := ?q3v3) rfl rfl (by kernel_rfl) (fun _ _ _ h => h) HS0.out (Or.inl ⟨by rfl, ?q3h3⟩) ?_
 case q3h3 =>
  intro W1 hS1
  clear hS1
  go_simp
  first | with_reducible rfl | rw [if_neg (by omega)]
 simp only [Act.put, List.setIfInBounds_toArray, List.set_cons_zero, List.set_cons_succ]
 refine wpX_takeD 4 (some 41) (v := .agg cy.toArray) rfl rfl (by kernel_rfl) (fun _ _ _ h => h) HS0.out (yieldsIf_load_mid (by rfl) 46 (.tmp 40) rfl z 12 rfl cy d46 (fun Wx hSx => (HRB.out Wx hSx).2.2.1) hu46 hr46 (by rw [ly]; exact info46)) ?_
 refine wpX_takeD 8 (some 45) (v := ?q3v8) rfl rfl (by kernel_rfl) (fun _ _ _ h => h) HS0.out (Or.inl ⟨by rfl, ?q3h8⟩) ?_
 case q3h8 =>
  intro W1 hS1
  clear hS1
  go_simp
  first | with_reducible rfl | rw [if_neg (by omega)]
 refine wpX_takeD 9 (some 46) (v := .agg cx.toArray) rfl rfl (by kernel_rfl) (fun _ _ _ h => h) HS0.out (yieldsIf_load_mid (by rfl) 46 (.tmp 45) rfl z 5 rfl cx d46 (fun Wx hSx => (HRB.out Wx hSx).2.1) hu46 hr46 (by rw [lx]; exact info46)) ?_
 simp only [Act.put, List.setIfInBounds_toArray, List.set_cons_zero, List.set_cons_succ]
 refine wpX_one 5 (by kernel_rfl) rfl (fun K hK => ?_)
 go_simp
 refine (HYC.out w0 cy (HLX.out.2.2.2.2.trans (HS0.out.mono HLX.out.2.2.2.2.size)) HLX.out.2.1).mono ?_
 rintro e v5 ⟨rfl, hbc⟩
 have HS1 : Hid (Below V1.heap.size V1 v5) := Lib.hid (HS0.out.trans (hbc.mono HS0.out.size))
 refine hK _ _ (fun _ => HS1.out) ?_
 clear hK K hbc HS0
 refine wpX_takeD 6 (some 43) (v := ?q3v6) rfl rfl (by kernel_rfl) (fun _ _ _ h => h) HS1.out (Or.inl ⟨by rfl, ?q3h6⟩) ?_
 case q3h6 =>
  intro W1 hS1
  clear hS1
  go_simp
  first | with_reducible rfl | rw [if_neg (by omega)]
 simp only [Act.put, List.setIfInBounds_toArray, List.set_cons_zero, List.set_cons_succ]
 refine wpX_takeD 7 (some 44) (v := ?q3v7) rfl rfl (by kernel_rfl) (fun _ _ _ h => h) HS1.out (Or.inl ⟨by rfl, ?q3h7⟩) ?_
 case q3h7 =>
  intro W1 hS1
  clear hS1
  go_simp
  first | with_reducible rfl | rw [if_neg (by omega)]
 simp only [Act.put, List.setIfInBounds_toArray, List.set_cons_zero, List.set_cons_succ]
 refine wpX_one 10 (by kernel_rfl) rfl (fun K hK => ?_)
 go_simp
 refine (HXC.out v5 cx (HLX.out.2.2.2.2.trans (HS1.out.mono HLX.out.2.2.2.2.size)) HLX.out.1).mono ?_
 rintro e v10 ⟨rfl, hbc⟩
 have HS2 : Hid (Below V1.heap.size V1 v10) := Lib.hid (HS1.out.trans (hbc.mono HS1.out.size))
 refine hK _ _ (fun _ => HS2.out) ?_
 clear hK K hbc HS1
 refine wpX_takeD 11 (some 48) (v := ?q3v11) rfl rfl (by kernel_rfl) (fun _ _ _ h => h) HS2.out (Or.inl ⟨by rfl, ?q3h11⟩) ?_
 case q3h11 =>
  intro W1 hS1
  clear hS1
  go_simp
  first | with_reducible rfl | rw [if_neg (by omega)]
 refine wpX_takeD 12 (some 49) (v := ?q3v12) rfl rfl (by kernel_rfl) (fun _ _ _ h => h) HS2.out (Or.inl ⟨by rfl, ?q3h12⟩) ?_
 case q3h12 =>
  intro W1 hS1
  clear hS1
  go_simp
  first | with_reducible rfl | rw [if_neg (by omega)]
 refine wpX_takeD 13 (some 4) (v := ?q3v13) rfl rfl (by kernel_rfl) (fun _ _ _ h => h) HS2.out (Or.inl ⟨by rfl, ?q3h13⟩) ?_
 case q3h13 =>
  intro W1 hS1
  clear hS1
  go_simp
  first | with_reducible rfl | rw [if_neg (by omega)]
 simp only [Act.put, List.setIfInBounds_toArray, List.set_cons_zero, List.set_cons_succ]
 refine wpX_done (by kernel_rfl) ?_ _
 have HB2 := HB1.out.trans (HS2.out.mono HB1.out.size)
 clear HRB HLX HB1 HS2
 go_wp2_with fail
 go_ret
 exact ⟨rfl, by rw [← hzz]; exact HB2⟩
set_option maxHeartbeats 4000000 in
theorem rl4a (hT : Tab w0) (h7 : 7 < w0.heap.size) (hR : stR isName (.mk 4 l c s t x y body els id sl ot lo) d = true) (hi : ind ≤ d) (hL : StL (fun _ => True) w0 cs (.mk 4 l c s t x y body els id sl ot lo)) (hw : Below w0.heap.size w0 W) (hlen : (stT (.mk 4 l c s t x y body els id sl ot lo) ind).length ≤ 70368744177664) (ihB : RB w0 (d + 1)) (hne : els ≠ []) :
  Calls Tryz.prog 101 #[.agg cs.toArray, .int .i64 (ind : Int)] W fun e w' => e = .returned (.string (bS (stT (.mk 4 l c s t x y body els id sl ot lo) ind))) ∧ Below W.heap.size W w' := by
 obtain ⟨d46, hu46, hr46⟩ := under46
 have hmx : Tryz.prog.follows .mixedOrders = true := by kernel_rfl
 obtain ⟨hs16, ht16⟩ := stR_names hR
 have hinv := stR_inv hR
 have hxR := hinv.2.1 (by decide)
 obtain ⟨tx, htx⟩ : ∃ tx, bS (exT x) = tx := ⟨_, rfl⟩
 have hXl : (exT x).length ≤ 70368744177664 := by
  have := hlen
  simp [stT, hne] at this
  omega
 have hXs : tx.size ≤ 70368744177664 := by rw [← htx, bS_size]; exact hXl
 obtain ⟨tb, htb⟩ : ∃ tb, bS (blockT body ind) = tb := ⟨_, rfl⟩
 have hBl : (blockT body ind).length ≤ 70368744177664 := by
  have := hlen
  simp [stT, blockT, hne] at this ⊢
  omega
 have hBs : tb.size ≤ 70368744177664 := by rw [← htb, bS_size]; exact hBl
 obtain ⟨te, hte⟩ : ∃ te, bS (blockT els ind) = te := ⟨_, rfl⟩
 have hEl : (blockT els ind).length ≤ 70368744177664 := by
  have := hlen
  simp [stT, blockT, hne] at this ⊢
  omega
 have hEs : te.size ≤ 70368744177664 := by rw [← hte, bS_size]; exact hEl
 have hres : bS (stT (.mk 4 l c s t x y body els id sl ot lo) ind) = ⟨#[105, 102, 32]⟩ ++ tx ++ ⟨#[32]⟩ ++ tb ++ ⟨#[32, 101, 108, 115, 101, 32]⟩ ++ te := by
  rw [← htx, ← htb, ← hte]
  exact ba_ext (by simp [stT, bS, blockT, hne])
 rw [hres]
 have hl25 := hL.cells.1
 have hb0 : Below W.heap.size W (W.alloc (.cells cs.toArray 64)) := (Below.refl _ W).alloc (Nat.le_refl _) _
 have HZ : Hid (Stz w0 (W.alloc (.cells cs.toArray 64)) W.heap.size (.mk 4 l c s t x y body els id sl ot lo)) := Lib.hid ⟨cs, Blk.new W 64 cs, hl25, hL⟩
 have HB := Lib.hid hb0
 have HW := Lib.hid hw
 have hXc := fun (V : World) (cx : List Value) hb (hLx : ExL (fun _ => True) w0 cx x) => rx_all 24 x cx V (Tab.below hT hb (by omega)) (Nat.lt_of_lt_of_le h7 hb.size) hxR (hLx.below (w' := V) hb) hXl
 rw [htx] at hXc
 have HXC := Lib.hid hXc
 have hBc := fun (V : World) (a : Option Addr) (cap : Nat) hb (hLb : SlAt w0 a cap body) => ihB body a cap ind V hinv.2.2.2.1 (by omega) hLb hb hBl
 rw [htb] at hBc
 have HBC := Lib.hid hBc
 have hEc := fun (V : World) (a : Option Addr) (cap : Nat) hb (hLb : SlAt w0 a cap els) => ihB els a cap ind V hinv.2.2.2.2.1 (by omega) hLb hb hEl
 rw [hte] at hEc
 have HEC := Lib.hid hEc
 have hlz : 0 < els.length := List.length_pos_iff.2 hne
 obtain ⟨LE, hLE⟩ : ∃ LE, els.length = LE := ⟨_, rfl⟩
 have hlz2 : (0 : Int) < (LE : Int) := by omega
 clear hl25 hL hb0 hw hT h7 hinv hR hlen hres hXc hBc hEc htx hXl hxR htb hBl hte hEl
 go_enter Tryz.func101, Tryz.ntmps101
 refine wp_seq_k fun K hK => ?_
 have HK := Lib.hid hK
 clear hK
 go_wp2_with fail
 refine HK.out _ _ ?_
 clear HK K
 obtain ⟨z, hzz⟩ : ∃ z, W.heap.size = z := ⟨_, rfl⟩
 rw [hzz] at HZ
 have HB : Hid (Below W.heap.size W (W.alloc (.cells cs.toArray 64))) := HB
 generalize W.alloc (.cells cs.toArray 64) = V0 at *
 rw [hzz]
 have hp0 := HZ.out.parts.1
 go_wp2_with fail
 refine (rkinds_any _).mono ?_
 rintro e V1 ⟨g, rfl, -, hst, hb1⟩
 have hk0 := hst.cell 4
 rw [show stV[4]? = some (.string ⟨#[105, 102]⟩) from rfl] at hk0
 have HB1 := Lib.hid (HB.out.trans (hb1.mono HB.out.size))
 have HZ1 := Lib.hid (HZ.out.below hb1)
 clear hb1 hst hp0 HB HZ
 obtain ⟨p0, p3, p4, ⟨cx, rx, lx, hLx⟩, ⟨cy, ry, ly, hLy⟩, ⟨ab, capb, p19, hbody⟩, ae, cape, p20, hels⟩ := HZ1.out.parts
 have hbw := HW.out.trans (HB1.out.mono HW.out.size)
 rw [hLE] at p20
 have hrB : ∀ Wx, Below V1.heap.size V1 Wx → Wx.cell? ⟨z, 3, none⟩ = some (.string s) ∧ Wx.rangeAt z 5 cx ∧ Wx.rangeAt z 12 cy ∧ Wx.cell? ⟨z, 19, none⟩ = some (.slice ab body.length capb) ∧ Wx.cell? ⟨z, 20, none⟩ = some (.slice ae LE cape) := fun Wx hb => by
  have hk : ∀ (b o : Nat) (v : Value), V1.cell? ⟨b, o, none⟩ = some v → Wx.cell? ⟨b, o, none⟩ = some v := fun b o v hv => by rw [← hv]; simp [World.cell?, hb.block b (World.block_lt_of_cell? V1 _ hv)]
  exact ⟨hk _ _ _ p3, fun j v hv => hk _ _ _ (rx j v hv), fun j v hv => hk _ _ _ (ry j v hv), hk _ _ _ p19, hk _ _ _ p20⟩
 have HRB := Lib.hid hrB
 have HLX := Lib.hid (And.intro hLx (And.intro hLy (And.intro hbody (And.intro hels hbw))))
 clear hrB rx ry hLx hLy hbody hels hbw p19 p4 p3
 go_wp2_with fail
 refine wp_region_x [] (fun W => Below V1.heap.size V1 W) hmx ?_
 have HS0 : Hid (Below V1.heap.size V1 V1.drew) := Lib.hid ((Below.refl _ V1).drew)
 obtain ⟨w0, hw0⟩ : ∃ w0, V1.drew = w0 := ⟨_, rfl⟩
 rw [hw0] at HS0 ⊢
 clear hw0
 refine wpX_takeD 0 (some 56) (v := ?q4v0) rfl rfl (by kernel_rfl) (fun _ _ _ h => h) HS0.out (Or.inl ⟨by rfl, ?q4h0⟩) ?_
 case q4h0 =>
  intro W1 hS1
  clear hS1
  go_simp
  first | with_reducible rfl | rw [if_neg (by omega)]
 refine wpX_takeD 1 (some 57) (v := .agg cx.toArray) rfl rfl (by kernel_rfl) (fun _ _ _ h => h) HS0.out (yieldsIf_load_mid (by rfl) 46 (.tmp 56) rfl z 5 rfl cx d46 (fun Wx hSx => (HRB.out Wx hSx).2.1) hu46 hr46 (by rw [lx]; exact info46)) ?_
 refine wpX_takeD 5 (some 61) (v := ?q4v5) rfl rfl (by kernel_rfl) (fun _ _ _ h => h) HS0.out (Or.inl ⟨by rfl, ?q4h5⟩) ?_
 case q4h5 =>
  intro W1 hS1
  clear hS1
  go_simp
  first | with_reducible rfl | rw [if_neg (by omega)]
 refine wpX_takeD 6 (some 62) (v := ?q4v6) rfl rfl (by kernel_rfl) (fun _ _ _ h => h) HS0.out (Or.inl ⟨by rfl, ?q4h6⟩) ?_
 case q4h6 =>
  intro W1 hS1
  obtain ⟨f3, -, -, f19, f20⟩ := HRB.out W1 hS1
  clear hS1
  go_simp
  first | with_reducible rfl | rw [if_neg (by omega)]
 simp only [Act.put, List.setIfInBounds_toArray, List.set_cons_zero, List.set_cons_succ]
 refine wpX_takeD 7 (some 63) (v := ?q4v7) rfl rfl (by kernel_rfl) (fun _ _ _ h => h) HS0.out (Or.inl ⟨by rfl, ?q4h7⟩) ?_
 case q4h7 =>
  intro W1 hS1
  clear hS1
  go_simp
  first | with_reducible rfl | rw [if_neg (by omega)]
 refine wpX_takeD 11 (some 67) (v := ?q4v11) rfl rfl (by kernel_rfl) (fun _ _ _ h => h) HS0.out (Or.inl ⟨by rfl, ?q4h11⟩) ?_
 case q4h11 =>
  intro W1 hS1
  clear hS1
  go_simp
  first | with_reducible rfl | rw [if_neg (by omega)]
 refine wpX_takeD 12 (some 68) (v := ?q4v12) rfl rfl (by kernel_rfl) (fun _ _ _ h => h) HS0.out (Or.inl ⟨by rfl, ?q4h12⟩) ?_
 case q4h12 =>
  intro W1 hS1
  obtain ⟨f3, -, -, f19, f20⟩ := HRB.out W1 hS1
  clear hS1
  go_simp
  first | with_reducible rfl | rw [if_neg (by omega)]
 refine wpX_takeD 13 (some 69) (v := ?q4v13) rfl rfl (by kernel_rfl) (fun _ _ _ h => h) HS0.out (Or.inl ⟨by rfl, ?q4h13⟩) ?_
 case q4h13 =>
  intro W1 hS1
  clear hS1
  go_simp
  first | with_reducible rfl | rw [if_neg (by omega)]
 simp only [Act.put, List.setIfInBounds_toArray, List.set_cons_zero, List.set_cons_succ]
 refine wpX_one 2 (by kernel_rfl) rfl (fun K hK => ?_)
 go_simp
 refine (HXC.out w0 cx (HLX.out.2.2.2.2.trans (HS0.out.mono HLX.out.2.2.2.2.size)) HLX.out.1).mono ?_
 rintro e v2 ⟨rfl, hbc⟩
 have HS1 : Hid (Below V1.heap.size V1 v2) := Lib.hid (HS0.out.trans (hbc.mono HS0.out.size))
 refine hK _ _ (fun _ => HS1.out) ?_
 clear hK K hbc HS0
 refine wpX_takeD 3 (some 59) (v := ?q4v3) rfl rfl (by kernel_rfl) (fun _ _ _ h => h) HS1.out (Or.inl ⟨by rfl, ?q4h3⟩) ?_
 case q4h3 =>
  intro W1 hS1
  clear hS1
  go_simp
  first | with_reducible rfl | rw [if_neg (by omega)]
 refine wpX_takeD 4 (some 60) (v := ?q4v4) rfl rfl (by kernel_rfl) (fun _ _ _ h => h) HS1.out (Or.inl ⟨by rfl, ?q4h4⟩) ?_
 case q4h4 =>
  intro W1 hS1
  clear hS1
  go_simp
  first | with_reducible rfl | rw [if_neg (by omega)]
 simp only [Act.put, List.setIfInBounds_toArray, List.set_cons_zero, List.set_cons_succ]
 refine wpX_one 8 (by kernel_rfl) rfl (fun K hK => ?_)
 go_simp
 refine (HBC.out v2 ab capb (HLX.out.2.2.2.2.trans (HS1.out.mono HLX.out.2.2.2.2.size)) HLX.out.2.2.1).mono ?_
 rintro e v8 ⟨rfl, hbc⟩
 have HS2 : Hid (Below V1.heap.size V1 v8) := Lib.hid (HS1.out.trans (hbc.mono HS1.out.size))
 refine hK _ _ (fun _ => HS2.out) ?_
 clear hK K hbc HS1
 refine wpX_takeD 9 (some 65) (v := ?q4v9) rfl rfl (by kernel_rfl) (fun _ _ _ h => h) HS2.out (Or.inl ⟨by rfl, ?q4h9⟩) ?_
 case q4h9 =>
  intro W1 hS1
  clear hS1
  go_simp
  first | with_reducible rfl | rw [if_neg (by omega)]
 refine wpX_takeD 10 (some 66) (v := ?q4v10) rfl rfl (by kernel_rfl) (fun _ _ _ h => h) HS2.out (Or.inl ⟨by rfl, ?q4h10⟩) ?_
 case q4h10 =>
  intro W1 hS1
  clear hS1
  go_simp
  first | with_reducible rfl | rw [if_neg (by omega)]
 simp only [Act.put, List.setIfInBounds_toArray, List.set_cons_zero, List.set_cons_succ]
 refine wpX_one 14 (by kernel_rfl) rfl (fun K hK => ?_)
 go_simp
 rw [← hLE]
 refine (HEC.out v8 ae cape (HLX.out.2.2.2.2.trans (HS2.out.mono HLX.out.2.2.2.2.size)) HLX.out.2.2.2.1).mono ?_
 rintro e v14 ⟨rfl, hbc⟩
 have HS3 : Hid (Below V1.heap.size V1 v14) := Lib.hid (HS2.out.trans (hbc.mono HS2.out.size))
 refine hK _ _ (fun _ => HS3.out) ?_
 clear hK K hbc HS2
 refine wpX_takeD 15 (some 71) (v := ?q4v15) rfl rfl (by kernel_rfl) (fun _ _ _ h => h) HS3.out (Or.inl ⟨by rfl, ?q4h15⟩) ?_
 case q4h15 =>
  intro W1 hS1
  clear hS1
  go_simp
  first | with_reducible rfl | rw [if_neg (by omega)]
 refine wpX_takeD 16 (some 4) (v := ?q4v16) rfl rfl (by kernel_rfl) (fun _ _ _ h => h) HS3.out (Or.inl ⟨by rfl, ?q4h16⟩) ?_
 case q4h16 =>
  intro W1 hS1
  clear hS1
  go_simp
  first | with_reducible rfl | rw [if_neg (by omega)]
 simp only [Act.put, List.setIfInBounds_toArray, List.set_cons_zero, List.set_cons_succ]
 refine wpX_done (by kernel_rfl) ?_ _
 have HB2 := HB1.out.trans (HS3.out.mono HB1.out.size)
 clear HRB HLX HB1 HS3
 go_wp2_with fail
 go_ret
 exact ⟨rfl, by rw [← hzz]; exact HB2⟩
set_option maxHeartbeats 4000000 in
theorem rl4b (hT : Tab w0) (h7 : 7 < w0.heap.size) (hR : stR isName (.mk 4 l c s t x y body els id sl ot lo) d = true) (hi : ind ≤ d) (hL : StL (fun _ => True) w0 cs (.mk 4 l c s t x y body els id sl ot lo)) (hw : Below w0.heap.size w0 W) (hlen : (stT (.mk 4 l c s t x y body els id sl ot lo) ind).length ≤ 70368744177664) (ihB : RB w0 (d + 1)) (hne : els = []) :
  Calls Tryz.prog 101 #[.agg cs.toArray, .int .i64 (ind : Int)] W fun e w' => e = .returned (.string (bS (stT (.mk 4 l c s t x y body els id sl ot lo) ind))) ∧ Below W.heap.size W w' := by
 obtain ⟨d46, hu46, hr46⟩ := under46
 have hmx : Tryz.prog.follows .mixedOrders = true := by kernel_rfl
 obtain ⟨hs16, ht16⟩ := stR_names hR
 have hinv := stR_inv hR
 have hxR := hinv.2.1 (by decide)
 obtain ⟨tx, htx⟩ : ∃ tx, bS (exT x) = tx := ⟨_, rfl⟩
 have hXl : (exT x).length ≤ 70368744177664 := by
  have := hlen
  simp [stT, hne] at this
  omega
 have hXs : tx.size ≤ 70368744177664 := by rw [← htx, bS_size]; exact hXl
 obtain ⟨tb, htb⟩ : ∃ tb, bS (blockT body ind) = tb := ⟨_, rfl⟩
 have hBl : (blockT body ind).length ≤ 70368744177664 := by
  have := hlen
  simp [stT, blockT, hne] at this ⊢
  omega
 have hBs : tb.size ≤ 70368744177664 := by rw [← htb, bS_size]; exact hBl
 have hres : bS (stT (.mk 4 l c s t x y body els id sl ot lo) ind) = ⟨#[105, 102, 32]⟩ ++ tx ++ ⟨#[32]⟩ ++ tb := by
  rw [← htx, ← htb]
  exact ba_ext (by simp [stT, bS, blockT, hne])
 rw [hres]
 have hl25 := hL.cells.1
 have hb0 : Below W.heap.size W (W.alloc (.cells cs.toArray 64)) := (Below.refl _ W).alloc (Nat.le_refl _) _
 have HZ : Hid (Stz w0 (W.alloc (.cells cs.toArray 64)) W.heap.size (.mk 4 l c s t x y body els id sl ot lo)) := Lib.hid ⟨cs, Blk.new W 64 cs, hl25, hL⟩
 have HB := Lib.hid hb0
 have HW := Lib.hid hw
 have hXc := fun (V : World) (cx : List Value) hb (hLx : ExL (fun _ => True) w0 cx x) => rx_all 24 x cx V (Tab.below hT hb (by omega)) (Nat.lt_of_lt_of_le h7 hb.size) hxR (hLx.below (w' := V) hb) hXl
 rw [htx] at hXc
 have HXC := Lib.hid hXc
 have hBc := fun (V : World) (a : Option Addr) (cap : Nat) hb (hLb : SlAt w0 a cap body) => ihB body a cap ind V hinv.2.2.2.1 (by omega) hLb hb hBl
 rw [htb] at hBc
 have HBC := Lib.hid hBc
 have hlz2 : els.length = 0 := by rw [hne]; rfl
 clear hl25 hL hb0 hw hT h7 hinv hR hlen hres hXc hBc htx hXl hxR htb hBl
 go_enter Tryz.func101, Tryz.ntmps101
 refine wp_seq_k fun K hK => ?_
 have HK := Lib.hid hK
 clear hK
 go_wp2_with fail
 refine HK.out _ _ ?_
 clear HK K
 obtain ⟨z, hzz⟩ : ∃ z, W.heap.size = z := ⟨_, rfl⟩
 rw [hzz] at HZ
 have HB : Hid (Below W.heap.size W (W.alloc (.cells cs.toArray 64))) := HB
 generalize W.alloc (.cells cs.toArray 64) = V0 at *
 rw [hzz]
 have hp0 := HZ.out.parts.1
 go_wp2_with fail
 refine (rkinds_any _).mono ?_
 rintro e V1 ⟨g, rfl, -, hst, hb1⟩
 have hk0 := hst.cell 4
 rw [show stV[4]? = some (.string ⟨#[105, 102]⟩) from rfl] at hk0
 have HB1 := Lib.hid (HB.out.trans (hb1.mono HB.out.size))
 have HZ1 := Lib.hid (HZ.out.below hb1)
 clear hb1 hst hp0 HB HZ
 obtain ⟨p0, p3, p4, ⟨cx, rx, lx, hLx⟩, ⟨cy, ry, ly, hLy⟩, ⟨ab, capb, p19, hbody⟩, ae, cape, p20, hels⟩ := HZ1.out.parts
 have hbw := HW.out.trans (HB1.out.mono HW.out.size)
 rw [hlz2] at p20
 have hrB : ∀ Wx, Below V1.heap.size V1 Wx → Wx.cell? ⟨z, 3, none⟩ = some (.string s) ∧ Wx.rangeAt z 5 cx ∧ Wx.rangeAt z 12 cy ∧ Wx.cell? ⟨z, 19, none⟩ = some (.slice ab body.length capb) ∧ Wx.cell? ⟨z, 20, none⟩ = some (.slice ae 0 cape) := fun Wx hb => by
  have hk : ∀ (b o : Nat) (v : Value), V1.cell? ⟨b, o, none⟩ = some v → Wx.cell? ⟨b, o, none⟩ = some v := fun b o v hv => by rw [← hv]; simp [World.cell?, hb.block b (World.block_lt_of_cell? V1 _ hv)]
  exact ⟨hk _ _ _ p3, fun j v hv => hk _ _ _ (rx j v hv), fun j v hv => hk _ _ _ (ry j v hv), hk _ _ _ p19, hk _ _ _ p20⟩
 have HRB := Lib.hid hrB
 have HLX := Lib.hid (And.intro hLx (And.intro hLy (And.intro hbody (And.intro hels hbw))))
 clear hrB rx ry hLx hLy hbody hels hbw p19 p4 p3
 go_wp2_with fail
 refine wp_region_x [] (fun W => Below V1.heap.size V1 W) hmx ?_
 have HS0 : Hid (Below V1.heap.size V1 V1.drew) := Lib.hid ((Below.refl _ V1).drew)
 obtain ⟨w0, hw0⟩ : ∃ w0, V1.drew = w0 := ⟨_, rfl⟩
 rw [hw0] at HS0 ⊢
 clear hw0
 refine wpX_takeD 0 (some 72) (v := ?q5v0) rfl rfl (by kernel_rfl) (fun _ _ _ h => h) HS0.out (Or.inl ⟨by rfl, ?q5h0⟩) ?_
 case q5h0 =>
  intro W1 hS1
  clear hS1
  go_simp
  first | with_reducible rfl | rw [if_neg (by omega)]
 refine wpX_takeD 1 (some 73) (v := .agg cx.toArray) rfl rfl (by kernel_rfl) (fun _ _ _ h => h) HS0.out (yieldsIf_load_mid (by rfl) 46 (.tmp 72) rfl z 5 rfl cx d46 (fun Wx hSx => (HRB.out Wx hSx).2.1) hu46 hr46 (by rw [lx]; exact info46)) ?_
 refine wpX_takeD 5 (some 77) (v := ?q5v5) rfl rfl (by kernel_rfl) (fun _ _ _ h => h) HS0.out (Or.inl ⟨by rfl, ?q5h5⟩) ?_
 case q5h5 =>
  intro W1 hS1
  clear hS1
  go_simp
  first | with_reducible rfl | rw [if_neg (by omega)]
 refine wpX_takeD 6 (some 78) (v := ?q5v6) rfl rfl (by kernel_rfl) (fun _ _ _ h => h) HS0.out (Or.inl ⟨by rfl, ?q5h6⟩) ?_
 case q5h6 =>
  intro W1 hS1
  obtain ⟨f3, -, -, f19, f20⟩ := HRB.out W1 hS1
  clear hS1
  go_simp
  first | with_reducible rfl | rw [if_neg (by omega)]
 simp only [Act.put, List.setIfInBounds_toArray, List.set_cons_zero, List.set_cons_succ]
 refine wpX_takeD 7 (some 79) (v := ?q5v7) rfl rfl (by kernel_rfl) (fun _ _ _ h => h) HS0.out (Or.inl ⟨by rfl, ?q5h7⟩) ?_
 case q5h7 =>
  intro W1 hS1
  clear hS1
  go_simp
  first | with_reducible rfl | rw [if_neg (by omega)]
 simp only [Act.put, List.setIfInBounds_toArray, List.set_cons_zero, List.set_cons_succ]
 refine wpX_one 2 (by kernel_rfl) rfl (fun K hK => ?_)
 go_simp
 refine (HXC.out w0 cx (HLX.out.2.2.2.2.trans (HS0.out.mono HLX.out.2.2.2.2.size)) HLX.out.1).mono ?_
 rintro e v2 ⟨rfl, hbc⟩
 have HS1 : Hid (Below V1.heap.size V1 v2) := Lib.hid (HS0.out.trans (hbc.mono HS0.out.size))
 refine hK _ _ (fun _ => HS1.out) ?_
 clear hK K hbc HS0
 refine wpX_takeD 3 (some 75) (v := ?q5v3) rfl rfl (by kernel_rfl) (fun _ _ _ h => h) HS1.out (Or.inl ⟨by rfl, ?q5h3⟩) ?_
 case q5h3 =>
  intro W1 hS1
  clear hS1
  go_simp
  first | with_reducible rfl | rw [if_neg (by omega)]
 refine wpX_takeD 4 (some 76) (v := ?q5v4) rfl rfl (by kernel_rfl) (fun _ _ _ h => h) HS1.out (Or.inl ⟨by rfl, ?q5h4⟩) ?_
 case q5h4 =>
  intro W1 hS1
  clear hS1
  go_simp
  first | with_reducible rfl | rw [if_neg (by omega)]
 simp only [Act.put, List.setIfInBounds_toArray, List.set_cons_zero, List.set_cons_succ]
 refine wpX_one 8 (by kernel_rfl) rfl (fun K hK => ?_)
 go_simp
 refine (HBC.out v2 ab capb (HLX.out.2.2.2.2.trans (HS1.out.mono HLX.out.2.2.2.2.size)) HLX.out.2.2.1).mono ?_
 rintro e v8 ⟨rfl, hbc⟩
 have HS2 : Hid (Below V1.heap.size V1 v8) := Lib.hid (HS1.out.trans (hbc.mono HS1.out.size))
 refine hK _ _ (fun _ => HS2.out) ?_
 clear hK K hbc HS1
 refine wpX_takeD 9 (some 81) (v := ?q5v9) rfl rfl (by kernel_rfl) (fun _ _ _ h => h) HS2.out (Or.inl ⟨by rfl, ?q5h9⟩) ?_
 case q5h9 =>
  intro W1 hS1
  clear hS1
  go_simp
  first | with_reducible rfl | rw [if_neg (by omega)]
 simp only [Act.put, List.setIfInBounds_toArray, List.set_cons_zero, List.set_cons_succ]
 refine wpX_takeD 10 (some 4) (v := ?q5v10) rfl rfl (by kernel_rfl) (fun _ _ _ h => h) HS2.out (Or.inl ⟨by rfl, ?q5h10⟩) ?_
 case q5h10 =>
  intro W1 hS1
  clear hS1
  go_simp
  first | with_reducible rfl | rw [if_neg (by omega)]
 simp only [Act.put, List.setIfInBounds_toArray, List.set_cons_zero, List.set_cons_succ]
 refine wpX_done (by kernel_rfl) ?_ _
 have HB2 := HB1.out.trans (HS2.out.mono HB1.out.size)
 clear HRB HLX HB1 HS2
 go_wp2_with fail
 go_ret
 exact ⟨rfl, by rw [← hzz]; exact HB2⟩
set_option maxHeartbeats 4000000 in
theorem rl5 (hT : Tab w0) (h7 : 7 < w0.heap.size) (hR : stR isName (.mk 5 l c s t x y body els id sl ot lo) d = true) (hi : ind ≤ d) (hL : StL (fun _ => True) w0 cs (.mk 5 l c s t x y body els id sl ot lo)) (hw : Below w0.heap.size w0 W) (hlen : (stT (.mk 5 l c s t x y body els id sl ot lo) ind).length ≤ 70368744177664) (ihB : RB w0 (d + 1)) :
  Calls Tryz.prog 101 #[.agg cs.toArray, .int .i64 (ind : Int)] W fun e w' => e = .returned (.string (bS (stT (.mk 5 l c s t x y body els id sl ot lo) ind))) ∧ Below W.heap.size W w' := by
 obtain ⟨d46, hu46, hr46⟩ := under46
 have hmx : Tryz.prog.follows .mixedOrders = true := by kernel_rfl
 obtain ⟨hs16, ht16⟩ := stR_names hR
 have hinv := stR_inv hR
 have hxR := hinv.2.1 (by decide)
 obtain ⟨tx, htx⟩ : ∃ tx, bS (exT x) = tx := ⟨_, rfl⟩
 have hXl : (exT x).length ≤ 70368744177664 := by
  have := hlen
  simp [stT] at this
  omega
 have hXs : tx.size ≤ 70368744177664 := by rw [← htx, bS_size]; exact hXl
 obtain ⟨tb, htb⟩ : ∃ tb, bS (blockT body ind) = tb := ⟨_, rfl⟩
 have hBl : (blockT body ind).length ≤ 70368744177664 := by
  have := hlen
  simp [stT, blockT] at this ⊢
  omega
 have hBs : tb.size ≤ 70368744177664 := by rw [← htb, bS_size]; exact hBl
 have hres : bS (stT (.mk 5 l c s t x y body els id sl ot lo) ind) = ⟨#[119, 104, 105, 108, 101, 32]⟩ ++ tx ++ ⟨#[32]⟩ ++ tb := by
  rw [← htx, ← htb]
  exact ba_ext (by simp [stT, bS, blockT])
 rw [hres]
 have hl25 := hL.cells.1
 have hb0 : Below W.heap.size W (W.alloc (.cells cs.toArray 64)) := (Below.refl _ W).alloc (Nat.le_refl _) _
 have HZ : Hid (Stz w0 (W.alloc (.cells cs.toArray 64)) W.heap.size (.mk 5 l c s t x y body els id sl ot lo)) := Lib.hid ⟨cs, Blk.new W 64 cs, hl25, hL⟩
 have HB := Lib.hid hb0
 have HW := Lib.hid hw
 have hXc := fun (V : World) (cx : List Value) hb (hLx : ExL (fun _ => True) w0 cx x) => rx_all 24 x cx V (Tab.below hT hb (by omega)) (Nat.lt_of_lt_of_le h7 hb.size) hxR (hLx.below (w' := V) hb) hXl
 rw [htx] at hXc
 have HXC := Lib.hid hXc
 have hBc := fun (V : World) (a : Option Addr) (cap : Nat) hb (hLb : SlAt w0 a cap body) => ihB body a cap ind V hinv.2.2.2.1 (by omega) hLb hb hBl
 rw [htb] at hBc
 have HBC := Lib.hid hBc
 clear hl25 hL hb0 hw hT h7 hinv hR hlen hres hXc hBc htx hXl hxR htb hBl
 go_enter Tryz.func101, Tryz.ntmps101
 refine wp_seq_k fun K hK => ?_
 have HK := Lib.hid hK
 clear hK
 go_wp2_with fail
 refine HK.out _ _ ?_
 clear HK K
 obtain ⟨z, hzz⟩ : ∃ z, W.heap.size = z := ⟨_, rfl⟩
 rw [hzz] at HZ
 have HB : Hid (Below W.heap.size W (W.alloc (.cells cs.toArray 64))) := HB
 generalize W.alloc (.cells cs.toArray 64) = V0 at *
 rw [hzz]
 have hp0 := HZ.out.parts.1
 go_wp2_with fail
 refine (rkinds_any _).mono ?_
 rintro e V1 ⟨g, rfl, -, hst, hb1⟩
 have hk0 := hst.cell 5
 rw [show stV[5]? = some (.string ⟨#[119, 104, 105, 108, 101]⟩) from rfl] at hk0
 have HB1 := Lib.hid (HB.out.trans (hb1.mono HB.out.size))
 have HZ1 := Lib.hid (HZ.out.below hb1)
 clear hb1 hst hp0 HB HZ
 obtain ⟨p0, p3, p4, ⟨cx, rx, lx, hLx⟩, ⟨cy, ry, ly, hLy⟩, ⟨ab, capb, p19, hbody⟩, ae, cape, p20, hels⟩ := HZ1.out.parts
 have hbw := HW.out.trans (HB1.out.mono HW.out.size)
 have hrB : ∀ Wx, Below V1.heap.size V1 Wx → Wx.cell? ⟨z, 3, none⟩ = some (.string s) ∧ Wx.rangeAt z 5 cx ∧ Wx.rangeAt z 12 cy ∧ Wx.cell? ⟨z, 19, none⟩ = some (.slice ab body.length capb) ∧ Wx.cell? ⟨z, 20, none⟩ = some (.slice ae els.length cape) := fun Wx hb => by
  have hk : ∀ (b o : Nat) (v : Value), V1.cell? ⟨b, o, none⟩ = some v → Wx.cell? ⟨b, o, none⟩ = some v := fun b o v hv => by rw [← hv]; simp [World.cell?, hb.block b (World.block_lt_of_cell? V1 _ hv)]
  exact ⟨hk _ _ _ p3, fun j v hv => hk _ _ _ (rx j v hv), fun j v hv => hk _ _ _ (ry j v hv), hk _ _ _ p19, hk _ _ _ p20⟩
 have HRB := Lib.hid hrB
 have HLX := Lib.hid (And.intro hLx (And.intro hLy (And.intro hbody (And.intro hels hbw))))
 clear hrB rx ry hLx hLy hbody hels hbw p19 p4 p3 p20
 go_wp2_with fail
 refine wp_region_x [] (fun W => Below V1.heap.size V1 W) hmx ?_
 have HS0 : Hid (Below V1.heap.size V1 V1.drew) := Lib.hid ((Below.refl _ V1).drew)
 obtain ⟨w0, hw0⟩ : ∃ w0, V1.drew = w0 := ⟨_, rfl⟩
 rw [hw0] at HS0 ⊢
 clear hw0
 refine wpX_takeD 0 (some 84) (v := ?q6v0) rfl rfl (by kernel_rfl) (fun _ _ _ h => h) HS0.out (Or.inl ⟨by rfl, ?q6h0⟩) ?_
 case q6h0 =>
  intro W1 hS1
  clear hS1
  go_simp
  first | with_reducible rfl | rw [if_neg (by omega)]
 refine wpX_takeD 1 (some 85) (v := .agg cx.toArray) rfl rfl (by kernel_rfl) (fun _ _ _ h => h) HS0.out (yieldsIf_load_mid (by rfl) 46 (.tmp 84) rfl z 5 rfl cx d46 (fun Wx hSx => (HRB.out Wx hSx).2.1) hu46 hr46 (by rw [lx]; exact info46)) ?_
 refine wpX_takeD 5 (some 89) (v := ?q6v5) rfl rfl (by kernel_rfl) (fun _ _ _ h => h) HS0.out (Or.inl ⟨by rfl, ?q6h5⟩) ?_
 case q6h5 =>
  intro W1 hS1
  clear hS1
  go_simp
  first | with_reducible rfl | rw [if_neg (by omega)]
 refine wpX_takeD 6 (some 90) (v := ?q6v6) rfl rfl (by kernel_rfl) (fun _ _ _ h => h) HS0.out (Or.inl ⟨by rfl, ?q6h6⟩) ?_
 case q6h6 =>
  intro W1 hS1
  obtain ⟨f3, -, -, f19, f20⟩ := HRB.out W1 hS1
  clear hS1
  go_simp
  first | with_reducible rfl | rw [if_neg (by omega)]
 simp only [Act.put, List.setIfInBounds_toArray, List.set_cons_zero, List.set_cons_succ]
 refine wpX_takeD 7 (some 91) (v := ?q6v7) rfl rfl (by kernel_rfl) (fun _ _ _ h => h) HS0.out (Or.inl ⟨by rfl, ?q6h7⟩) ?_
 case q6h7 =>
  intro W1 hS1
  clear hS1
  go_simp
  first | with_reducible rfl | rw [if_neg (by omega)]
 simp only [Act.put, List.setIfInBounds_toArray, List.set_cons_zero, List.set_cons_succ]
 refine wpX_one 2 (by kernel_rfl) rfl (fun K hK => ?_)
 go_simp
 refine (HXC.out w0 cx (HLX.out.2.2.2.2.trans (HS0.out.mono HLX.out.2.2.2.2.size)) HLX.out.1).mono ?_
 rintro e v2 ⟨rfl, hbc⟩
 have HS1 : Hid (Below V1.heap.size V1 v2) := Lib.hid (HS0.out.trans (hbc.mono HS0.out.size))
 refine hK _ _ (fun _ => HS1.out) ?_
 clear hK K hbc HS0
 refine wpX_takeD 3 (some 87) (v := ?q6v3) rfl rfl (by kernel_rfl) (fun _ _ _ h => h) HS1.out (Or.inl ⟨by rfl, ?q6h3⟩) ?_
 case q6h3 =>
  intro W1 hS1
  clear hS1
  go_simp
  first | with_reducible rfl | rw [if_neg (by omega)]
 refine wpX_takeD 4 (some 88) (v := ?q6v4) rfl rfl (by kernel_rfl) (fun _ _ _ h => h) HS1.out (Or.inl ⟨by rfl, ?q6h4⟩) ?_
 case q6h4 =>
  intro W1 hS1
  clear hS1
  go_simp
  first | with_reducible rfl | rw [if_neg (by omega)]
 simp only [Act.put, List.setIfInBounds_toArray, List.set_cons_zero, List.set_cons_succ]
 refine wpX_one 8 (by kernel_rfl) rfl (fun K hK => ?_)
 go_simp
 refine (HBC.out v2 ab capb (HLX.out.2.2.2.2.trans (HS1.out.mono HLX.out.2.2.2.2.size)) HLX.out.2.2.1).mono ?_
 rintro e v8 ⟨rfl, hbc⟩
 have HS2 : Hid (Below V1.heap.size V1 v8) := Lib.hid (HS1.out.trans (hbc.mono HS1.out.size))
 refine hK _ _ (fun _ => HS2.out) ?_
 clear hK K hbc HS1
 refine wpX_takeD 9 (some 93) (v := ?q6v9) rfl rfl (by kernel_rfl) (fun _ _ _ h => h) HS2.out (Or.inl ⟨by rfl, ?q6h9⟩) ?_
 case q6h9 =>
  intro W1 hS1
  clear hS1
  go_simp
  first | with_reducible rfl | rw [if_neg (by omega)]
 simp only [Act.put, List.setIfInBounds_toArray, List.set_cons_zero, List.set_cons_succ]
 refine wpX_takeD 10 (some 4) (v := ?q6v10) rfl rfl (by kernel_rfl) (fun _ _ _ h => h) HS2.out (Or.inl ⟨by rfl, ?q6h10⟩) ?_
 case q6h10 =>
  intro W1 hS1
  clear hS1
  go_simp
  first | with_reducible rfl | rw [if_neg (by omega)]
 simp only [Act.put, List.setIfInBounds_toArray, List.set_cons_zero, List.set_cons_succ]
 refine wpX_done (by kernel_rfl) ?_ _
 have HB2 := HB1.out.trans (HS2.out.mono HB1.out.size)
 clear HRB HLX HB1 HS2
 go_wp2_with fail
 go_ret
 exact ⟨rfl, by rw [← hzz]; exact HB2⟩
set_option maxHeartbeats 4000000 in
theorem rl11 (hT : Tab w0) (h7 : 7 < w0.heap.size) (hR : stR isName (.mk 11 l c s t x y body els id sl ot lo) d = true) (hL : StL (fun _ => True) w0 cs (.mk 11 l c s t x y body els id sl ot lo)) (hw : Below w0.heap.size w0 W) (hlen : (stT (.mk 11 l c s t x y body els id sl ot lo) ind).length ≤ 70368744177664) :
  Calls Tryz.prog 101 #[.agg cs.toArray, .int .i64 (ind : Int)] W fun e w' => e = .returned (.string (bS (stT (.mk 11 l c s t x y body els id sl ot lo) ind))) ∧ Below W.heap.size W w' := by
 obtain ⟨d46, hu46, hr46⟩ := under46
 have hmx : Tryz.prog.follows .mixedOrders = true := by kernel_rfl
 obtain ⟨hs16, ht16⟩ := stR_names hR
 have hinv := stR_inv hR
 have hxR := hinv.2.1 (by decide)
 obtain ⟨tx, htx⟩ : ∃ tx, bS (exT x) = tx := ⟨_, rfl⟩
 have hXl : (exT x).length ≤ 70368744177664 := by
  have := hlen
  simp [stT] at this
  omega
 have hXs : tx.size ≤ 70368744177664 := by rw [← htx, bS_size]; exact hXl
 have hres : bS (stT (.mk 11 l c s t x y body els id sl ot lo) ind) = ⟨#[115, 101, 110, 100, 32]⟩ ++ s ++ ⟨#[32]⟩ ++ tx ++ ⟨#[59]⟩ := by
  rw [← htx]
  exact ba_ext (by simp [stT, bS])
 rw [hres]
 have hl25 := hL.cells.1
 have hb0 : Below W.heap.size W (W.alloc (.cells cs.toArray 64)) := (Below.refl _ W).alloc (Nat.le_refl _) _
 have HZ : Hid (Stz w0 (W.alloc (.cells cs.toArray 64)) W.heap.size (.mk 11 l c s t x y body els id sl ot lo)) := Lib.hid ⟨cs, Blk.new W 64 cs, hl25, hL⟩
 have HB := Lib.hid hb0
 have HW := Lib.hid hw
 have hXc := fun (V : World) (cx : List Value) hb (hLx : ExL (fun _ => True) w0 cx x) => rx_all 24 x cx V (Tab.below hT hb (by omega)) (Nat.lt_of_lt_of_le h7 hb.size) hxR (hLx.below (w' := V) hb) hXl
 rw [htx] at hXc
 have HXC := Lib.hid hXc
 clear hl25 hL hb0 hw hT h7 hinv hR hlen hres hXc htx hXl hxR
 go_enter Tryz.func101, Tryz.ntmps101
 refine wp_seq_k fun K hK => ?_
 have HK := Lib.hid hK
 clear hK
 go_wp2_with fail
 refine HK.out _ _ ?_
 clear HK K
 obtain ⟨z, hzz⟩ : ∃ z, W.heap.size = z := ⟨_, rfl⟩
 rw [hzz] at HZ
 have HB : Hid (Below W.heap.size W (W.alloc (.cells cs.toArray 64))) := HB
 generalize W.alloc (.cells cs.toArray 64) = V0 at *
 rw [hzz]
 have hp0 := HZ.out.parts.1
 go_wp2_with fail
 refine (rkinds_any _).mono ?_
 rintro e V1 ⟨g, rfl, -, hst, hb1⟩
 have hk0 := hst.cell 11
 rw [show stV[11]? = some (.string ⟨#[115, 101, 110, 100]⟩) from rfl] at hk0
 have HB1 := Lib.hid (HB.out.trans (hb1.mono HB.out.size))
 have HZ1 := Lib.hid (HZ.out.below hb1)
 clear hb1 hst hp0 HB HZ
 obtain ⟨p0, p3, p4, ⟨cx, rx, lx, hLx⟩, ⟨cy, ry, ly, hLy⟩, ⟨ab, capb, p19, hbody⟩, ae, cape, p20, hels⟩ := HZ1.out.parts
 have hbw := HW.out.trans (HB1.out.mono HW.out.size)
 have hrB : ∀ Wx, Below V1.heap.size V1 Wx → Wx.cell? ⟨z, 3, none⟩ = some (.string s) ∧ Wx.rangeAt z 5 cx ∧ Wx.rangeAt z 12 cy ∧ Wx.cell? ⟨z, 19, none⟩ = some (.slice ab body.length capb) ∧ Wx.cell? ⟨z, 20, none⟩ = some (.slice ae els.length cape) := fun Wx hb => by
  have hk : ∀ (b o : Nat) (v : Value), V1.cell? ⟨b, o, none⟩ = some v → Wx.cell? ⟨b, o, none⟩ = some v := fun b o v hv => by rw [← hv]; simp [World.cell?, hb.block b (World.block_lt_of_cell? V1 _ hv)]
  exact ⟨hk _ _ _ p3, fun j v hv => hk _ _ _ (rx j v hv), fun j v hv => hk _ _ _ (ry j v hv), hk _ _ _ p19, hk _ _ _ p20⟩
 have HRB := Lib.hid hrB
 have HLX := Lib.hid (And.intro hLx (And.intro hLy (And.intro hbody (And.intro hels hbw))))
 clear hrB rx ry hLx hLy hbody hels hbw p19 p4 p3 p20
 go_wp2_with fail
 refine wp_region_x [] (fun W => Below V1.heap.size V1 W) hmx ?_
 have HS0 : Hid (Below V1.heap.size V1 V1.drew) := Lib.hid ((Below.refl _ V1).drew)
 obtain ⟨w0, hw0⟩ : ∃ w0, V1.drew = w0 := ⟨_, rfl⟩
 rw [hw0] at HS0 ⊢
 clear hw0
 refine wpX_takeD 0 (some 109) (v := ?q7v0) rfl rfl (by kernel_rfl) (fun _ _ _ h => h) HS0.out (Or.inl ⟨by rfl, ?q7h0⟩) ?_
 case q7h0 =>
  intro W1 hS1
  clear hS1
  go_simp
  first | with_reducible rfl | rw [if_neg (by omega)]
 refine wpX_takeD 1 (some 110) (v := ?q7v1) rfl rfl (by kernel_rfl) (fun _ _ _ h => h) HS0.out (Or.inl ⟨by rfl, ?q7h1⟩) ?_
 case q7h1 =>
  intro W1 hS1
  obtain ⟨f3, -, -, f19, f20⟩ := HRB.out W1 hS1
  clear hS1
  go_simp
  first | with_reducible rfl | rw [if_neg (by omega)]
 refine wpX_takeD 2 (some 111) (v := ?q7v2) rfl rfl (by kernel_rfl) (fun _ _ _ h => h) HS0.out (Or.inl ⟨by rfl, ?q7h2⟩) ?_
 case q7h2 =>
  intro W1 hS1
  clear hS1
  go_simp
  first | with_reducible rfl | rw [if_neg (by omega)]
 refine wpX_takeD 3 (some 112) (v := ?q7v3) rfl rfl (by kernel_rfl) (fun _ _ _ h => h) HS0.out (Or.inl ⟨by rfl, ?q7h3⟩) ?_
 case q7h3 =>
  intro W1 hS1
  clear hS1
  go_simp
  first | with_reducible rfl | rw [if_neg (by omega)]
 simp only [Act.put, List.setIfInBounds_toArray, List.set_cons_zero, List.set_cons_succ]
 refine wpX_takeD 4 (some 113) (v := ?q7v4) rfl rfl (by kernel_rfl) (fun _ _ _ h => h) HS0.out (Or.inl ⟨by rfl, ?q7h4⟩) ?_
 case q7h4 =>
  intro W1 hS1
  clear hS1
  go_simp
  first | with_reducible rfl | rw [if_neg (by omega)]
 refine wpX_takeD 5 (some 114) (v := .agg cx.toArray) rfl rfl (by kernel_rfl) (fun _ _ _ h => h) HS0.out (yieldsIf_load_mid (by rfl) 46 (.tmp 113) rfl z 5 rfl cx d46 (fun Wx hSx => (HRB.out Wx hSx).2.1) hu46 hr46 (by rw [lx]; exact info46)) ?_
 simp only [Act.put, List.setIfInBounds_toArray, List.set_cons_zero, List.set_cons_succ]
 refine wpX_one 6 (by kernel_rfl) rfl (fun K hK => ?_)
 go_simp
 refine (HXC.out w0 cx (HLX.out.2.2.2.2.trans (HS0.out.mono HLX.out.2.2.2.2.size)) HLX.out.1).mono ?_
 rintro e v6 ⟨rfl, hbc⟩
 have HS1 : Hid (Below V1.heap.size V1 v6) := Lib.hid (HS0.out.trans (hbc.mono HS0.out.size))
 refine hK _ _ (fun _ => HS1.out) ?_
 clear hK K hbc HS0
 refine wpX_takeD 7 (some 116) (v := ?q7v7) rfl rfl (by kernel_rfl) (fun _ _ _ h => h) HS1.out (Or.inl ⟨by rfl, ?q7h7⟩) ?_
 case q7h7 =>
  intro W1 hS1
  clear hS1
  go_simp
  first | with_reducible rfl | rw [if_neg (by omega)]
 refine wpX_takeD 8 (some 117) (v := ?q7v8) rfl rfl (by kernel_rfl) (fun _ _ _ h => h) HS1.out (Or.inl ⟨by rfl, ?q7h8⟩) ?_
 case q7h8 =>
  intro W1 hS1
  clear hS1
  go_simp
  first | with_reducible rfl | rw [if_neg (by omega)]
 simp only [Act.put, List.setIfInBounds_toArray, List.set_cons_zero, List.set_cons_succ]
 refine wpX_takeD 9 (some 4) (v := ?q7v9) rfl rfl (by kernel_rfl) (fun _ _ _ h => h) HS1.out (Or.inl ⟨by rfl, ?q7h9⟩) ?_
 case q7h9 =>
  intro W1 hS1
  clear hS1
  go_simp
  first | with_reducible rfl | rw [if_neg (by omega)]
 simp only [Act.put, List.setIfInBounds_toArray, List.set_cons_zero, List.set_cons_succ]
 refine wpX_done (by kernel_rfl) ?_ _
 have HB2 := HB1.out.trans (HS1.out.mono HB1.out.size)
 clear HRB HLX HB1 HS1
 go_wp2_with fail
 go_ret
 exact ⟨rfl, by rw [← hzz]; exact HB2⟩
set_option maxHeartbeats 4000000 in
theorem rl14 (_hT : Tab w0) (_h7 : 7 < w0.heap.size) (hR : stR isName (.mk 14 l c s t x y body els id sl ot lo) d = true) (hL : StL (fun _ => True) w0 cs (.mk 14 l c s t x y body els id sl ot lo)) (hw : Below w0.heap.size w0 W) (_hlen : (stT (.mk 14 l c s t x y body els id sl ot lo) ind).length ≤ 70368744177664) :
  Calls Tryz.prog 101 #[.agg cs.toArray, .int .i64 (ind : Int)] W fun e w' => e = .returned (.string (bS (stT (.mk 14 l c s t x y body els id sl ot lo) ind))) ∧ Below W.heap.size W w' := by
 obtain ⟨d46, hu46, hr46⟩ := under46
 have hmx : Tryz.prog.follows .mixedOrders = true := by kernel_rfl
 obtain ⟨hs16, ht16⟩ := stR_names hR
 have hinv := stR_inv hR
 have hres : bS (stT (.mk 14 l c s t x y body els id sl ot lo) ind) = ⟨#[106, 111, 105, 110, 59]⟩ := by
  skip
  exact ba_ext (by simp [stT, bS])
 rw [hres]
 have hl25 := hL.cells.1
 have hb0 : Below W.heap.size W (W.alloc (.cells cs.toArray 64)) := (Below.refl _ W).alloc (Nat.le_refl _) _
 have HZ : Hid (Stz w0 (W.alloc (.cells cs.toArray 64)) W.heap.size (.mk 14 l c s t x y body els id sl ot lo)) := Lib.hid ⟨cs, Blk.new W 64 cs, hl25, hL⟩
 have HB := Lib.hid hb0
 have HW := Lib.hid hw
 clear hl25 hL hb0 hw _hT _h7 hinv hR _hlen hres
 go_enter Tryz.func101, Tryz.ntmps101
 refine wp_seq_k fun K hK => ?_
 have HK := Lib.hid hK
 clear hK
 go_wp2_with fail
 refine HK.out _ _ ?_
 clear HK K
 obtain ⟨z, hzz⟩ : ∃ z, W.heap.size = z := ⟨_, rfl⟩
 rw [hzz] at HZ
 have HB : Hid (Below W.heap.size W (W.alloc (.cells cs.toArray 64))) := HB
 generalize W.alloc (.cells cs.toArray 64) = V0 at *
 rw [hzz]
 have hp0 := HZ.out.parts.1
 go_wp2_with fail
 refine (rkinds_any _).mono ?_
 rintro e V1 ⟨g, rfl, -, hst, hb1⟩
 have hk0 := hst.cell 14
 rw [show stV[14]? = some (.string ⟨#[106, 111, 105, 110]⟩) from rfl] at hk0
 have HB1 := Lib.hid (HB.out.trans (hb1.mono HB.out.size))
 have HZ1 := Lib.hid (HZ.out.below hb1)
 clear hb1 hst hp0 HB HZ
 obtain ⟨p0, p3, p4, ⟨cx, rx, lx, hLx⟩, ⟨cy, ry, ly, hLy⟩, ⟨ab, capb, p19, hbody⟩, ae, cape, p20, hels⟩ := HZ1.out.parts
 have hbw := HW.out.trans (HB1.out.mono HW.out.size)
 have HRX := Lib.hid (And.intro rx lx)
 have HLX := Lib.hid (And.intro hLx hbw)
 clear rx lx ry ly hLx hLy hbody hels hbw p19 p20
 go_wp2_with fail
 go_ret
 exact ⟨rfl, by rw [← hzz]; exact HB1.out⟩
set_option maxHeartbeats 4000000 in
theorem rl15 (hT : Tab w0) (h7 : 7 < w0.heap.size) (hR : stR isName (.mk 15 l c s t x y body els id sl ot lo) d = true) (hL : StL (fun _ => True) w0 cs (.mk 15 l c s t x y body els id sl ot lo)) (hw : Below w0.heap.size w0 W) (hlen : (stT (.mk 15 l c s t x y body els id sl ot lo) ind).length ≤ 70368744177664) :
  Calls Tryz.prog 101 #[.agg cs.toArray, .int .i64 (ind : Int)] W fun e w' => e = .returned (.string (bS (stT (.mk 15 l c s t x y body els id sl ot lo) ind))) ∧ Below W.heap.size W w' := by
 obtain ⟨d46, hu46, hr46⟩ := under46
 have hmx : Tryz.prog.follows .mixedOrders = true := by kernel_rfl
 obtain ⟨hs16, ht16⟩ := stR_names hR
 have hinv := stR_inv hR
 have hxR := hinv.2.1 (by decide)
 obtain ⟨tx, htx⟩ : ∃ tx, bS (exT x) = tx := ⟨_, rfl⟩
 have hXl : (exT x).length ≤ 70368744177664 := by
  have := hlen
  simp [stT] at this
  omega
 have hXs : tx.size ≤ 70368744177664 := by rw [← htx, bS_size]; exact hXl
 have hres : bS (stT (.mk 15 l c s t x y body els id sl ot lo) ind) = ⟨#[112, 114, 105, 110, 116, 32]⟩ ++ tx ++ ⟨#[59]⟩ := by
  rw [← htx]
  exact ba_ext (by simp [stT, bS])
 rw [hres]
 have hl25 := hL.cells.1
 have hb0 : Below W.heap.size W (W.alloc (.cells cs.toArray 64)) := (Below.refl _ W).alloc (Nat.le_refl _) _
 have HZ : Hid (Stz w0 (W.alloc (.cells cs.toArray 64)) W.heap.size (.mk 15 l c s t x y body els id sl ot lo)) := Lib.hid ⟨cs, Blk.new W 64 cs, hl25, hL⟩
 have HB := Lib.hid hb0
 have HW := Lib.hid hw
 have hXc := fun (V : World) (cx : List Value) hb (hLx : ExL (fun _ => True) w0 cx x) => rx_all 24 x cx V (Tab.below hT hb (by omega)) (Nat.lt_of_lt_of_le h7 hb.size) hxR (hLx.below (w' := V) hb) hXl
 rw [htx] at hXc
 have HXC := Lib.hid hXc
 clear hl25 hL hb0 hw hT h7 hinv hR hlen hres hXc htx hXl hxR
 go_enter Tryz.func101, Tryz.ntmps101
 refine wp_seq_k fun K hK => ?_
 have HK := Lib.hid hK
 clear hK
 go_wp2_with fail
 refine HK.out _ _ ?_
 clear HK K
 obtain ⟨z, hzz⟩ : ∃ z, W.heap.size = z := ⟨_, rfl⟩
 rw [hzz] at HZ
 have HB : Hid (Below W.heap.size W (W.alloc (.cells cs.toArray 64))) := HB
 generalize W.alloc (.cells cs.toArray 64) = V0 at *
 rw [hzz]
 have hp0 := HZ.out.parts.1
 go_wp2_with fail
 refine (rkinds_any _).mono ?_
 rintro e V1 ⟨g, rfl, -, hst, hb1⟩
 have hk0 := hst.cell 15
 rw [show stV[15]? = some (.string ⟨#[112, 114, 105, 110, 116]⟩) from rfl] at hk0
 have HB1 := Lib.hid (HB.out.trans (hb1.mono HB.out.size))
 have HZ1 := Lib.hid (HZ.out.below hb1)
 clear hb1 hst hp0 HB HZ
 obtain ⟨p0, p3, p4, ⟨cx, rx, lx, hLx⟩, ⟨cy, ry, ly, hLy⟩, ⟨ab, capb, p19, hbody⟩, ae, cape, p20, hels⟩ := HZ1.out.parts
 have hbw := HW.out.trans (HB1.out.mono HW.out.size)
 have HRX := Lib.hid (And.intro rx lx)
 have HLX := Lib.hid (And.intro hLx hbw)
 clear rx lx ry ly hLx hLy hbody hels hbw p19 p20
 go_wp2_with ((with_reducible show wpList _ _ _ (Oper.mk _ (.load 46 _) _ _ _ _ :: _) _ _); refine wpList_load_mid rfl 46 (.tmp 122) rfl z 5 rfl cx d46 HRX.out.1 hu46 hr46 (by rw [HRX.out.2]; exact info46) ?_)
 refine (HXC.out _ cx HLX.out.2 HLX.out.1).mono ?_
 rintro e V2 ⟨rfl, hb2⟩
 have HB2 := HB1.out.trans (hb2.mono HB1.out.size)
 clear hb2 HB1 HXC HRX HLX p0 p3 p4 hk0
 go_wp2_with fail
 go_ret
 exact ⟨rfl, by rw [← hzz]; exact HB2⟩
set_option maxHeartbeats 4000000 in
theorem rlo {k : Int} (hk : k = 6 ∨ k = 7 ∨ k = 9 ∨ k = 10 ∨ k = 13) (hR : stR isName (.mk k l c s t x y body els id sl ot lo) d = true) (hL : StL (fun _ => True) w0 cs (.mk k l c s t x y body els id sl ot lo)) :
  Calls Tryz.prog 101 #[.agg cs.toArray, .int .i64 (ind : Int)] W fun e w' => e = .returned (.string (bS (stT (.mk k l c s t x y body els id sl ot lo) ind))) ∧ Below W.heap.size W w' := by
 obtain ⟨hs16, ht16⟩ := stR_names hR
 have hres : bS (stT (.mk k l c s t x y body els id sl ot lo) ind) = stW.getD k.toNat noB ++ ⟨#[32]⟩ ++ s ++ ⟨#[59]⟩ := by
  rcases hk with rfl | rfl | rfl | rfl | rfl <;> exact ba_ext (by simp [stT, stW, bS])
 rw [hres]
 have hl25 := hL.cells.1
 have hb0 : Below W.heap.size W (W.alloc (.cells cs.toArray 64)) := (Below.refl _ W).alloc (Nat.le_refl _) _
 have HZ : Hid (Stz w0 (W.alloc (.cells cs.toArray 64)) W.heap.size (.mk k l c s t x y body els id sl ot lo)) := Lib.hid ⟨cs, Blk.new W 64 cs, hl25, hL⟩
 have HB := Lib.hid hb0
 clear hl25 hL hb0 hR hres
 rcases hk with rfl | rfl | rfl | rfl | rfl
 all_goals
  go_enter Tryz.func101, Tryz.ntmps101
  refine wp_seq_k fun K hK => ?_
  have HK := Lib.hid hK
  clear hK
  go_wp2_with fail
  refine HK.out _ _ ?_
  clear HK K
  obtain ⟨z, hzz⟩ : ∃ z, W.heap.size = z := ⟨_, rfl⟩
  rw [hzz] at HZ
  generalize W.alloc (.cells cs.toArray 64) = V0 at *
  rw [hzz]
  have hp0 := HZ.out.parts.1
  go_wp2_with fail
  refine (rkinds_any _).mono ?_
  rintro e V1 ⟨g, rfl, -, hst, hb1⟩
  have hk6 := hst.cell 6
  rw [show stV[6]? = some (.string ⟨#[108, 111, 99, 107]⟩) from rfl] at hk6
  have hk7 := hst.cell 7
  rw [show stV[7]? = some (.string ⟨#[117, 110, 108, 111, 99, 107]⟩) from rfl] at hk7
  have hk9 := hst.cell 9
  rw [show stV[9]? = some (.string ⟨#[115, 105, 103, 110, 97, 108]⟩) from rfl] at hk9
  have hk10 := hst.cell 10
  rw [show stV[10]? = some (.string ⟨#[97, 108, 108]⟩) from rfl] at hk10
  have hk13 := hst.cell 13
  rw [show stV[13]? = some (.string ⟨#[115, 112, 97, 119, 110]⟩) from rfl] at hk13
  have HB1 := Lib.hid (HB.out.trans (hb1.mono HB.out.size))
  have HZ1 := Lib.hid (HZ.out.below hb1)
  clear hb1 hst hp0 HB HZ
  obtain ⟨p0, p3, p4, -, -, -, -⟩ := HZ1.out.parts
  go_wp2_with fail
  go_ret
  exact ⟨rfl, by rw [← hzz]; exact HB1.out⟩
set_option maxHeartbeats 4000000 in
theorem rlp {k : Int} (hk : k = 8 ∨ k = 12) (hR : stR isName (.mk k l c s t x y body els id sl ot lo) d = true) (hL : StL (fun _ => True) w0 cs (.mk k l c s t x y body els id sl ot lo)) :
  Calls Tryz.prog 101 #[.agg cs.toArray, .int .i64 (ind : Int)] W fun e w' => e = .returned (.string (bS (stT (.mk k l c s t x y body els id sl ot lo) ind))) ∧ Below W.heap.size W w' := by
 obtain ⟨hs16, ht16⟩ := stR_names hR
 have hres : bS (stT (.mk k l c s t x y body els id sl ot lo) ind) = stW.getD k.toNat noB ++ ⟨#[32]⟩ ++ s ++ ⟨#[32]⟩ ++ t ++ ⟨#[59]⟩ := by
  rcases hk with rfl | rfl <;> exact ba_ext (by simp [stT, stW, bS])
 rw [hres]
 have hl25 := hL.cells.1
 have hb0 : Below W.heap.size W (W.alloc (.cells cs.toArray 64)) := (Below.refl _ W).alloc (Nat.le_refl _) _
 have HZ : Hid (Stz w0 (W.alloc (.cells cs.toArray 64)) W.heap.size (.mk k l c s t x y body els id sl ot lo)) := Lib.hid ⟨cs, Blk.new W 64 cs, hl25, hL⟩
 have HB := Lib.hid hb0
 clear hl25 hL hb0 hR hres
 rcases hk with rfl | rfl
 all_goals
  go_enter Tryz.func101, Tryz.ntmps101
  refine wp_seq_k fun K hK => ?_
  have HK := Lib.hid hK
  clear hK
  go_wp2_with fail
  refine HK.out _ _ ?_
  clear HK K
  obtain ⟨z, hzz⟩ : ∃ z, W.heap.size = z := ⟨_, rfl⟩
  rw [hzz] at HZ
  generalize W.alloc (.cells cs.toArray 64) = V0 at *
  rw [hzz]
  have hp0 := HZ.out.parts.1
  go_wp2_with fail
  refine (rkinds_any _).mono ?_
  rintro e V1 ⟨g, rfl, -, hst, hb1⟩
  have hk8 := hst.cell 8
  rw [show stV[8]? = some (.string ⟨#[119, 97, 105, 116]⟩) from rfl] at hk8
  have hk12 := hst.cell 12
  rw [show stV[12]? = some (.string ⟨#[114, 101, 99, 118]⟩) from rfl] at hk12
  have HB1 := Lib.hid (HB.out.trans (hb1.mono HB.out.size))
  have HZ1 := Lib.hid (HZ.out.below hb1)
  clear hb1 hst hp0 HB HZ
  obtain ⟨p0, p3, p4, -, -, -, -⟩ := HZ1.out.parts
  go_wp2_with fail
  go_ret
  exact ⟨rfl, by rw [← hzz]; exact HB1.out⟩
end Go.Proofs.YtjmlmelcppbefaaGreatDoor
