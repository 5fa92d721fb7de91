/- V2: texts of one kind, one behind the other. No condition but what each law says. -/
import Derived.Test.YtjmlmelcppbefaaGreatDoorT01
import Derived.Test.YtjmlmelcppbefaaGreatDoorT35
import Derived.Test.YtjmlmelcppbefaaGreatDoorT43
set_option maxRecDepth 100000
namespace Go.Proofs.YtjmlmelcppbefaaGreatDoor
open Go.RowKit
theorem wpX_takeD {P : Program} {ops : Array Oper} {Q : Exit → Act → World → Prop} {md : Region.Mode} {late : List Nat} {S : World → Prop} (i : Nat) (d : Option Tmp) {oi : Oper} {v : Value} {fuel : Nat} {listed : Array Bool} {a : Act} {w : World} (hi : ops[i]? = some oi) (hd : oi.dst = d)
  (hb : (Region.noSelect ops && (Region.free md ops listed i && ((Region.ready md ops listed).contains i && waits md ops late i))) = true)
  (hQ : ∀ c a w, Q (.panic c) (a.put d v) w → Q (.panic c) a w) (hS : S w) (hy : YieldsIf P ops S oi v a)
  (h : wpX P md ops Q late S fuel (listed.setIfInBounds i true) (a.put d v) w) : wpX P md ops Q late S (fuel + 1) listed a w := by
 subst hd
 simp only [Bool.and_eq_true] at hb
 exact wpX_take i hi hb.1 hb.2.1 hb.2.2.1 hb.2.2.2 hQ hS hy h
end Go.Proofs.YtjmlmelcppbefaaGreatDoor
namespace Go.Proofs.YtjmlmelcppbefaaGreatDoor
open Go.RowKit Go.Maps
theorem ba_ext {a b : ByteArray} (h : a.data.toList = b.data.toList) : a = b := ByteArray.ext (Array.toList_inj.1 h)
theorem app_l (a b : ByteArray) : (a ++ b).data.toList = a.data.toList ++ b.data.toList := by rw [ByteArray.data_append, Array.toList_append]
theorem bS_l (l : List UInt8) : (bS l).data.toList = l := rfl
theorem bS_size (l : List UInt8) : (bS l).size = l.length := rfl
set_option maxHeartbeats 4000000 in
theorem rbind_any {W : World} {cs : List Value} {k n : Int} {s : ByteArray} {sl : Int} {lo : Bool} {o : Int} {args : List Ex} {ok : Nat → Prop} (h : ExL ok W cs (.mk k n s sl lo o args)) (ho : k = 6 → 1 ≤ o ∧ o ≤ 11) :
  Calls Tryz.prog 104 #[.agg cs.toArray] W fun e w' => e = .returned (.int .i64 ((Ex.bind (.mk k n s sl lo o args) : Nat) : Int)) ∧ Below W.heap.size W w' := by
 unfold ExL at h
 obtain ⟨a, cap, rfl, hc, -⟩ := h
 have hb0 : Below W.heap.size W (W.alloc (.cells #[.int .i64 k, .int .i64 n, .string s, .int .i64 sl, .bool lo, .int .i64 o, .slice a args.length cap] 46)) := (Below.refl _ W).alloc (Nat.le_refl _) _
 rw [bind_mk]
 rcases neOr k 6 with h6 | h6
 ·rw [if_neg h6]
  rcases neOr k 4 with h4 | h4
  ·rcases neOr k 5 with h5 | h5
   ·rw [if_neg (by rintro (h | h); exact h4 h; exact h5 h)]
    have e4 : (k == 4) = false := by simpa using h4
    have e5 : (k == 5) = false := by simpa using h5
    have e6 : (k == 6) = false := by simpa using h6
    have HB := Lib.hid hb0
    clear hb0
    go_enter Tryz.func104, Tryz.ntmps104
    go_wp2_with fail
    go_ret
    exact ⟨rfl, HB.out⟩
   ·subst h5
    rw [if_pos (.inr rfl)]
    have HB := Lib.hid hb0
    clear hb0 h4 h6
    go_enter Tryz.func104, Tryz.ntmps104
    go_wp2_with fail
    go_ret
    exact ⟨rfl, HB.out⟩
  ·subst h4
   rw [if_pos (.inl rfl)]
   have HB := Lib.hid hb0
   clear hb0 h6
   go_enter Tryz.func104, Tryz.ntmps104
   go_wp2_with fail
   go_ret
   exact ⟨rfl, HB.out⟩
 ·subst h6
  rw [if_pos rfl]
  obtain ⟨o1, o2⟩ := ho rfl
  obtain ⟨on, rfl⟩ : ∃ on : Nat, o = (on : Int) := ⟨o.toNat, by omega⟩
  have h12 : on < 12 := by omega
  rw [show ((on : Int)).toNat = on by omega]
  have HB := Lib.hid hb0
  clear hb0 o1 o2
  go_enter Tryz.func104, Tryz.ntmps104
  go_wp2_with fail
  refine (rrank_any _ h12).mono ?_
  rintro e w1 ⟨rfl, hb1⟩
  go_wp2_with fail
  go_ret
  exact ⟨rfl, HB.out.trans (hb1.mono HB.out.size)⟩
theorem exW_ge (e : Ex) (n : Nat) : (exT e).length ≤ (exW e n).length := by
 unfold exW par
 split
 ·simp
  omega
 ·exact Nat.le_refl _
theorem par_le2 (b n : Nat) (t : List UInt8) : (par b n t).length ≤ t.length + 2 := by
 unfold par
 split
 ·simp
 ·omega
def RX (d : Nat) : Prop := ∀ (x : Ex) (cs : List Value) (w : World), Tab w → 7 < w.heap.size → exR isName x d = true → ExL (fun _ => True) w cs x → (exT x).length ≤ 70368744177664 → Calls Tryz.prog 28 #[.agg cs.toArray] w fun e w' => e = .returned (.string (bS (exT x))) ∧ Below w.heap.size w w'
def RW (d : Nat) : Prop := ∀ (x : Ex) (cs : List Value) (m : Nat) (w : World), Tab w → 7 < w.heap.size → exR isName x d = true → ExL (fun _ => True) w cs x → (exT x).length ≤ 70368744177664 → Calls Tryz.prog 53 #[.agg cs.toArray, .int .i64 (m : Int)] w fun e w' => e = .returned (.string (bS (exW x m))) ∧ Below w.heap.size w w'
theorem exR_op {k n : Int} {s : ByteArray} {sl : Int} {lo : Bool} {o : Int} {args : List Ex} {d : Nat} (h : exR isName (.mk k n s sl lo o args) d = true) : k = 6 → 1 ≤ o ∧ o ≤ 11 := by
 intro h6
 subst h6
 rw [exR_eq] at h
 simp only [Bool.and_eq_true] at h
 have h2 := h.2.2.2.2.1
 simpa [kindOk] using h2
set_option maxHeartbeats 4000000 in
theorem rw_of {d : Nat} (ih : RX d) : RW d := by
 intro x cs m w hT h0 hx hL hlen
 have hcl := fun (W : World) hb => ih x cs W (Tab.below hT hb (by omega)) (Nat.lt_of_lt_of_le h0 hb.size) hx (hL.below (w' := W) hb) hlen
 have hbd : ∀ W, Below w.heap.size w W → Calls Tryz.prog 104 #[.agg cs.toArray] W fun e w' => e = .returned (.int .i64 (x.bind : Int)) ∧ Below W.heap.size W w' := fun W hb => by
  obtain ⟨k, n, s, sl, lo, o, args⟩ := x
  exact rbind_any (hL.below (w' := W) hb) (exR_op hx)
 obtain ⟨q, hq⟩ : ∃ q, x.bind = q := ⟨_, rfl⟩
 obtain ⟨tx, htx⟩ : ∃ tx, bS (exT x) = tx := ⟨_, rfl⟩
 have hsz : tx.size ≤ 70368744177664 := by rw [← htx, bS_size]; exact hlen
 have hres : bS (exW x m) = if q < m then ⟨#[40]⟩ ++ tx ++ ⟨#[41]⟩ else tx := by
  unfold exW par
  rw [hq, ← htx]
  split
  ·exact ba_ext (by simp [bS])
  ·rfl
 rw [hres]
 rw [hq] at hbd
 rw [htx] at hcl
 obtain ⟨k, n, s, sl, lo, o, args⟩ := x
 unfold ExL at hL
 obtain ⟨a, cap, rfl, -, -⟩ := hL
 have hb0 : Below w.heap.size w (w.alloc (.cells #[.int .i64 k, .int .i64 n, .string s, .int .i64 sl, .bool lo, .int .i64 o, .slice a args.length cap] 46)) := (Below.refl _ w).alloc (Nat.le_refl _) _
 have hz0 := Blk.new w 46 [.int .i64 k, .int .i64 n, .string s, .int .i64 sl, .bool lo, .int .i64 o, .slice a args.length cap]
 obtain ⟨d46, hu46, hr46⟩ := under46
 have HZ := Lib.hid hz0
 have HB := Lib.hid hb0
 have HCL := Lib.hid (And.intro hcl hbd)
 clear hcl hbd hx hT hlen hres hq htx hb0 hz0 h0
 obtain ⟨NA, hNA⟩ : ∃ NA, args.length = NA := ⟨_, rfl⟩
 rw [hNA] at HZ HB HCL ⊢
 clear hNA
 by_cases hqm : q < m
 ·rw [if_pos hqm]
  have hqi : (q : Int) < (m : Int) := by omega
  go_enter Tryz.func53, Tryz.ntmps53
  refine wp_seq_k fun K hK => ?_
  have HK := Lib.hid hK
  clear hK
  go_wp2_with fail
  refine HK.out _ _ ?_
  clear HK K
  obtain ⟨z, hzz⟩ : ∃ z, w.heap.size = z := ⟨_, rfl⟩
  rw [hzz] at HZ
  obtain ⟨V0, hV0⟩ : ∃ V0, w.alloc (.cells #[.int .i64 k, .int .i64 n, .string s, .int .i64 sl, .bool lo, .int .i64 o, .slice a NA cap] 46) = V0 := ⟨_, rfl⟩
  rw [hV0] at HZ HB
  rw [hV0, hzz]
  have HZZ := Lib.hid hzz
  clear hV0 hzz
  go_wp2_with ((with_reducible show wpList _ _ _ (Oper.mk _ (.load 46 _) _ _ _ _ :: _) _ _); refine wpList_load_blk hu46 hr46 info46 rfl (.tmp 2) rfl z _ rfl HZ rfl ?_)
  refine (HCL.out.2 _ HB.out).mono ?_
  rintro e w1 ⟨rfl, hb1⟩
  have HB1 := Lib.hid (HB.out.trans (hb1.mono HB.out.size))
  have HZ1 := Lib.hid (HZ.out.below hb1)
  clear hb1 HZ HB
  go_wp2_with ((with_reducible show wpList _ _ _ (Oper.mk _ (.load 46 _) _ _ _ _ :: _) _ _); refine wpList_load_blk hu46 hr46 info46 rfl (.tmp 2) rfl z _ rfl HZ1 rfl ?_)
  refine (HCL.out.1 _ HB1.out).mono ?_
  rintro e w2 ⟨rfl, hb2⟩
  have HB2 := HB1.out.trans (hb2.mono HB1.out.size)
  clear hb2
  go_wp2_with fail
  go_ret
  exact ⟨rfl, by rw [← HZZ.out]; exact HB2⟩
 ·rw [if_neg hqm]
  have hqi : ¬ (q : Int) < (m : Int) := by omega
  go_enter Tryz.func53, Tryz.ntmps53
  refine wp_seq_k fun K hK => ?_
  have HK := Lib.hid hK
  clear hK
  go_wp2_with fail
  refine HK.out _ _ ?_
  clear HK K
  obtain ⟨z, hzz⟩ : ∃ z, w.heap.size = z := ⟨_, rfl⟩
  rw [hzz] at HZ
  obtain ⟨V0, hV0⟩ : ∃ V0, w.alloc (.cells #[.int .i64 k, .int .i64 n, .string s, .int .i64 sl, .bool lo, .int .i64 o, .slice a NA cap] 46) = V0 := ⟨_, rfl⟩
  rw [hV0] at HZ HB
  rw [hV0, hzz]
  have HZZ := Lib.hid hzz
  clear hV0 hzz
  go_wp2_with ((with_reducible show wpList _ _ _ (Oper.mk _ (.load 46 _) _ _ _ _ :: _) _ _); refine wpList_load_blk hu46 hr46 info46 rfl (.tmp 2) rfl z _ rfl HZ rfl ?_)
  refine (HCL.out.2 _ HB.out).mono ?_
  rintro e w1 ⟨rfl, hb1⟩
  have HB1 := Lib.hid (HB.out.trans (hb1.mono HB.out.size))
  have HZ1 := Lib.hid (HZ.out.below hb1)
  clear hb1 HZ HB
  go_wp2_with ((with_reducible show wpList _ _ _ (Oper.mk _ (.load 46 _) _ _ _ _ :: _) _ _); refine wpList_load_blk hu46 hr46 info46 rfl (.tmp 2) rfl z _ rfl HZ1 rfl ?_)
  refine (HCL.out.1 _ HB1.out).mono ?_
  rintro e w2 ⟨rfl, hb2⟩
  have HB2 := HB1.out.trans (hb2.mono HB1.out.size)
  clear hb2
  go_wp2_with fail
  go_ret
  exact ⟨rfl, by rw [← HZZ.out]; exact HB2⟩
end Go.Proofs.YtjmlmelcppbefaaGreatDoor
namespace Go.Proofs.YtjmlmelcppbefaaGreatDoor
open Go.RowKit Go.Maps
set_option maxHeartbeats 4000000 in
theorem rx1 {w : World} {n : Int} {s : ByteArray} {sl : Int} {lo : Bool} {o : Int} {a : Option Addr} {cap : Nat} (hT : Tab w) (h0 : 7 < w.heap.size) (hn : 0 ≤ n ∧ n ≤ 2147483647) :
  Calls Tryz.prog 28 #[.agg #[.int .i64 1, .int .i64 n, .string s, .int .i64 sl, .bool lo, .int .i64 o, .slice a 0 cap]] w fun e w' => e = .returned (.string (bS (Lib.itoa n))) ∧ Below w.heap.size w w' := by
 obtain ⟨d46, hu46, hr46⟩ := under46
 have hmx : Tryz.prog.follows .mixedOrders = true := by kernel_rfl
 have hb0 : Below w.heap.size w (w.alloc (.cells #[.int .i64 1, .int .i64 n, .string s, .int .i64 sl, .bool lo, .int .i64 o, .slice a 0 cap] 46)) := (Below.refl _ w).alloc (Nat.le_refl _) _
 have hz0 := Blk.new w 46 [.int .i64 1, .int .i64 n, .string s, .int .i64 sl, .bool lo, .int .i64 o, .slice a 0 cap]
 have hcn := fun V hV => Tryz.strconv_FormatInt_10 n (by omega) (by omega) V hV
 have HB := Lib.hid hb0
 have HT := Lib.hid (Tab.below hT hb0 (by omega))
 clear hb0 hz0 hT h0 hn
 go_enter Tryz.func28, Tryz.ntmps28
 go_wp2_with fail
 generalize w.alloc (.cells #[.int .i64 1, .int .i64 n, .string s, .int .i64 sl, .bool lo, .int .i64 o, .slice a 0 cap] 46) = W0 at *
 refine (hcn _ HT.out).mono ?_
 rintro e V1 ⟨rfl, k1, os1, rfl⟩
 have HB2 := HB.out.trans ((grow_below W0 k1 os1).mono HB.out.size)
 clear HB HT
 go_wp2_with fail
 go_ret
 exact ⟨rfl, HB2⟩
set_option maxHeartbeats 4000000 in
theorem rx2 {w : World} {n : Int} {s : ByteArray} {sl : Int} {lo : Bool} {o : Int} {a : Option Addr} {cap : Nat} :
  Calls Tryz.prog 28 #[.agg #[.int .i64 2, .int .i64 n, .string s, .int .i64 sl, .bool lo, .int .i64 o, .slice a 0 cap]] w fun e w' => e = .returned (.string s) ∧ Below w.heap.size w w' := by
 obtain ⟨d46, hu46, hr46⟩ := under46
 have hmx : Tryz.prog.follows .mixedOrders = true := by kernel_rfl
 have hb0 : Below w.heap.size w (w.alloc (.cells #[.int .i64 2, .int .i64 n, .string s, .int .i64 sl, .bool lo, .int .i64 o, .slice a 0 cap] 46)) := (Below.refl _ w).alloc (Nat.le_refl _) _
 have hz0 := Blk.new w 46 [.int .i64 2, .int .i64 n, .string s, .int .i64 sl, .bool lo, .int .i64 o, .slice a 0 cap]
 have HB := Lib.hid hb0
 clear hb0 hz0
 go_enter Tryz.func28, Tryz.ntmps28
 go_wp2_with fail
 go_ret
 exact ⟨rfl, HB.out⟩
set_option maxHeartbeats 8000000 in
theorem rx3 {w : World} {d : Nat} {n : Int} {s : ByteArray} {sl : Int} {lo : Bool} {o : Int} {a : Option Addr} {cap : Nat} {x : Ex} (ih : RX d) (hT : Tab w) (h0 : 7 < w.heap.size) (hxR : exR isName x d = true) (hX : XlAt w a [x]) (hs : s.size ≤ 16) (hlen : (exT x).length ≤ 70368744177664) :
  Calls Tryz.prog 28 #[.agg #[.int .i64 3, .int .i64 n, .string s, .int .i64 sl, .bool lo, .int .i64 o, .slice a 1 cap]] w fun e w' => e = .returned (.string (bS (s.data.toList ++ (91 :: (exT x ++ [93]))))) ∧ Below w.heap.size w w' := by
 obtain ⟨d46, hu46, hr46⟩ := under46
 have hmx : Tryz.prog.follows .mixedOrders = true := by kernel_rfl
 have hb0 : Below w.heap.size w (w.alloc (.cells #[.int .i64 3, .int .i64 n, .string s, .int .i64 sl, .bool lo, .int .i64 o, .slice a 1 cap] 46)) := (Below.refl _ w).alloc (Nat.le_refl _) _
 have hz0 := Blk.new w 46 [.int .i64 3, .int .i64 n, .string s, .int .i64 sl, .bool lo, .int .i64 o, .slice a 1 cap]
 obtain ⟨b2, off2, cs, rfl, hr, hL⟩ := hX.at (j := 0) (by simp)
 simp only [List.getD_cons_zero, Nat.zero_mul, Nat.add_zero] at hL hr
 have hcl := fun (W : World) hb => ih x cs W (Tab.below hT hb (by omega)) (Nat.lt_of_lt_of_le h0 hb.size) hxR (hL.below (w' := W) hb) hlen
 have hrB : ∀ W, Below w.heap.size w W → W.rangeAt b2 off2 cs := fun W hb => by
  have hk : ∀ (b o : Nat) (v : Value), w.cell? ⟨b, o, none⟩ = some v → W.cell? ⟨b, o, none⟩ = some v := fun b o v hv => by rw [← hv]; simp [World.cell?, hb.block b (World.block_lt_of_cell? w _ hv)]
  exact fun j v hv => hk _ _ _ (hr j v hv)
 have hl7 := hL.cells.1
 obtain ⟨tx, htx⟩ : ∃ tx, bS (exT x) = tx := ⟨_, rfl⟩
 have hsz : tx.size ≤ 70368744177664 := by rw [← htx, bS_size]; exact hlen
 have hres : bS (s.data.toList ++ (91 :: (exT x ++ [93]))) = s ++ ⟨#[91]⟩ ++ tx ++ ⟨#[93]⟩ := by
  rw [← htx]
  exact ba_ext (by simp [bS])
 rw [hres]
 rw [htx] at hcl
 have z2 := hz0.cell 2
 have z6 := hz0.cell 6
 simp only [List.getElem?_cons_succ, List.getElem?_cons_zero] at z2 z6
 have HCL := Lib.hid hcl
 have HRB := Lib.hid hrB
 have HB := Lib.hid hb0
 clear hcl hrB hb0 hX hr hL hT h0 hxR hlen hres htx hz0
 go_enter Tryz.func28, Tryz.ntmps28
 go_wp2_with fail
 generalize w.alloc (.cells #[.int .i64 3, .int .i64 n, .string s, .int .i64 sl, .bool lo, .int .i64 o, .slice (some ⟨b2, off2, none⟩) 1 cap] 46) = W0 at *
 refine wp_region_x [] (fun W => Below W0.heap.size W0 W) hmx ?_
 have HS0 : Hid (Below W0.heap.size W0 W0.drew) := Lib.hid ((Below.refl _ W0).drew)
 obtain ⟨w0, hw0⟩ : ∃ w0, W0.drew = w0 := ⟨_, rfl⟩
 rw [hw0] at HS0 ⊢
 clear hw0
 refine wpX_takeD 0 (some 18) (v := ?q1v0) rfl rfl (by kernel_rfl) (fun _ _ _ h => h) HS0.out (Or.inl ⟨by rfl, ?q1h0⟩) ?_
 case q1h0 =>
  intro W1 hS1
  clear hS1
  go_simp
  first | with_reducible rfl | rw [if_neg (by omega)]
 refine wpX_takeD 1 (some 19) (v := ?q1v1) rfl rfl (by kernel_rfl) (fun _ _ _ h => h) HS0.out (Or.inl ⟨by rfl, ?q1h1⟩) ?_
 case q1h1 =>
  intro W1 hS1
  have f2 : W1.cell? ⟨w.heap.size, 2, none⟩ = _ := (hS1.cell (p := ⟨w.heap.size, 2, none⟩) (World.block_lt_of_cell? W0 _ z2)).trans z2
  have f6 : W1.cell? ⟨w.heap.size, 6, none⟩ = _ := (hS1.cell (p := ⟨w.heap.size, 6, none⟩) (World.block_lt_of_cell? W0 _ z6)).trans z6
  clear hS1
  go_simp
  first | with_reducible rfl | rw [if_neg (by omega)]
 refine wpX_takeD 2 (some 20) (v := ?q1v2) rfl rfl (by kernel_rfl) (fun _ _ _ h => h) HS0.out (Or.inl ⟨by rfl, ?q1h2⟩) ?_
 case q1h2 =>
  intro W1 hS1
  clear hS1
  go_simp
  first | with_reducible rfl | rw [if_neg (by omega)]
 refine wpX_takeD 3 (some 21) (v := ?q1v3) rfl rfl (by kernel_rfl) (fun _ _ _ h => h) HS0.out (Or.inl ⟨by rfl, ?q1h3⟩) ?_
 case q1h3 =>
  intro W1 hS1
  clear hS1
  go_simp
  first | with_reducible rfl | rw [if_neg (by omega)]
 simp only [Act.put, List.setIfInBounds_toArray, List.set_cons_zero, List.set_cons_succ]
 refine wpX_takeD 4 (some 22) (v := ?q1v4) rfl rfl (by kernel_rfl) (fun _ _ _ h => h) HS0.out (Or.inl ⟨by rfl, ?q1h4⟩) ?_
 case q1h4 =>
  intro W1 hS1
  have f2 : W1.cell? ⟨w.heap.size, 2, none⟩ = _ := (hS1.cell (p := ⟨w.heap.size, 2, none⟩) (World.block_lt_of_cell? W0 _ z2)).trans z2
  have f6 : W1.cell? ⟨w.heap.size, 6, none⟩ = _ := (hS1.cell (p := ⟨w.heap.size, 6, none⟩) (World.block_lt_of_cell? W0 _ z6)).trans z6
  clear hS1
  go_simp
  first | with_reducible rfl | rw [if_neg (by omega)]
 refine wpX_takeD 5 (some 23) (v := ?q1v5) rfl rfl (by kernel_rfl) (fun _ _ _ h => h) HS0.out (Or.inl ⟨by rfl, ?q1h5⟩) ?_
 case q1h5 =>
  intro W1 hS1
  clear hS1
  go_simp
  first | with_reducible rfl | rw [if_neg (by omega)]
 refine wpX_takeD 6 (some 24) (v := .agg cs.toArray) rfl rfl (by kernel_rfl) (fun _ _ _ h => h) HS0.out (yieldsIf_load_mid (by rfl) 46 (.tmp 23) rfl b2 off2 rfl cs d46 (fun W1 hS1 => HRB.out W1 (HB.out.trans (hS1.mono HB.out.size))) hu46 hr46 (by rw [hl7]; exact info46)) ?_
 simp only [Act.put, List.setIfInBounds_toArray, List.set_cons_zero, List.set_cons_succ]
 refine wpX_one 7 (by kernel_rfl) rfl (fun K hK => ?_)
 go_simp
 refine (HCL.out w0 (HB.out.trans (HS0.out.mono HB.out.size))).mono ?_
 rintro e w1 ⟨rfl, hbc⟩
 have HS1 : Hid (Below W0.heap.size W0 w1) := Lib.hid (HS0.out.trans (hbc.mono HS0.out.size))
 refine hK _ _ (fun _ => HS1.out) ?_
 clear hK K hbc HS0
 refine wpX_takeD 8 (some 26) (v := ?q1v8) rfl rfl (by kernel_rfl) (fun _ _ _ h => h) HS1.out (Or.inl ⟨by rfl, ?q1h8⟩) ?_
 case q1h8 =>
  intro W1 hS1
  clear hS1
  go_simp
  first | with_reducible rfl | rw [if_neg (by omega)]
 simp only [Act.put, List.setIfInBounds_toArray, List.set_cons_zero, List.set_cons_succ]
 refine wpX_takeD 9 (some 27) (v := ?q1v9) rfl rfl (by kernel_rfl) (fun _ _ _ h => h) HS1.out (Or.inl ⟨by rfl, ?q1h9⟩) ?_
 case q1h9 =>
  intro W1 hS1
  clear hS1
  go_simp
  first | with_reducible rfl | rw [if_neg (by omega)]
 refine wpX_takeD 10 (some 2) (v := ?q1v10) rfl rfl (by kernel_rfl) (fun _ _ _ h => h) HS1.out (Or.inl ⟨by rfl, ?q1h10⟩) ?_
 case q1h10 =>
  intro W1 hS1
  clear hS1
  go_simp
  first | with_reducible rfl | rw [if_neg (by omega)]
 simp only [Act.put, List.setIfInBounds_toArray, List.set_cons_zero, List.set_cons_succ]
 refine wpX_done (by kernel_rfl) ?_ _
 have HB2 := HB.out.trans (HS1.out.mono HB.out.size)
 clear HCL HRB HB HS1
 go_wp2_with fail
 go_ret
 exact ⟨rfl, HB2⟩
end Go.Proofs.YtjmlmelcppbefaaGreatDoor
namespace Go.Proofs.YtjmlmelcppbefaaGreatDoor
open Go.RowKit Go.Maps
set_option maxHeartbeats 8000000 in
theorem rx4 {w : World} {d : Nat} {n : Int} {s : ByteArray} {sl : Int} {lo : Bool} {o : Int} {a : Option Addr} {cap : Nat} {x : Ex} (ih : RX d) (hT : Tab w) (h0 : 7 < w.heap.size) (hxR : exR isName x d = true) (hX : XlAt w a [x]) (hlen : (exT x).length ≤ 70368744177664) :
  Calls Tryz.prog 28 #[.agg #[.int .i64 4, .int .i64 n, .string s, .int .i64 sl, .bool lo, .int .i64 o, .slice a 1 cap]] w fun e w' => e = .returned (.string (bS (45 :: exW x 6))) ∧ Below w.heap.size w w' := by
 obtain ⟨d46, hu46, hr46⟩ := under46
 have hmx : Tryz.prog.follows .mixedOrders = true := by kernel_rfl
 have hb0 : Below w.heap.size w (w.alloc (.cells #[.int .i64 4, .int .i64 n, .string s, .int .i64 sl, .bool lo, .int .i64 o, .slice a 1 cap] 46)) := (Below.refl _ w).alloc (Nat.le_refl _) _
 have hz0 := Blk.new w 46 [.int .i64 4, .int .i64 n, .string s, .int .i64 sl, .bool lo, .int .i64 o, .slice a 1 cap]
 obtain ⟨b2, off2, cs, rfl, hr, hL⟩ := hX.at (j := 0) (by simp)
 simp only [List.getD_cons_zero, Nat.zero_mul, Nat.add_zero] at hL hr
 have hcl := fun (W : World) hb => rw_of ih x cs 6 W (Tab.below hT hb (by omega)) (Nat.lt_of_lt_of_le h0 hb.size) hxR (hL.below (w' := W) hb) hlen
 have hr0 : (w.alloc (.cells #[.int .i64 4, .int .i64 n, .string s, .int .i64 sl, .bool lo, .int .i64 o, .slice (some ⟨b2, off2, none⟩) 1 cap] 46)).rangeAt b2 off2 cs := fun j v hv => by
  have hv := hr j v hv
  rw [← hv]
  simp [World.cell?, hb0.block b2 (World.block_lt_of_cell? w _ hv)]
 have hl7 := hL.cells.1
 obtain ⟨tx, htx⟩ : ∃ tx, bS (exW x 6) = tx := ⟨_, rfl⟩
 have hsz : tx.size ≤ 70368744177666 := by
  rw [← htx, bS_size]
  have := par_le2 x.bind 6 (exT x)
  unfold exW
  omega
 have hres : bS (45 :: exW x 6) = ⟨#[45]⟩ ++ tx := by
  rw [← htx]
  exact ba_ext (by simp [bS])
 rw [hres]
 rw [htx, show ((6 : Nat) : Int) = 6 from rfl] at hcl
 have HCL := Lib.hid hcl
 have HR0 := Lib.hid hr0
 have HB := Lib.hid hb0
 clear hcl hb0 hr0 hX hr hL hT h0 hxR hlen hres htx hz0
 go_enter Tryz.func28, Tryz.ntmps28
 go_wp2_with ((with_reducible show wpList _ _ _ (Oper.mk _ (.load 46 _) _ _ _ _ :: _) _ _); refine wpList_load_mid rfl 46 (.tmp 32) rfl b2 off2 rfl cs d46 HR0.out hu46 hr46 (by rw [hl7]; exact info46) ?_)
 refine (HCL.out _ HB.out).mono ?_
 rintro e w1 ⟨rfl, hb1⟩
 have HB2 := HB.out.trans (hb1.mono HB.out.size)
 clear hb1 HCL HB HR0
 go_wp2_with fail
 go_ret
 exact ⟨rfl, HB2⟩
set_option maxHeartbeats 8000000 in
theorem rx5 {w : World} {d : Nat} {n : Int} {s : ByteArray} {sl : Int} {lo : Bool} {o : Int} {a : Option Addr} {cap : Nat} {x : Ex} (ih : RX d) (hT : Tab w) (h0 : 7 < w.heap.size) (hxR : exR isName x d = true) (hX : XlAt w a [x]) (hlen : (exT x).length ≤ 70368744177664) :
  Calls Tryz.prog 28 #[.agg #[.int .i64 5, .int .i64 n, .string s, .int .i64 sl, .bool lo, .int .i64 o, .slice a 1 cap]] w fun e w' => e = .returned (.string (bS (33 :: exW x 6))) ∧ Below w.heap.size w w' := by
 obtain ⟨d46, hu46, hr46⟩ := under46
 have hmx : Tryz.prog.follows .mixedOrders = true := by kernel_rfl
 have hb0 : Below w.heap.size w (w.alloc (.cells #[.int .i64 5, .int .i64 n, .string s, .int .i64 sl, .bool lo, .int .i64 o, .slice a 1 cap] 46)) := (Below.refl _ w).alloc (Nat.le_refl _) _
 have hz0 := Blk.new w 46 [.int .i64 5, .int .i64 n, .string s, .int .i64 sl, .bool lo, .int .i64 o, .slice a 1 cap]
 obtain ⟨b2, off2, cs, rfl, hr, hL⟩ := hX.at (j := 0) (by simp)
 simp only [List.getD_cons_zero, Nat.zero_mul, Nat.add_zero] at hL hr
 have hcl := fun (W : World) hb => rw_of ih x cs 6 W (Tab.below hT hb (by omega)) (Nat.lt_of_lt_of_le h0 hb.size) hxR (hL.below (w' := W) hb) hlen
 have hr0 : (w.alloc (.cells #[.int .i64 5, .int .i64 n, .string s, .int .i64 sl, .bool lo, .int .i64 o, .slice (some ⟨b2, off2, none⟩) 1 cap] 46)).rangeAt b2 off2 cs := fun j v hv => by
  have hv := hr j v hv
  rw [← hv]
  simp [World.cell?, hb0.block b2 (World.block_lt_of_cell? w _ hv)]
 have hl7 := hL.cells.1
 obtain ⟨tx, htx⟩ : ∃ tx, bS (exW x 6) = tx := ⟨_, rfl⟩
 have hsz : tx.size ≤ 70368744177666 := by
  rw [← htx, bS_size]
  have := par_le2 x.bind 6 (exT x)
  unfold exW
  omega
 have hres : bS (33 :: exW x 6) = ⟨#[33]⟩ ++ tx := by
  rw [← htx]
  exact ba_ext (by simp [bS])
 rw [hres]
 rw [htx, show ((6 : Nat) : Int) = 6 from rfl] at hcl
 have HCL := Lib.hid hcl
 have HR0 := Lib.hid hr0
 have HB := Lib.hid hb0
 clear hcl hb0 hr0 hX hr hL hT h0 hxR hlen hres htx hz0
 go_enter Tryz.func28, Tryz.ntmps28
 go_wp2_with ((with_reducible show wpList _ _ _ (Oper.mk _ (.load 46 _) _ _ _ _ :: _) _ _); refine wpList_load_mid rfl 46 (.tmp 40) rfl b2 off2 rfl cs d46 HR0.out hu46 hr46 (by rw [hl7]; exact info46) ?_)
 refine (HCL.out _ HB.out).mono ?_
 rintro e w1 ⟨rfl, hb1⟩
 have HB2 := HB.out.trans (hb1.mono HB.out.size)
 clear hb1 HCL HB HR0
 go_wp2_with fail
 go_ret
 exact ⟨rfl, HB2⟩
end Go.Proofs.YtjmlmelcppbefaaGreatDoor
namespace Go.Proofs.YtjmlmelcppbefaaGreatDoor
open Go.RowKit Go.Maps
set_option maxHeartbeats 4000000 in
theorem rx6 {w : World} {d : Nat} {n : Int} {s : ByteArray} {sl : Int} {lo : Bool} {o : Nat} {a : Option Addr} {cap : Nat} {x y : Ex} (ih : RX d) (hT : Tab w) (h0 : 7 < w.heap.size) (ho : o < 12) (hxR : exR isName x d = true) (hyR : exR isName y d = true) (hX : XlAt w a [x, y]) (hlen : (exT x).length ≤ 70368744177664) (hlen2 : (exT y).length ≤ 70368744177664) :
  Calls Tryz.prog 28 #[.agg #[.int .i64 6, .int .i64 n, .string s, .int .i64 sl, .bool lo, .int .i64 (o : Int), .slice a 2 cap]] w fun e w' => e = .returned (.string (bS (exW x (if rankOf o = 3 then 4 else rankOf o) ++ (32 :: ((opS.getD o noB).data.toList ++ (32 :: exW y (rankOf o + 1))))))) ∧ Below w.heap.size w w' := by
 obtain ⟨d46, hu46, hr46⟩ := under46
 have hmx : Tryz.prog.follows .mixedOrders = true := by kernel_rfl
 have hb0 : Below w.heap.size w (w.alloc (.cells #[.int .i64 6, .int .i64 n, .string s, .int .i64 sl, .bool lo, .int .i64 (o : Int), .slice a 2 cap] 46)) := (Below.refl _ w).alloc (Nat.le_refl _) _
 have hz0 := Blk.new w 46 [.int .i64 6, .int .i64 n, .string s, .int .i64 sl, .bool lo, .int .i64 (o : Int), .slice a 2 cap]
 obtain ⟨b2, off2, cs, rfl, hr, hL⟩ := hX.at (j := 0) (by simp)
 obtain ⟨b3, off3, ds, hb23, hr2, hL2⟩ := hX.at (j := 1) (by simp)
 obtain ⟨rfl, rfl, -⟩ : b2 = b3 ∧ off2 = off3 ∧ True := by simpa using hb23
 simp only [List.getD_cons_zero, List.getD_cons_succ, Nat.zero_mul, Nat.add_zero, Nat.one_mul] at hL hr hL2 hr2
 obtain ⟨r, hrk⟩ : ∃ r, rankOf o = r := ⟨_, rfl⟩
 obtain ⟨lv, hlv⟩ : ∃ lv, (if r = 3 then 4 else r) = lv := ⟨_, rfl⟩
 rw [hrk, hlv]
 have hr5 : r ≤ 5 := by rw [← hrk]; exact (show ∀ j : Fin 12, rankOf j.val ≤ 5 by decide) ⟨o, ho⟩
 have hcl := fun (W : World) hb => rw_of ih x cs lv W (Tab.below hT hb (by omega)) (Nat.lt_of_lt_of_le h0 hb.size) hxR (hL.below (w' := W) hb) hlen
 have hcl2 := fun (W : World) hb => rw_of ih y ds (r + 1) W (Tab.below hT hb (by omega)) (Nat.lt_of_lt_of_le h0 hb.size) hyR (hL2.below (w' := W) hb) hlen2
 have hrk0 := fun W => rrank_any W ho
 rw [hrk] at hrk0
 have hsg := fun W => rsign_any W ho
 have hrB : ∀ W, Below w.heap.size w W → W.rangeAt b2 off2 cs ∧ W.rangeAt b2 (off2 + 7) ds := fun W hb => by
  have hk : ∀ (b o : Nat) (v : Value), w.cell? ⟨b, o, none⟩ = some v → W.cell? ⟨b, o, none⟩ = some v := fun b o v hv => by rw [← hv]; simp [World.cell?, hb.block b (World.block_lt_of_cell? w _ hv)]
  exact ⟨fun j v hv => hk _ _ _ (hr j v hv), fun j v hv => hk _ _ _ (hr2 j v hv)⟩
 have hl7 := hL.cells.1
 have hl72 := hL2.cells.1
 obtain ⟨tx, htx⟩ : ∃ tx, bS (exW x lv) = tx := ⟨_, rfl⟩
 obtain ⟨ty, hty⟩ : ∃ ty, bS (exW y (r + 1)) = ty := ⟨_, rfl⟩
 obtain ⟨sg, hsge⟩ : ∃ sg, opS.getD o noB = sg := ⟨_, rfl⟩
 have hsz : tx.size ≤ 70368744177666 := by
  rw [← htx, bS_size]
  have := par_le2 x.bind lv (exT x)
  unfold exW
  omega
 have hsz2 : ty.size ≤ 70368744177666 := by
  rw [← hty, bS_size]
  have := par_le2 y.bind (r + 1) (exT y)
  unfold exW
  omega
 have hsz3 : sg.size ≤ 2 := by rw [← hsge]; exact (show ∀ j : Fin 12, (opS.getD j.val noB).size ≤ 2 by decide) ⟨o, ho⟩
 have hres : bS (exW x lv ++ (32 :: ((opS.getD o noB).data.toList ++ (32 :: exW y (r + 1))))) = tx ++ ⟨#[32]⟩ ++ sg ++ ⟨#[32]⟩ ++ ty := by
  rw [← htx, ← hty, ← hsge]
  exact ba_ext (by simp [bS])
 rw [hres]
 rw [htx] at hcl
 rw [hty, show ((r + 1 : Nat) : Int) = (r : Int) + 1 from by omega] at hcl2
 rw [hsge] at hsg
 have z5 := hz0.cell 5
 have z6 := hz0.cell 6
 simp only [List.getElem?_cons_succ, List.getElem?_cons_zero] at z5 z6
 have HZ := Lib.hid hz0
 have HCL := Lib.hid (And.intro hcl (And.intro hcl2 (And.intro hrk0 hsg)))
 have HRB := Lib.hid hrB
 have HB := Lib.hid hb0
 clear hcl hcl2 hrk0 hsg hrB hb0 hX hr hL hr2 hL2 hT h0 hxR hyR hlen hlen2 hres htx hty hsge hz0 hb23 ho hrk
 go_enter Tryz.func28, Tryz.ntmps28
 go_wp2_with fail
 generalize w.alloc (.cells #[.int .i64 6, .int .i64 n, .string s, .int .i64 sl, .bool lo, .int .i64 (o : Int), .slice (some ⟨b2, off2, none⟩) 2 cap] 46) = W0 at *
 refine (HCL.out.2.2.1 _).mono ?_
 rintro e W1 ⟨rfl, hb1⟩
 have HB1 := Lib.hid (HB.out.trans (hb1.mono HB.out.size))
 have HZ1 := HZ.out.below hb1
 have z5 := HZ1.cell 5
 have z6 := HZ1.cell 6
 simp only [List.getElem?_cons_succ, List.getElem?_cons_zero] at z5 z6
 clear HB HZ HZ1 hb1
 have hlv2 : (r = 3 ∧ lv = 4) ∨ (¬ r = 3 ∧ lv = r) := by
  rw [← hlv]
  by_cases h3 : r = 3
  ·exact .inl ⟨h3, if_pos h3⟩
  ·exact .inr ⟨h3, if_neg h3⟩
 clear hlv
 rcases hlv2 with ⟨rfl, rfl⟩ | ⟨h3, rfl⟩
 ·have HCA : Hid ((∀ W, Below w.heap.size w W → Calls Tryz.prog 53 #[.agg cs.toArray, .int .i64 4] W fun e w' => e = .returned (.string tx) ∧ Below W.heap.size W w') ∧ (∀ W, Below w.heap.size w W → Calls Tryz.prog 53 #[.agg ds.toArray, .int .i64 4] W fun e w' => e = .returned (.string ty) ∧ Below W.heap.size W w') ∧ (∀ W, Calls Tryz.prog 55 #[.int .i64 (o : Int)] W fun e w' => e = .returned (.string sg) ∧ Below W.heap.size W w')) := Lib.hid (by
   have h1 := HCL.out.1
   have h2 := HCL.out.2.1
   rw [show ((4 : Nat) : Int) = 4 from rfl] at h1
   rw [show ((3 : Nat) : Int) + 1 = 4 from rfl] at h2
   exact ⟨h1, h2, HCL.out.2.2.2⟩)
  clear HCL
  go_wp2_with fail
  refine wp_region_x [] (fun W => Below W1.heap.size W1 W) hmx ?_
  have HS0 : Hid (Below W1.heap.size W1 W1.drew) := Lib.hid ((Below.refl _ W1).drew)
  obtain ⟨w0, hw0⟩ : ∃ w0, W1.drew = w0 := ⟨_, rfl⟩
  rw [hw0] at HS0 ⊢
  clear hw0
  refine wpX_takeD 0 (some 50) (v := ?q2v0) rfl rfl (by kernel_rfl) (fun _ _ _ h => h) HS0.out (Or.inl ⟨by rfl, ?q2h0⟩) ?_
  case q2h0 =>
   intro Wx hS1
   clear hS1
   go_simp
   first | with_reducible rfl | rw [if_neg (by omega)]
  refine wpX_takeD 1 (some 51) (v := ?q2v1) rfl rfl (by kernel_rfl) (fun _ _ _ h => h) HS0.out (Or.inl ⟨by rfl, ?q2h1⟩) ?_
  case q2h1 =>
   intro Wx hS1
   have f5 : Wx.cell? ⟨w.heap.size, 5, none⟩ = _ := (hS1.cell (p := ⟨w.heap.size, 5, none⟩) (World.block_lt_of_cell? W1 _ z5)).trans z5
   have f6 : Wx.cell? ⟨w.heap.size, 6, none⟩ = _ := (hS1.cell (p := ⟨w.heap.size, 6, none⟩) (World.block_lt_of_cell? W1 _ z6)).trans z6
   clear hS1
   go_simp
   first | with_reducible rfl | rw [if_neg (by omega)]
  refine wpX_takeD 2 (some 52) (v := ?q2v2) rfl rfl (by kernel_rfl) (fun _ _ _ h => h) HS0.out (Or.inl ⟨by rfl, ?q2h2⟩) ?_
  case q2h2 =>
   intro Wx hS1
   clear hS1
   go_simp
   first | with_reducible rfl | rw [if_neg (by omega)]
  refine wpX_takeD 3 (some 53) (v := .agg cs.toArray) rfl rfl (by kernel_rfl) (fun _ _ _ h => h) HS0.out (yieldsIf_load_mid (by rfl) 46 (.tmp 52) rfl b2 off2 rfl cs d46 (fun W1 hS1 => (HRB.out W1 (HB1.out.trans (hS1.mono HB1.out.size))).1) hu46 hr46 (by rw [hl7]; exact info46)) ?_
  simp only [Act.put, List.setIfInBounds_toArray, List.set_cons_zero, List.set_cons_succ]
  refine wpX_takeD 4 (some 54) (v := ?q2v4) rfl rfl (by kernel_rfl) (fun _ _ _ h => h) HS0.out (Or.inl ⟨by rfl, ?q2h4⟩) ?_
  case q2h4 =>
   intro Wx hS1
   clear hS1
   go_simp
   first | with_reducible rfl | rw [if_neg (by omega)]
  refine wpX_takeD 7 (some 57) (v := ?q2v7) rfl rfl (by kernel_rfl) (fun _ _ _ h => h) HS0.out (Or.inl ⟨by rfl, ?q2h7⟩) ?_
  case q2h7 =>
   intro Wx hS1
   clear hS1
   go_simp
   first | with_reducible rfl | rw [if_neg (by omega)]
  refine wpX_takeD 8 (some 58) (v := ?q2v8) rfl rfl (by kernel_rfl) (fun _ _ _ h => h) HS0.out (Or.inl ⟨by rfl, ?q2h8⟩) ?_
  case q2h8 =>
   intro Wx hS1
   have f5 : Wx.cell? ⟨w.heap.size, 5, none⟩ = _ := (hS1.cell (p := ⟨w.heap.size, 5, none⟩) (World.block_lt_of_cell? W1 _ z5)).trans z5
   have f6 : Wx.cell? ⟨w.heap.size, 6, none⟩ = _ := (hS1.cell (p := ⟨w.heap.size, 6, none⟩) (World.block_lt_of_cell? W1 _ z6)).trans z6
   clear hS1
   go_simp
   first | with_reducible rfl | rw [if_neg (by omega)]
  refine wpX_takeD 12 (some 62) (v := ?q2v12) rfl rfl (by kernel_rfl) (fun _ _ _ h => h) HS0.out (Or.inl ⟨by rfl, ?q2h12⟩) ?_
  case q2h12 =>
   intro Wx hS1
   clear hS1
   go_simp
   first | with_reducible rfl | rw [if_neg (by omega)]
  simp only [Act.put, List.setIfInBounds_toArray, List.set_cons_zero, List.set_cons_succ]
  refine wpX_takeD 13 (some 63) (v := ?q2v13) rfl rfl (by kernel_rfl) (fun _ _ _ h => h) HS0.out (Or.inl ⟨by rfl, ?q2h13⟩) ?_
  case q2h13 =>
   intro Wx hS1
   have f5 : Wx.cell? ⟨w.heap.size, 5, none⟩ = _ := (hS1.cell (p := ⟨w.heap.size, 5, none⟩) (World.block_lt_of_cell? W1 _ z5)).trans z5
   have f6 : Wx.cell? ⟨w.heap.size, 6, none⟩ = _ := (hS1.cell (p := ⟨w.heap.size, 6, none⟩) (World.block_lt_of_cell? W1 _ z6)).trans z6
   clear hS1
   go_simp
   first | with_reducible rfl | rw [if_neg (by omega)]
  refine wpX_takeD 14 (some 64) (v := ?q2v14) rfl rfl (by kernel_rfl) (fun _ _ _ h => h) HS0.out (Or.inl ⟨by rfl, ?q2h14⟩) ?_
  case q2h14 =>
   intro Wx hS1
   clear hS1
   go_simp
   first | with_reducible rfl | rw [if_neg (by omega)]
  refine wpX_takeD 15 (some 65) (v := .agg ds.toArray) rfl rfl (by kernel_rfl) (fun _ _ _ h => h) HS0.out (yieldsIf_load_mid (by rfl) 46 (.tmp 64) rfl b2 (off2 + 7) rfl ds d46 (fun W1 hS1 => (HRB.out W1 (HB1.out.trans (hS1.mono HB1.out.size))).2) hu46 hr46 (by rw [hl72]; exact info46)) ?_
  refine wpX_takeD 16 (some 66) (v := ?q2v16) rfl rfl (by kernel_rfl) (fun _ _ _ h => h) HS0.out (Or.inl ⟨by rfl, ?q2h16⟩) ?_
  case q2h16 =>
   intro Wx hS1
   clear hS1
   go_simp
   first | with_reducible rfl | rw [if_neg (by omega)]
  simp only [Act.put, List.setIfInBounds_toArray, List.set_cons_zero, List.set_cons_succ]
  refine wpX_takeD 17 (some 67) (v := ?q2v17) rfl rfl (by kernel_rfl) (fun _ _ _ h => h) HS0.out (Or.inl ⟨by rfl, ?q2h17⟩) ?_
  case q2h17 =>
   intro Wx hS1
   clear hS1
   go_simp
   first | with_reducible rfl | rw [if_neg (by omega)]
  simp only [Act.put, List.setIfInBounds_toArray, List.set_cons_zero, List.set_cons_succ]
  refine wpX_one 5 (by kernel_rfl) rfl (fun K hK => ?_)
  go_simp
  refine (HCA.out.1 w0 (HB1.out.trans (HS0.out.mono HB1.out.size))).mono ?_
  rintro e wa ⟨rfl, hbc⟩
  have HS1 : Hid (Below W1.heap.size W1 wa) := Lib.hid (HS0.out.trans (hbc.mono HS0.out.size))
  refine hK _ _ (fun _ => HS1.out) ?_
  clear hK K hbc HS0
  refine wpX_takeD 6 (some 56) (v := ?q2v6) rfl rfl (by kernel_rfl) (fun _ _ _ h => h) HS1.out (Or.inl ⟨by rfl, ?q2h6⟩) ?_
  case q2h6 =>
   intro Wx hS1
   clear hS1
   go_simp
   first | with_reducible rfl | rw [if_neg (by omega)]
  simp only [Act.put, List.setIfInBounds_toArray, List.set_cons_zero, List.set_cons_succ]
  refine wpX_one 9 (by kernel_rfl) rfl (fun K hK => ?_)
  go_simp
  refine (HCA.out.2.2 wa).mono ?_
  rintro e wb ⟨rfl, hbc⟩
  have HS2 : Hid (Below W1.heap.size W1 wb) := Lib.hid (HS1.out.trans (hbc.mono HS1.out.size))
  refine hK _ _ (fun _ => HS2.out) ?_
  clear hK K hbc HS1
  refine wpX_takeD 10 (some 60) (v := ?q2v10) rfl rfl (by kernel_rfl) (fun _ _ _ h => h) HS2.out (Or.inl ⟨by rfl, ?q2h10⟩) ?_
  case q2h10 =>
   intro Wx hS1
   clear hS1
   go_simp
   first | with_reducible rfl | rw [if_neg (by omega)]
  refine wpX_takeD 11 (some 61) (v := ?q2v11) rfl rfl (by kernel_rfl) (fun _ _ _ h => h) HS2.out (Or.inl ⟨by rfl, ?q2h11⟩) ?_
  case q2h11 =>
   intro Wx hS1
   clear hS1
   go_simp
   first | with_reducible rfl | rw [if_neg (by omega)]
  simp only [Act.put, List.setIfInBounds_toArray, List.set_cons_zero, List.set_cons_succ]
  refine wpX_one 18 (by kernel_rfl) rfl (fun K hK => ?_)
  go_simp
  refine (HCA.out.2.1 wb (HB1.out.trans (HS2.out.mono HB1.out.size))).mono ?_
  rintro e wc ⟨rfl, hbc⟩
  have HS3 : Hid (Below W1.heap.size W1 wc) := Lib.hid (HS2.out.trans (hbc.mono HS2.out.size))
  refine hK _ _ (fun _ => HS3.out) ?_
  clear hK K hbc HS2
  refine wpX_takeD 19 (some 69) (v := ?q2v19) rfl rfl (by kernel_rfl) (fun _ _ _ h => h) HS3.out (Or.inl ⟨by rfl, ?q2h19⟩) ?_
  case q2h19 =>
   intro Wx hS1
   clear hS1
   go_simp
   first | with_reducible rfl | rw [if_neg (by omega)]
  refine wpX_takeD 20 (some 2) (v := ?q2v20) rfl rfl (by kernel_rfl) (fun _ _ _ h => h) HS3.out (Or.inl ⟨by rfl, ?q2h20⟩) ?_
  case q2h20 =>
   intro Wx hS1
   clear hS1
   go_simp
   first | with_reducible rfl | rw [if_neg (by omega)]
  simp only [Act.put, List.setIfInBounds_toArray, List.set_cons_zero, List.set_cons_succ]
  refine wpX_done (by kernel_rfl) ?_ _
  have HB2 := HB1.out.trans (HS3.out.mono HB1.out.size)
  clear HCA HRB HB1 HS3 hsz hsz2 hsz3
  go_wp2_with fail
  go_ret
  exact ⟨rfl, HB2⟩
 ·have h3i : ((lv : Int) == 3) = false := by rw [beq_eq_false_iff_ne]; omega
  obtain ⟨li, hli⟩ : ∃ li : Int, (lv : Int) = li := ⟨_, rfl⟩
  rw [hli] at h3i ⊢
  have HLR : Hid (li + 1 ≤ 9223372036854775807) := Lib.hid (by omega)
  have HCA : Hid ((∀ W, Below w.heap.size w W → Calls Tryz.prog 53 #[.agg cs.toArray, .int .i64 li] W fun e w' => e = .returned (.string tx) ∧ Below W.heap.size W w') ∧ (∀ W, Below w.heap.size w W → Calls Tryz.prog 53 #[.agg ds.toArray, .int .i64 (IntKind.i64.wrap (li + 1))] W fun e w' => e = .returned (.string ty) ∧ Below W.heap.size W w') ∧ (∀ W, Calls Tryz.prog 55 #[.int .i64 (o : Int)] W fun e w' => e = .returned (.string sg) ∧ Below W.heap.size W w')) := Lib.hid (by rw [IntWalk.i64_in (li + 1) (by omega), ← hli]; exact ⟨fun W hb => HCL.out.1 W hb, fun W hb => HCL.out.2.1 W hb, fun W => HCL.out.2.2.2 W⟩)
  clear HCL h3 hr5 hli
  go_wp2_with fail
  have hlr := HLR.out
  clear HLR
  refine wp_region_x [] (fun W => Below W1.heap.size W1 W) hmx ?_
  have HS0 : Hid (Below W1.heap.size W1 W1.drew) := Lib.hid ((Below.refl _ W1).drew)
  obtain ⟨w0, hw0⟩ : ∃ w0, W1.drew = w0 := ⟨_, rfl⟩
  rw [hw0] at HS0 ⊢
  clear hw0
  refine wpX_takeD 0 (some 50) (v := ?q3v0) rfl rfl (by kernel_rfl) (fun _ _ _ h => h) HS0.out (Or.inl ⟨by rfl, ?q3h0⟩) ?_
  case q3h0 =>
   intro Wx hS1
   clear hS1
   go_simp
   first | with_reducible rfl | rw [if_neg (by omega)]
  refine wpX_takeD 1 (some 51) (v := ?q3v1) rfl rfl (by kernel_rfl) (fun _ _ _ h => h) HS0.out (Or.inl ⟨by rfl, ?q3h1⟩) ?_
  case q3h1 =>
   intro Wx hS1
   have f5 : Wx.cell? ⟨w.heap.size, 5, none⟩ = _ := (hS1.cell (p := ⟨w.heap.size, 5, none⟩) (World.block_lt_of_cell? W1 _ z5)).trans z5
   have f6 : Wx.cell? ⟨w.heap.size, 6, none⟩ = _ := (hS1.cell (p := ⟨w.heap.size, 6, none⟩) (World.block_lt_of_cell? W1 _ z6)).trans z6
   clear hS1
   go_simp
   first | with_reducible rfl | rw [if_neg (by omega)]
  refine wpX_takeD 2 (some 52) (v := ?q3v2) rfl rfl (by kernel_rfl) (fun _ _ _ h => h) HS0.out (Or.inl ⟨by rfl, ?q3h2⟩) ?_
  case q3h2 =>
   intro Wx hS1
   clear hS1
   go_simp
   first | with_reducible rfl | rw [if_neg (by omega)]
  refine wpX_takeD 3 (some 53) (v := .agg cs.toArray) rfl rfl (by kernel_rfl) (fun _ _ _ h => h) HS0.out (yieldsIf_load_mid (by rfl) 46 (.tmp 52) rfl b2 off2 rfl cs d46 (fun W1 hS1 => (HRB.out W1 (HB1.out.trans (hS1.mono HB1.out.size))).1) hu46 hr46 (by rw [hl7]; exact info46)) ?_
  simp only [Act.put, List.setIfInBounds_toArray, List.set_cons_zero, List.set_cons_succ]
  refine wpX_takeD 4 (some 54) (v := ?q3v4) rfl rfl (by kernel_rfl) (fun _ _ _ h => h) HS0.out (Or.inl ⟨by rfl, ?q3h4⟩) ?_
  case q3h4 =>
   intro Wx hS1
   clear hS1
   go_simp
   first | with_reducible rfl | rw [if_neg (by omega)]
  refine wpX_takeD 7 (some 57) (v := ?q3v7) rfl rfl (by kernel_rfl) (fun _ _ _ h => h) HS0.out (Or.inl ⟨by rfl, ?q3h7⟩) ?_
  case q3h7 =>
   intro Wx hS1
   clear hS1
   go_simp
   first | with_reducible rfl | rw [if_neg (by omega)]
  refine wpX_takeD 8 (some 58) (v := ?q3v8) rfl rfl (by kernel_rfl) (fun _ _ _ h => h) HS0.out (Or.inl ⟨by rfl, ?q3h8⟩) ?_
  case q3h8 =>
   intro Wx hS1
   have f5 : Wx.cell? ⟨w.heap.size, 5, none⟩ = _ := (hS1.cell (p := ⟨w.heap.size, 5, none⟩) (World.block_lt_of_cell? W1 _ z5)).trans z5
   have f6 : Wx.cell? ⟨w.heap.size, 6, none⟩ = _ := (hS1.cell (p := ⟨w.heap.size, 6, none⟩) (World.block_lt_of_cell? W1 _ z6)).trans z6
   clear hS1
   go_simp
   first | with_reducible rfl | rw [if_neg (by omega)]
  refine wpX_takeD 12 (some 62) (v := ?q3v12) rfl rfl (by kernel_rfl) (fun _ _ _ h => h) HS0.out (Or.inl ⟨by rfl, ?q3h12⟩) ?_
  case q3h12 =>
   intro Wx hS1
   clear hS1
   go_simp
   first | with_reducible rfl | rw [if_neg (by omega)]
  simp only [Act.put, List.setIfInBounds_toArray, List.set_cons_zero, List.set_cons_succ]
  refine wpX_takeD 13 (some 63) (v := ?q3v13) rfl rfl (by kernel_rfl) (fun _ _ _ h => h) HS0.out (Or.inl ⟨by rfl, ?q3h13⟩) ?_
  case q3h13 =>
   intro Wx hS1
   have f5 : Wx.cell? ⟨w.heap.size, 5, none⟩ = _ := (hS1.cell (p := ⟨w.heap.size, 5, none⟩) (World.block_lt_of_cell? W1 _ z5)).trans z5
   have f6 : Wx.cell? ⟨w.heap.size, 6, none⟩ = _ := (hS1.cell (p := ⟨w.heap.size, 6, none⟩) (World.block_lt_of_cell? W1 _ z6)).trans z6
   clear hS1
   go_simp
   first | with_reducible rfl | rw [if_neg (by omega)]
  refine wpX_takeD 14 (some 64) (v := ?q3v14) rfl rfl (by kernel_rfl) (fun _ _ _ h => h) HS0.out (Or.inl ⟨by rfl, ?q3h14⟩) ?_
  case q3h14 =>
   intro Wx hS1
   clear hS1
   go_simp
   first | with_reducible rfl | rw [if_neg (by omega)]
  refine wpX_takeD 15 (some 65) (v := .agg ds.toArray) rfl rfl (by kernel_rfl) (fun _ _ _ h => h) HS0.out (yieldsIf_load_mid (by rfl) 46 (.tmp 64) rfl b2 (off2 + 7) rfl ds d46 (fun W1 hS1 => (HRB.out W1 (HB1.out.trans (hS1.mono HB1.out.size))).2) hu46 hr46 (by rw [hl72]; exact info46)) ?_
  refine wpX_takeD 16 (some 66) (v := ?q3v16) rfl rfl (by kernel_rfl) (fun _ _ _ h => h) HS0.out (Or.inl ⟨by rfl, ?q3h16⟩) ?_
  case q3h16 =>
   intro Wx hS1
   clear hS1
   go_simp
   first | with_reducible rfl | rw [if_neg (by omega)]
  simp only [Act.put, List.setIfInBounds_toArray, List.set_cons_zero, List.set_cons_succ]
  refine wpX_takeD 17 (some 67) (v := ?q3v17) rfl rfl (by kernel_rfl) (fun _ _ _ h => h) HS0.out (Or.inl ⟨by rfl, ?q3h17⟩) ?_
  case q3h17 =>
   intro Wx hS1
   clear hS1
   go_simp
   first | with_reducible rfl | rw [if_neg (by omega)]
  simp only [Act.put, List.setIfInBounds_toArray, List.set_cons_zero, List.set_cons_succ]
  refine wpX_one 5 (by kernel_rfl) rfl (fun K hK => ?_)
  go_simp
  refine (HCA.out.1 w0 (HB1.out.trans (HS0.out.mono HB1.out.size))).mono ?_
  rintro e wa ⟨rfl, hbc⟩
  have HS1 : Hid (Below W1.heap.size W1 wa) := Lib.hid (HS0.out.trans (hbc.mono HS0.out.size))
  refine hK _ _ (fun _ => HS1.out) ?_
  clear hK K hbc HS0
  refine wpX_takeD 6 (some 56) (v := ?q3v6) rfl rfl (by kernel_rfl) (fun _ _ _ h => h) HS1.out (Or.inl ⟨by rfl, ?q3h6⟩) ?_
  case q3h6 =>
   intro Wx hS1
   clear hS1
   go_simp
   first | with_reducible rfl | rw [if_neg (by omega)]
  simp only [Act.put, List.setIfInBounds_toArray, List.set_cons_zero, List.set_cons_succ]
  refine wpX_one 9 (by kernel_rfl) rfl (fun K hK => ?_)
  go_simp
  refine (HCA.out.2.2 wa).mono ?_
  rintro e wb ⟨rfl, hbc⟩
  have HS2 : Hid (Below W1.heap.size W1 wb) := Lib.hid (HS1.out.trans (hbc.mono HS1.out.size))
  refine hK _ _ (fun _ => HS2.out) ?_
  clear hK K hbc HS1
  refine wpX_takeD 10 (some 60) (v := ?q3v10) rfl rfl (by kernel_rfl) (fun _ _ _ h => h) HS2.out (Or.inl ⟨by rfl, ?q3h10⟩) ?_
  case q3h10 =>
   intro Wx hS1
   clear hS1
   go_simp
   first | with_reducible rfl | rw [if_neg (by omega)]
  refine wpX_takeD 11 (some 61) (v := ?q3v11) rfl rfl (by kernel_rfl) (fun _ _ _ h => h) HS2.out (Or.inl ⟨by rfl, ?q3h11⟩) ?_
  case q3h11 =>
   intro Wx hS1
   clear hS1
   go_simp
   first | with_reducible rfl | rw [if_neg (by omega)]
  simp only [Act.put, List.setIfInBounds_toArray, List.set_cons_zero, List.set_cons_succ]
  refine wpX_one 18 (by kernel_rfl) rfl (fun K hK => ?_)
  go_simp
  refine (HCA.out.2.1 wb (HB1.out.trans (HS2.out.mono HB1.out.size))).mono ?_
  rintro e wc ⟨rfl, hbc⟩
  have HS3 : Hid (Below W1.heap.size W1 wc) := Lib.hid (HS2.out.trans (hbc.mono HS2.out.size))
  refine hK _ _ (fun _ => HS3.out) ?_
  clear hK K hbc HS2
  refine wpX_takeD 19 (some 69) (v := ?q3v19) rfl rfl (by kernel_rfl) (fun _ _ _ h => h) HS3.out (Or.inl ⟨by rfl, ?q3h19⟩) ?_
  case q3h19 =>
   intro Wx hS1
   clear hS1
   go_simp
   first | with_reducible rfl | rw [if_neg (by omega)]
  refine wpX_takeD 20 (some 2) (v := ?q3v20) rfl rfl (by kernel_rfl) (fun _ _ _ h => h) HS3.out (Or.inl ⟨by rfl, ?q3h20⟩) ?_
  case q3h20 =>
   intro Wx hS1
   clear hS1
   go_simp
   first | with_reducible rfl | rw [if_neg (by omega)]
  simp only [Act.put, List.setIfInBounds_toArray, List.set_cons_zero, List.set_cons_succ]
  refine wpX_done (by kernel_rfl) ?_ _
  have HB2 := HB1.out.trans (HS3.out.mono HB1.out.size)
  clear HCA HRB HB1 HS3 h3i hlr hsz hsz2 hsz3
  generalize IntKind.i64.wrap (li + 1) = lj
  go_wp2_with fail
  go_ret
  exact ⟨rfl, HB2⟩
theorem rx_step {d : Nat} (ih : RX d) : RX (d + 1) := by
 intro x cs w hT h0 hx hL hlen
 obtain ⟨k, n, s, sl, lo, o, args⟩ := x
 have hcase := exR_cases hx
 have hs16 : k = 3 → s.size ≤ 16 := fun h3 => by
  rw [exR_eq] at hx
  simp only [Bool.and_eq_true] at hx
  have h := hx.2.2.2.1
  rw [if_pos (.inr h3)] at h
  unfold isName at h
  simp only [Bool.and_eq_true, decide_eq_true_eq] at h
  exact h.2.1
 unfold ExL at hL
 obtain ⟨a, cap, rfl, hroom, hargs⟩ := hL
 rcases hcase with ⟨rfl, rfl, hn⟩ | ⟨rfl, rfl⟩ | ⟨hk, x, rfl, hxR⟩ | ⟨rfl, x, y, rfl, hxR, hyR, ho1, ho2⟩
 ·rw [show ([] : List Ex).length = 0 from rfl]
  exact rx1 hT h0 hn
 ·rw [show ([] : List Ex).length = 0 from rfl]
  exact rx2
 ·rcases hk with rfl | rfl | rfl
  ·have h2 : exT (.mk 3 n s sl lo o [x]) = s.data.toList ++ (91 :: (exT x ++ [93])) := by simp [exT]
   rw [h2] at hlen ⊢
   rw [show [x].length = 1 from rfl]
   exact rx3 ih hT h0 hxR hargs (hs16 rfl) (by simp at hlen; omega)
  ·have h2 : exT (.mk 4 n s sl lo o [x]) = 45 :: exW x 6 := by simp [exT, exW]
   rw [h2] at hlen ⊢
   rw [show [x].length = 1 from rfl]
   exact rx4 ih hT h0 hxR hargs (by have := exW_ge x 6; simp at hlen; omega)
  ·have h2 : exT (.mk 5 n s sl lo o [x]) = 33 :: exW x 6 := by simp [exT, exW]
   rw [h2] at hlen ⊢
   rw [show [x].length = 1 from rfl]
   exact rx5 ih hT h0 hxR hargs (by have := exW_ge x 6; simp at hlen; omega)
 ·obtain ⟨q, rfl⟩ : ∃ q : Nat, o = q := ⟨o.toNat, by omega⟩
  have h2 : exT (.mk 6 n s sl lo (q : Int) [x, y]) = exW x (if rankOf q = 3 then 4 else rankOf q) ++ (32 :: ((opS.getD q noB).data.toList ++ (32 :: exW y (rankOf q + 1)))) := by
   simp only [exT, exW, Int.toNat_natCast]
  rw [h2] at hlen ⊢
  rw [show [x, y].length = 2 from rfl]
  have l1 := exW_ge x (if rankOf q = 3 then 4 else rankOf q)
  have l2 := exW_ge y (rankOf q + 1)
  exact rx6 ih hT h0 (by omega) hxR hyR hargs (by simp at hlen; omega) (by simp at hlen; omega)
theorem rx_all : ∀ d, RX d
 | 0 => fun x _ _ _ _ h => by
  obtain ⟨k, n, s, sl, lo, o, args⟩ := x
  rw [exR_eq] at h
  simp at h
 | d + 1 => rx_step (rx_all d)
end Go.Proofs.YtjmlmelcppbefaaGreatDoor
