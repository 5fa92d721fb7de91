/- What the syntax texts share, part 44. No condition. -/
import Derived.Lib.Repeat
import Derived.Test.YtjmlmelcppbefaaGreatDoorT26
import Derived.Test.YtjmlmelcppbefaaGreatDoorT43
set_option maxRecDepth 100000
namespace Go.Proofs.YtjmlmelcppbefaaGreatDoor
open Go.RowKit Go.Maps
theorem stR_inv {k l c : Int} {s t : ByteArray} {x y : Ex} {body els : List St} {id sl ot : Int} {lo : Bool} {d : Nat} (h : stR isName (.mk k l c s t x y body els id sl ot lo) d = true) :
  (1 ≤ k ∧ k ≤ 15) ∧ (nExpr k = true → exR isName x 24 = true) ∧ (k = 3 → exR isName y 24 = true) ∧ stsR isName body (d + 1) = true ∧ stsR isName els (d + 1) = true ∧ (k = 4 ∨ els.length = 0) := by
 unfold stR at h
 simp only [Bool.and_eq_true, decide_eq_true_eq, Bool.or_eq_true] at h
 obtain ⟨hk, -, -, -, h3, hx, -, he, hb, hs⟩ := h
 refine ⟨hk, fun e => ?_, fun e => ?_, hb, hs, he⟩
 ·rwa [if_pos e] at hx
 ·rwa [if_pos e] at h3
set_option maxHeartbeats 8000000 in
theorem ps1 {w0 W : World} {l c : Int} {s t : ByteArray} {x y : Ex} {body els : List St} {id sl ot : Int} {lo : Bool} {cs : List Value} {ind b : Nat} {u : List UInt8} (hE : Env w0) (hx : exR isName x 24 = true) (hL : StL (fun _ => True) w0 cs (.mk 1 l c s t x y body els id sl ot lo)) (hw : Below w0.heap.size w0 W) (hp : Pr w0.heap.size b W u)
  (hlen : u.length + ([108, 101, 116, 32] ++ (s.data.toList ++ ([32, 61, 32] ++ (exT x ++ [59])))).length ≤ 140737488355328) : Calls Tryz.prog 127 #[.pointer (some ⟨b, 0, none⟩), .agg cs.toArray, .int .i64 (ind : Int)] W fun e w' => e = .returned (.tuple #[]) ∧ Pw w0.heap.size b W w' (u ++ ([108, 101, 116, 32] ++ (s.data.toList ++ ([32, 61, 32] ++ (exT x ++ [59]))))) := by
 obtain ⟨d46, hu46, hr46⟩ := under46
 have hl25 := hL.cells.1
 have HZ : Hid (Stz w0 (W.alloc (.cells cs.toArray 64)) W.heap.size (.mk 1 l c s t x y body els id sl ot lo)) := Lib.hid ⟨cs, Blk.new W 64 cs, hl25, hL⟩
 have HP := Lib.hid ((Pw.refl hp).alloc (.cells cs.toArray 64))
 have hzb : W.heap.size ≠ b := by have := hp.lt; omega
 have HCS := Lib.hid (And.intro hl25 hL)
 clear hl25 hp hL
 go_enter Tryz.func127, Tryz.ntmps127
 refine wp_seq_k fun K hK => ?_
 have HK := Lib.hid hK
 clear hK
 go_wp2_with fail
 refine HK.out _ _ ?_
 clear HK K
 obtain ⟨z, hzz⟩ : ∃ z, W.heap.size = z := ⟨_, rfl⟩
 rw [hzz] at HZ hzb ⊢
 generalize W.alloc (.cells cs.toArray 64) = V0 at *
 clear hzz
 obtain ⟨p0, p3, p4, ⟨cx, rx, lx, hLx⟩, ⟨cy, ry, ly, hLy⟩, ⟨ab, capb, p19, hbody⟩, ae, cape, p20, hels⟩ := HZ.out.parts
 have HRX := Lib.hid (And.intro rx (And.intro lx (And.intro ry ly)))
 clear rx lx ry ly
 have hcl := put_new [⟨#[108, 101, 116, 32]⟩, s, ⟨#[32, 61, 32]⟩] (Pw.refl HP.out.p) (by have := hlen; simp [joinB] at this ⊢; omega) (by simp)
 go_wp2_with fail
 refine hcl.mono ?_
 rintro e V1 ⟨rfl, HPn⟩
 have HZ := Lib.hid (HZ.out.kept HPn.kp hzb)
 have HP := Lib.hid (HP.out.go HPn)
 clear hcl HPn p0 p3 p4 hLx hLy p19 hbody p20 hels HRX
 obtain ⟨p0, p3, p4, ⟨cx, rx, lx, hLx⟩, ⟨cy, ry, ly, hLy⟩, ⟨ab, capb, p19, hbody⟩, ae, cape, p20, hels⟩ := HZ.out.parts
 have HRX := Lib.hid (And.intro rx (And.intro lx (And.intro ry ly)))
 clear rx lx ry ly
 have hcl := last_any hE x cx b _ _ hx hLx (hw.trans HP.out.bl) HP.out.p (by have := hlen; simp [joinB] at this ⊢; omega)
 go_wp2_with ((with_reducible show wpList _ _ _ (Oper.mk _ (.load 46 (.tmp 16)) _ _ _ _ :: _) _ _); refine wpList_load_mid rfl 46 (.tmp 16) rfl z 5 rfl cx d46 (And.intro HRX.out.1 HRX.out.2.1).1 hu46 hr46 (by rw [(And.intro HRX.out.1 HRX.out.2.1).2]; exact info46) ?_)
 refine hcl.mono ?_
 rintro e V2 ⟨rfl, HPn⟩
 have HZ := Lib.hid (HZ.out.kept HPn.kp hzb)
 have HP := Lib.hid (HP.out.go HPn)
 clear hcl HPn p0 p3 p4 hLx hLy p19 hbody p20 hels HRX
 go_wp2_with fail
 go_end0
 refine ⟨rfl, ?_⟩
 have := HP.out
 simpa [joinB] using this
set_option maxHeartbeats 8000000 in
theorem ps2 {w0 W : World} {l c : Int} {s t : ByteArray} {x y : Ex} {body els : List St} {id sl ot : Int} {lo : Bool} {cs : List Value} {ind b : Nat} {u : List UInt8} (hE : Env w0) (hx : exR isName x 24 = true) (hL : StL (fun _ => True) w0 cs (.mk 2 l c s t x y body els id sl ot lo)) (hw : Below w0.heap.size w0 W) (hp : Pr w0.heap.size b W u)
  (hlen : u.length + (s.data.toList ++ ([32, 61, 32] ++ (exT x ++ [59]))).length ≤ 140737488355328) : Calls Tryz.prog 127 #[.pointer (some ⟨b, 0, none⟩), .agg cs.toArray, .int .i64 (ind : Int)] W fun e w' => e = .returned (.tuple #[]) ∧ Pw w0.heap.size b W w' (u ++ (s.data.toList ++ ([32, 61, 32] ++ (exT x ++ [59])))) := by
 obtain ⟨d46, hu46, hr46⟩ := under46
 have hl25 := hL.cells.1
 have HZ : Hid (Stz w0 (W.alloc (.cells cs.toArray 64)) W.heap.size (.mk 2 l c s t x y body els id sl ot lo)) := Lib.hid ⟨cs, Blk.new W 64 cs, hl25, hL⟩
 have HP := Lib.hid ((Pw.refl hp).alloc (.cells cs.toArray 64))
 have hzb : W.heap.size ≠ b := by have := hp.lt; omega
 have HCS := Lib.hid (And.intro hl25 hL)
 clear hl25 hp hL
 go_enter Tryz.func127, Tryz.ntmps127
 refine wp_seq_k fun K hK => ?_
 have HK := Lib.hid hK
 clear hK
 go_wp2_with fail
 refine HK.out _ _ ?_
 clear HK K
 obtain ⟨z, hzz⟩ : ∃ z, W.heap.size = z := ⟨_, rfl⟩
 rw [hzz] at HZ hzb ⊢
 generalize W.alloc (.cells cs.toArray 64) = V0 at *
 clear hzz
 obtain ⟨p0, p3, p4, ⟨cx, rx, lx, hLx⟩, ⟨cy, ry, ly, hLy⟩, ⟨ab, capb, p19, hbody⟩, ae, cape, p20, hels⟩ := HZ.out.parts
 have HRX := Lib.hid (And.intro rx (And.intro lx (And.intro ry ly)))
 clear rx lx ry ly
 have hcl := put_new [s, ⟨#[32, 61, 32]⟩] (Pw.refl HP.out.p) (by have := hlen; simp [joinB] at this ⊢; omega) (by simp)
 go_wp2_with fail
 refine hcl.mono ?_
 rintro e V1 ⟨rfl, HPn⟩
 have HZ := Lib.hid (HZ.out.kept HPn.kp hzb)
 have HP := Lib.hid (HP.out.go HPn)
 clear hcl HPn p0 p3 p4 hLx hLy p19 hbody p20 hels HRX
 obtain ⟨p0, p3, p4, ⟨cx, rx, lx, hLx⟩, ⟨cy, ry, ly, hLy⟩, ⟨ab, capb, p19, hbody⟩, ae, cape, p20, hels⟩ := HZ.out.parts
 have HRX := Lib.hid (And.intro rx (And.intro lx (And.intro ry ly)))
 clear rx lx ry ly
 have hcl := last_any hE x cx b _ _ hx hLx (hw.trans HP.out.bl) HP.out.p (by have := hlen; simp [joinB] at this ⊢; omega)
 go_wp2_with ((with_reducible show wpList _ _ _ (Oper.mk _ (.load 46 (.tmp 27)) _ _ _ _ :: _) _ _); refine wpList_load_mid rfl 46 (.tmp 27) rfl z 5 rfl cx d46 (And.intro HRX.out.1 HRX.out.2.1).1 hu46 hr46 (by rw [(And.intro HRX.out.1 HRX.out.2.1).2]; exact info46) ?_)
 refine hcl.mono ?_
 rintro e V2 ⟨rfl, HPn⟩
 have HZ := Lib.hid (HZ.out.kept HPn.kp hzb)
 have HP := Lib.hid (HP.out.go HPn)
 clear hcl HPn p0 p3 p4 hLx hLy p19 hbody p20 hels HRX
 go_wp2_with fail
 go_end0
 refine ⟨rfl, ?_⟩
 have := HP.out
 simpa [joinB] using this
set_option maxHeartbeats 8000000 in
theorem ps3 {w0 W : World} {l c : Int} {s t : ByteArray} {x y : Ex} {body els : List St} {id sl ot : Int} {lo : Bool} {cs : List Value} {ind b : Nat} {u : List UInt8} (hE : Env w0) (hx : exR isName x 24 = true) (hy : exR isName y 24 = true) (hL : StL (fun _ => True) w0 cs (.mk 3 l c s t x y body els id sl ot lo)) (hw : Below w0.heap.size w0 W) (hp : Pr w0.heap.size b W u)
  (hlen : u.length + (s.data.toList ++ ([91] ++ (exT y ++ ([93, 32, 61, 32] ++ (exT x ++ [59]))))).length ≤ 140737488355328) : Calls Tryz.prog 127 #[.pointer (some ⟨b, 0, none⟩), .agg cs.toArray, .int .i64 (ind : Int)] W fun e w' => e = .returned (.tuple #[]) ∧ Pw w0.heap.size b W w' (u ++ (s.data.toList ++ ([91] ++ (exT y ++ ([93, 32, 61, 32] ++ (exT x ++ [59])))))) := by
 obtain ⟨d46, hu46, hr46⟩ := under46
 have hl25 := hL.cells.1
 have HZ : Hid (Stz w0 (W.alloc (.cells cs.toArray 64)) W.heap.size (.mk 3 l c s t x y body els id sl ot lo)) := Lib.hid ⟨cs, Blk.new W 64 cs, hl25, hL⟩
 have HP := Lib.hid ((Pw.refl hp).alloc (.cells cs.toArray 64))
 have hzb : W.heap.size ≠ b := by have := hp.lt; omega
 have HCS := Lib.hid (And.intro hl25 hL)
 clear hl25 hp hL
 go_enter Tryz.func127, Tryz.ntmps127
 refine wp_seq_k fun K hK => ?_
 have HK := Lib.hid hK
 clear hK
 go_wp2_with fail
 refine HK.out _ _ ?_
 clear HK K
 obtain ⟨z, hzz⟩ : ∃ z, W.heap.size = z := ⟨_, rfl⟩
 rw [hzz] at HZ hzb ⊢
 generalize W.alloc (.cells cs.toArray 64) = V0 at *
 clear hzz
 have e1 := exW_one hy
 obtain ⟨p0, p3, p4, ⟨cx, rx, lx, hLx⟩, ⟨cy, ry, ly, hLy⟩, ⟨ab, capb, p19, hbody⟩, ae, cape, p20, hels⟩ := HZ.out.parts
 have HRX := Lib.hid (And.intro rx (And.intro lx (And.intro ry ly)))
 clear rx lx ry ly
 have hcl := put_new [s, ⟨#[91]⟩] (Pw.refl HP.out.p) (by have := hlen; simp [joinB] at this ⊢; omega) (by simp)
 go_wp2_with fail
 refine hcl.mono ?_
 rintro e V1 ⟨rfl, HPn⟩
 have HZ := Lib.hid (HZ.out.kept HPn.kp hzb)
 have HP := Lib.hid (HP.out.go HPn)
 clear hcl HPn p0 p3 p4 hLx hLy p19 hbody p20 hels HRX
 obtain ⟨p0, p3, p4, ⟨cx, rx, lx, hLx⟩, ⟨cy, ry, ly, hLy⟩, ⟨ab, capb, p19, hbody⟩, ae, cape, p20, hels⟩ := HZ.out.parts
 have HRX := Lib.hid (And.intro rx (And.intro lx (And.intro ry ly)))
 clear rx lx ry ly
 have hcl := hE.ex 24 y cy 1 b _ _ hy hLy (hw.trans HP.out.bl) HP.out.p (by have := hlen; simp [joinB, e1] at this ⊢; omega)
 rw [show ((1 : Nat) : Int) = 1 from rfl] at hcl
 go_wp2_with ((with_reducible show wpList _ _ _ (Oper.mk _ (.load 46 (.tmp 38)) _ _ _ _ :: _) _ _); refine wpList_load_mid rfl 46 (.tmp 38) rfl z 12 rfl cy d46 HRX.out.2.2.1 hu46 hr46 (by rw [HRX.out.2.2.2]; exact info46) ?_)
 refine hcl.mono ?_
 rintro e V2 ⟨rfl, HPn⟩
 have HZ := Lib.hid (HZ.out.kept HPn.kp hzb)
 have HP := Lib.hid (HP.out.go HPn)
 clear hcl HPn p0 p3 p4 hLx hLy p19 hbody p20 hels HRX
 obtain ⟨p0, p3, p4, ⟨cx, rx, lx, hLx⟩, ⟨cy, ry, ly, hLy⟩, ⟨ab, capb, p19, hbody⟩, ae, cape, p20, hels⟩ := HZ.out.parts
 have HRX := Lib.hid (And.intro rx (And.intro lx (And.intro ry ly)))
 clear rx lx ry ly
 have hcl := put_new [⟨#[93, 32, 61, 32]⟩] (Pw.refl HP.out.p) (by have := hlen; simp [joinB, e1] at this ⊢; omega) (by simp)
 go_wp2_with fail
 refine hcl.mono ?_
 rintro e V3 ⟨rfl, HPn⟩
 have HZ := Lib.hid (HZ.out.kept HPn.kp hzb)
 have HP := Lib.hid (HP.out.go HPn)
 clear hcl HPn p0 p3 p4 hLx hLy p19 hbody p20 hels HRX
 obtain ⟨p0, p3, p4, ⟨cx, rx, lx, hLx⟩, ⟨cy, ry, ly, hLy⟩, ⟨ab, capb, p19, hbody⟩, ae, cape, p20, hels⟩ := HZ.out.parts
 have HRX := Lib.hid (And.intro rx (And.intro lx (And.intro ry ly)))
 clear rx lx ry ly
 have hcl := last_any hE x cx b _ _ hx hLx (hw.trans HP.out.bl) HP.out.p (by have := hlen; simp [joinB, e1] at this ⊢; omega)
 go_wp2_with ((with_reducible show wpList _ _ _ (Oper.mk _ (.load 46 (.tmp 45)) _ _ _ _ :: _) _ _); refine wpList_load_mid rfl 46 (.tmp 45) rfl z 5 rfl cx d46 (And.intro HRX.out.1 HRX.out.2.1).1 hu46 hr46 (by rw [(And.intro HRX.out.1 HRX.out.2.1).2]; exact info46) ?_)
 refine hcl.mono ?_
 rintro e V4 ⟨rfl, HPn⟩
 have HZ := Lib.hid (HZ.out.kept HPn.kp hzb)
 have HP := Lib.hid (HP.out.go HPn)
 clear hcl HPn p0 p3 p4 hLx hLy p19 hbody p20 hels HRX
 go_wp2_with fail
 go_end0
 refine ⟨rfl, ?_⟩
 have := HP.out
 rw [e1] at this
 simpa [joinB] using this
set_option maxHeartbeats 8000000 in
theorem ps6 {w0 W : World} {l c : Int} {s t : ByteArray} {x y : Ex} {body els : List St} {id sl ot : Int} {lo : Bool} {cs : List Value} {ind b : Nat} {u : List UInt8} (_hE : Env w0) (hL : StL (fun _ => True) w0 cs (.mk 6 l c s t x y body els id sl ot lo)) (_hw : Below w0.heap.size w0 W) (hp : Pr w0.heap.size b W u)
  (hlen : u.length + ([108, 111, 99, 107, 32] ++ (s.data.toList ++ [59])).length ≤ 140737488355328) : Calls Tryz.prog 127 #[.pointer (some ⟨b, 0, none⟩), .agg cs.toArray, .int .i64 (ind : Int)] W fun e w' => e = .returned (.tuple #[]) ∧ Pw w0.heap.size b W w' (u ++ ([108, 111, 99, 107, 32] ++ (s.data.toList ++ [59]))) := by
 obtain ⟨d46, hu46, hr46⟩ := under46
 have hl25 := hL.cells.1
 have HZ : Hid (Stz w0 (W.alloc (.cells cs.toArray 64)) W.heap.size (.mk 6 l c s t x y body els id sl ot lo)) := Lib.hid ⟨cs, Blk.new W 64 cs, hl25, hL⟩
 have HP := Lib.hid ((Pw.refl hp).alloc (.cells cs.toArray 64))
 have hzb : W.heap.size ≠ b := by have := hp.lt; omega
 have HCS := Lib.hid (And.intro hl25 hL)
 clear hl25 hp hL
 go_enter Tryz.func127, Tryz.ntmps127
 refine wp_seq_k fun K hK => ?_
 have HK := Lib.hid hK
 clear hK
 go_wp2_with fail
 refine HK.out _ _ ?_
 clear HK K
 obtain ⟨z, hzz⟩ : ∃ z, W.heap.size = z := ⟨_, rfl⟩
 rw [hzz] at HZ hzb ⊢
 generalize W.alloc (.cells cs.toArray 64) = V0 at *
 clear hzz
 obtain ⟨p0, p3, p4, ⟨cx, rx, lx, hLx⟩, ⟨cy, ry, ly, hLy⟩, ⟨ab, capb, p19, hbody⟩, ae, cape, p20, hels⟩ := HZ.out.parts
 have HRX := Lib.hid (And.intro rx (And.intro lx (And.intro ry ly)))
 clear rx lx ry ly
 have hcl := put_new [⟨#[108, 111, 99, 107, 32]⟩, s, ⟨#[59]⟩] (Pw.refl HP.out.p) (by have := hlen; simp [joinB] at this ⊢; omega) (by simp)
 go_wp2_with fail
 refine hcl.mono ?_
 rintro e V1 ⟨rfl, HPn⟩
 have HZ := Lib.hid (HZ.out.kept HPn.kp hzb)
 have HP := Lib.hid (HP.out.go HPn)
 clear hcl HPn p0 p3 p4 hLx hLy p19 hbody p20 hels HRX
 go_wp2_with fail
 go_end0
 refine ⟨rfl, ?_⟩
 have := HP.out
 simpa [joinB] using this
set_option maxHeartbeats 8000000 in
theorem ps7 {w0 W : World} {l c : Int} {s t : ByteArray} {x y : Ex} {body els : List St} {id sl ot : Int} {lo : Bool} {cs : List Value} {ind b : Nat} {u : List UInt8} (_hE : Env w0) (hL : StL (fun _ => True) w0 cs (.mk 7 l c s t x y body els id sl ot lo)) (_hw : Below w0.heap.size w0 W) (hp : Pr w0.heap.size b W u)
  (hlen : u.length + ([117, 110, 108, 111, 99, 107, 32] ++ (s.data.toList ++ [59])).length ≤ 140737488355328) : Calls Tryz.prog 127 #[.pointer (some ⟨b, 0, none⟩), .agg cs.toArray, .int .i64 (ind : Int)] W fun e w' => e = .returned (.tuple #[]) ∧ Pw w0.heap.size b W w' (u ++ ([117, 110, 108, 111, 99, 107, 32] ++ (s.data.toList ++ [59]))) := by
 obtain ⟨d46, hu46, hr46⟩ := under46
 have hl25 := hL.cells.1
 have HZ : Hid (Stz w0 (W.alloc (.cells cs.toArray 64)) W.heap.size (.mk 7 l c s t x y body els id sl ot lo)) := Lib.hid ⟨cs, Blk.new W 64 cs, hl25, hL⟩
 have HP := Lib.hid ((Pw.refl hp).alloc (.cells cs.toArray 64))
 have hzb : W.heap.size ≠ b := by have := hp.lt; omega
 have HCS := Lib.hid (And.intro hl25 hL)
 clear hl25 hp hL
 go_enter Tryz.func127, Tryz.ntmps127
 refine wp_seq_k fun K hK => ?_
 have HK := Lib.hid hK
 clear hK
 go_wp2_with fail
 refine HK.out _ _ ?_
 clear HK K
 obtain ⟨z, hzz⟩ : ∃ z, W.heap.size = z := ⟨_, rfl⟩
 rw [hzz] at HZ hzb ⊢
 generalize W.alloc (.cells cs.toArray 64) = V0 at *
 clear hzz
 obtain ⟨p0, p3, p4, ⟨cx, rx, lx, hLx⟩, ⟨cy, ry, ly, hLy⟩, ⟨ab, capb, p19, hbody⟩, ae, cape, p20, hels⟩ := HZ.out.parts
 have HRX := Lib.hid (And.intro rx (And.intro lx (And.intro ry ly)))
 clear rx lx ry ly
 have hcl := put_new [⟨#[117, 110, 108, 111, 99, 107, 32]⟩, s, ⟨#[59]⟩] (Pw.refl HP.out.p) (by have := hlen; simp [joinB] at this ⊢; omega) (by simp)
 go_wp2_with fail
 refine hcl.mono ?_
 rintro e V1 ⟨rfl, HPn⟩
 have HZ := Lib.hid (HZ.out.kept HPn.kp hzb)
 have HP := Lib.hid (HP.out.go HPn)
 clear hcl HPn p0 p3 p4 hLx hLy p19 hbody p20 hels HRX
 go_wp2_with fail
 go_end0
 refine ⟨rfl, ?_⟩
 have := HP.out
 simpa [joinB] using this
set_option maxHeartbeats 8000000 in
theorem ps9 {w0 W : World} {l c : Int} {s t : ByteArray} {x y : Ex} {body els : List St} {id sl ot : Int} {lo : Bool} {cs : List Value} {ind b : Nat} {u : List UInt8} (_hE : Env w0) (hL : StL (fun _ => True) w0 cs (.mk 9 l c s t x y body els id sl ot lo)) (_hw : Below w0.heap.size w0 W) (hp : Pr w0.heap.size b W u)
  (hlen : u.length + ([115, 105, 103, 110, 97, 108, 32] ++ (s.data.toList ++ [59])).length ≤ 140737488355328) : Calls Tryz.prog 127 #[.pointer (some ⟨b, 0, none⟩), .agg cs.toArray, .int .i64 (ind : Int)] W fun e w' => e = .returned (.tuple #[]) ∧ Pw w0.heap.size b W w' (u ++ ([115, 105, 103, 110, 97, 108, 32] ++ (s.data.toList ++ [59]))) := by
 obtain ⟨d46, hu46, hr46⟩ := under46
 have hl25 := hL.cells.1
 have HZ : Hid (Stz w0 (W.alloc (.cells cs.toArray 64)) W.heap.size (.mk 9 l c s t x y body els id sl ot lo)) := Lib.hid ⟨cs, Blk.new W 64 cs, hl25, hL⟩
 have HP := Lib.hid ((Pw.refl hp).alloc (.cells cs.toArray 64))
 have hzb : W.heap.size ≠ b := by have := hp.lt; omega
 have HCS := Lib.hid (And.intro hl25 hL)
 clear hl25 hp hL
 go_enter Tryz.func127, Tryz.ntmps127
 refine wp_seq_k fun K hK => ?_
 have HK := Lib.hid hK
 clear hK
 go_wp2_with fail
 refine HK.out _ _ ?_
 clear HK K
 obtain ⟨z, hzz⟩ : ∃ z, W.heap.size = z := ⟨_, rfl⟩
 rw [hzz] at HZ hzb ⊢
 generalize W.alloc (.cells cs.toArray 64) = V0 at *
 clear hzz
 obtain ⟨p0, p3, p4, ⟨cx, rx, lx, hLx⟩, ⟨cy, ry, ly, hLy⟩, ⟨ab, capb, p19, hbody⟩, ae, cape, p20, hels⟩ := HZ.out.parts
 have HRX := Lib.hid (And.intro rx (And.intro lx (And.intro ry ly)))
 clear rx lx ry ly
 have hcl := put_new [⟨#[115, 105, 103, 110, 97, 108, 32]⟩, s, ⟨#[59]⟩] (Pw.refl HP.out.p) (by have := hlen; simp [joinB] at this ⊢; omega) (by simp)
 go_wp2_with fail
 refine hcl.mono ?_
 rintro e V1 ⟨rfl, HPn⟩
 have HZ := Lib.hid (HZ.out.kept HPn.kp hzb)
 have HP := Lib.hid (HP.out.go HPn)
 clear hcl HPn p0 p3 p4 hLx hLy p19 hbody p20 hels HRX
 go_wp2_with fail
 go_end0
 refine ⟨rfl, ?_⟩
 have := HP.out
 simpa [joinB] using this
set_option maxHeartbeats 8000000 in
theorem ps10 {w0 W : World} {l c : Int} {s t : ByteArray} {x y : Ex} {body els : List St} {id sl ot : Int} {lo : Bool} {cs : List Value} {ind b : Nat} {u : List UInt8} (_hE : Env w0) (hL : StL (fun _ => True) w0 cs (.mk 10 l c s t x y body els id sl ot lo)) (_hw : Below w0.heap.size w0 W) (hp : Pr w0.heap.size b W u)
  (hlen : u.length + ([97, 108, 108, 32] ++ (s.data.toList ++ [59])).length ≤ 140737488355328) : Calls Tryz.prog 127 #[.pointer (some ⟨b, 0, none⟩), .agg cs.toArray, .int .i64 (ind : Int)] W fun e w' => e = .returned (.tuple #[]) ∧ Pw w0.heap.size b W w' (u ++ ([97, 108, 108, 32] ++ (s.data.toList ++ [59]))) := by
 obtain ⟨d46, hu46, hr46⟩ := under46
 have hl25 := hL.cells.1
 have HZ : Hid (Stz w0 (W.alloc (.cells cs.toArray 64)) W.heap.size (.mk 10 l c s t x y body els id sl ot lo)) := Lib.hid ⟨cs, Blk.new W 64 cs, hl25, hL⟩
 have HP := Lib.hid ((Pw.refl hp).alloc (.cells cs.toArray 64))
 have hzb : W.heap.size ≠ b := by have := hp.lt; omega
 have HCS := Lib.hid (And.intro hl25 hL)
 clear hl25 hp hL
 go_enter Tryz.func127, Tryz.ntmps127
 refine wp_seq_k fun K hK => ?_
 have HK := Lib.hid hK
 clear hK
 go_wp2_with fail
 refine HK.out _ _ ?_
 clear HK K
 obtain ⟨z, hzz⟩ : ∃ z, W.heap.size = z := ⟨_, rfl⟩
 rw [hzz] at HZ hzb ⊢
 generalize W.alloc (.cells cs.toArray 64) = V0 at *
 clear hzz
 obtain ⟨p0, p3, p4, ⟨cx, rx, lx, hLx⟩, ⟨cy, ry, ly, hLy⟩, ⟨ab, capb, p19, hbody⟩, ae, cape, p20, hels⟩ := HZ.out.parts
 have HRX := Lib.hid (And.intro rx (And.intro lx (And.intro ry ly)))
 clear rx lx ry ly
 have hcl := put_new [⟨#[97, 108, 108, 32]⟩, s, ⟨#[59]⟩] (Pw.refl HP.out.p) (by have := hlen; simp [joinB] at this ⊢; omega) (by simp)
 go_wp2_with fail
 refine hcl.mono ?_
 rintro e V1 ⟨rfl, HPn⟩
 have HZ := Lib.hid (HZ.out.kept HPn.kp hzb)
 have HP := Lib.hid (HP.out.go HPn)
 clear hcl HPn p0 p3 p4 hLx hLy p19 hbody p20 hels HRX
 go_wp2_with fail
 go_end0
 refine ⟨rfl, ?_⟩
 have := HP.out
 simpa [joinB] using this
set_option maxHeartbeats 8000000 in
theorem ps13 {w0 W : World} {l c : Int} {s t : ByteArray} {x y : Ex} {body els : List St} {id sl ot : Int} {lo : Bool} {cs : List Value} {ind b : Nat} {u : List UInt8} (_hE : Env w0) (hL : StL (fun _ => True) w0 cs (.mk 13 l c s t x y body els id sl ot lo)) (_hw : Below w0.heap.size w0 W) (hp : Pr w0.heap.size b W u)
  (hlen : u.length + ([115, 112, 97, 119, 110, 32] ++ (s.data.toList ++ [59])).length ≤ 140737488355328) : Calls Tryz.prog 127 #[.pointer (some ⟨b, 0, none⟩), .agg cs.toArray, .int .i64 (ind : Int)] W fun e w' => e = .returned (.tuple #[]) ∧ Pw w0.heap.size b W w' (u ++ ([115, 112, 97, 119, 110, 32] ++ (s.data.toList ++ [59]))) := by
 obtain ⟨d46, hu46, hr46⟩ := under46
 have hl25 := hL.cells.1
 have HZ : Hid (Stz w0 (W.alloc (.cells cs.toArray 64)) W.heap.size (.mk 13 l c s t x y body els id sl ot lo)) := Lib.hid ⟨cs, Blk.new W 64 cs, hl25, hL⟩
 have HP := Lib.hid ((Pw.refl hp).alloc (.cells cs.toArray 64))
 have hzb : W.heap.size ≠ b := by have := hp.lt; omega
 have HCS := Lib.hid (And.intro hl25 hL)
 clear hl25 hp hL
 go_enter Tryz.func127, Tryz.ntmps127
 refine wp_seq_k fun K hK => ?_
 have HK := Lib.hid hK
 clear hK
 go_wp2_with fail
 refine HK.out _ _ ?_
 clear HK K
 obtain ⟨z, hzz⟩ : ∃ z, W.heap.size = z := ⟨_, rfl⟩
 rw [hzz] at HZ hzb ⊢
 generalize W.alloc (.cells cs.toArray 64) = V0 at *
 clear hzz
 obtain ⟨p0, p3, p4, ⟨cx, rx, lx, hLx⟩, ⟨cy, ry, ly, hLy⟩, ⟨ab, capb, p19, hbody⟩, ae, cape, p20, hels⟩ := HZ.out.parts
 have HRX := Lib.hid (And.intro rx (And.intro lx (And.intro ry ly)))
 clear rx lx ry ly
 have hcl := put_new [⟨#[115, 112, 97, 119, 110, 32]⟩, s, ⟨#[59]⟩] (Pw.refl HP.out.p) (by have := hlen; simp [joinB] at this ⊢; omega) (by simp)
 go_wp2_with fail
 refine hcl.mono ?_
 rintro e V1 ⟨rfl, HPn⟩
 have HZ := Lib.hid (HZ.out.kept HPn.kp hzb)
 have HP := Lib.hid (HP.out.go HPn)
 clear hcl HPn p0 p3 p4 hLx hLy p19 hbody p20 hels HRX
 go_wp2_with fail
 go_end0
 refine ⟨rfl, ?_⟩
 have := HP.out
 simpa [joinB] using this
set_option maxHeartbeats 8000000 in
theorem ps8 {w0 W : World} {l c : Int} {s t : ByteArray} {x y : Ex} {body els : List St} {id sl ot : Int} {lo : Bool} {cs : List Value} {ind b : Nat} {u : List UInt8} (_hE : Env w0) (hL : StL (fun _ => True) w0 cs (.mk 8 l c s t x y body els id sl ot lo)) (_hw : Below w0.heap.size w0 W) (hp : Pr w0.heap.size b W u)
  (hlen : u.length + ([119, 97, 105, 116, 32] ++ (s.data.toList ++ ([32] ++ (t.data.toList ++ [59])))).length ≤ 140737488355328) : Calls Tryz.prog 127 #[.pointer (some ⟨b, 0, none⟩), .agg cs.toArray, .int .i64 (ind : Int)] W fun e w' => e = .returned (.tuple #[]) ∧ Pw w0.heap.size b W w' (u ++ ([119, 97, 105, 116, 32] ++ (s.data.toList ++ ([32] ++ (t.data.toList ++ [59]))))) := by
 obtain ⟨d46, hu46, hr46⟩ := under46
 have hl25 := hL.cells.1
 have HZ : Hid (Stz w0 (W.alloc (.cells cs.toArray 64)) W.heap.size (.mk 8 l c s t x y body els id sl ot lo)) := Lib.hid ⟨cs, Blk.new W 64 cs, hl25, hL⟩
 have HP := Lib.hid ((Pw.refl hp).alloc (.cells cs.toArray 64))
 have hzb : W.heap.size ≠ b := by have := hp.lt; omega
 have HCS := Lib.hid (And.intro hl25 hL)
 clear hl25 hp hL
 go_enter Tryz.func127, Tryz.ntmps127
 refine wp_seq_k fun K hK => ?_
 have HK := Lib.hid hK
 clear hK
 go_wp2_with fail
 refine HK.out _ _ ?_
 clear HK K
 obtain ⟨z, hzz⟩ : ∃ z, W.heap.size = z := ⟨_, rfl⟩
 rw [hzz] at HZ hzb ⊢
 generalize W.alloc (.cells cs.toArray 64) = V0 at *
 clear hzz
 obtain ⟨p0, p3, p4, ⟨cx, rx, lx, hLx⟩, ⟨cy, ry, ly, hLy⟩, ⟨ab, capb, p19, hbody⟩, ae, cape, p20, hels⟩ := HZ.out.parts
 have HRX := Lib.hid (And.intro rx (And.intro lx (And.intro ry ly)))
 clear rx lx ry ly
 have hcl := put_new [⟨#[119, 97, 105, 116, 32]⟩, s, ⟨#[32]⟩, t, ⟨#[59]⟩] (Pw.refl HP.out.p) (by have := hlen; simp [joinB] at this ⊢; omega) (by simp)
 go_wp2_with fail
 refine hcl.mono ?_
 rintro e V1 ⟨rfl, HPn⟩
 have HZ := Lib.hid (HZ.out.kept HPn.kp hzb)
 have HP := Lib.hid (HP.out.go HPn)
 clear hcl HPn p0 p3 p4 hLx hLy p19 hbody p20 hels HRX
 go_wp2_with fail
 go_end0
 refine ⟨rfl, ?_⟩
 have := HP.out
 simpa [joinB] using this
set_option maxHeartbeats 8000000 in
theorem ps12 {w0 W : World} {l c : Int} {s t : ByteArray} {x y : Ex} {body els : List St} {id sl ot : Int} {lo : Bool} {cs : List Value} {ind b : Nat} {u : List UInt8} (_hE : Env w0) (hL : StL (fun _ => True) w0 cs (.mk 12 l c s t x y body els id sl ot lo)) (_hw : Below w0.heap.size w0 W) (hp : Pr w0.heap.size b W u)
  (hlen : u.length + ([114, 101, 99, 118, 32] ++ (s.data.toList ++ ([32] ++ (t.data.toList ++ [59])))).length ≤ 140737488355328) : Calls Tryz.prog 127 #[.pointer (some ⟨b, 0, none⟩), .agg cs.toArray, .int .i64 (ind : Int)] W fun e w' => e = .returned (.tuple #[]) ∧ Pw w0.heap.size b W w' (u ++ ([114, 101, 99, 118, 32] ++ (s.data.toList ++ ([32] ++ (t.data.toList ++ [59]))))) := by
 obtain ⟨d46, hu46, hr46⟩ := under46
 have hl25 := hL.cells.1
 have HZ : Hid (Stz w0 (W.alloc (.cells cs.toArray 64)) W.heap.size (.mk 12 l c s t x y body els id sl ot lo)) := Lib.hid ⟨cs, Blk.new W 64 cs, hl25, hL⟩
 have HP := Lib.hid ((Pw.refl hp).alloc (.cells cs.toArray 64))
 have hzb : W.heap.size ≠ b := by have := hp.lt; omega
 have HCS := Lib.hid (And.intro hl25 hL)
 clear hl25 hp hL
 go_enter Tryz.func127, Tryz.ntmps127
 refine wp_seq_k fun K hK => ?_
 have HK := Lib.hid hK
 clear hK
 go_wp2_with fail
 refine HK.out _ _ ?_
 clear HK K
 obtain ⟨z, hzz⟩ : ∃ z, W.heap.size = z := ⟨_, rfl⟩
 rw [hzz] at HZ hzb ⊢
 generalize W.alloc (.cells cs.toArray 64) = V0 at *
 clear hzz
 obtain ⟨p0, p3, p4, ⟨cx, rx, lx, hLx⟩, ⟨cy, ry, ly, hLy⟩, ⟨ab, capb, p19, hbody⟩, ae, cape, p20, hels⟩ := HZ.out.parts
 have HRX := Lib.hid (And.intro rx (And.intro lx (And.intro ry ly)))
 clear rx lx ry ly
 have hcl := put_new [⟨#[114, 101, 99, 118, 32]⟩, s, ⟨#[32]⟩, t, ⟨#[59]⟩] (Pw.refl HP.out.p) (by have := hlen; simp [joinB] at this ⊢; omega) (by simp)
 go_wp2_with fail
 refine hcl.mono ?_
 rintro e V1 ⟨rfl, HPn⟩
 have HZ := Lib.hid (HZ.out.kept HPn.kp hzb)
 have HP := Lib.hid (HP.out.go HPn)
 clear hcl HPn p0 p3 p4 hLx hLy p19 hbody p20 hels HRX
 go_wp2_with fail
 go_end0
 refine ⟨rfl, ?_⟩
 have := HP.out
 simpa [joinB] using this
set_option maxHeartbeats 8000000 in
theorem ps11 {w0 W : World} {l c : Int} {s t : ByteArray} {x y : Ex} {body els : List St} {id sl ot : Int} {lo : Bool} {cs : List Value} {ind b : Nat} {u : List UInt8} (hE : Env w0) (hx : exR isName x 24 = true) (hL : StL (fun _ => True) w0 cs (.mk 11 l c s t x y body els id sl ot lo)) (hw : Below w0.heap.size w0 W) (hp : Pr w0.heap.size b W u)
  (hlen : u.length + ([115, 101, 110, 100, 32] ++ (s.data.toList ++ ([32] ++ (exT x ++ [59])))).length ≤ 140737488355328) : Calls Tryz.prog 127 #[.pointer (some ⟨b, 0, none⟩), .agg cs.toArray, .int .i64 (ind : Int)] W fun e w' => e = .returned (.tuple #[]) ∧ Pw w0.heap.size b W w' (u ++ ([115, 101, 110, 100, 32] ++ (s.data.toList ++ ([32] ++ (exT x ++ [59]))))) := by
 obtain ⟨d46, hu46, hr46⟩ := under46
 have hl25 := hL.cells.1
 have HZ : Hid (Stz w0 (W.alloc (.cells cs.toArray 64)) W.heap.size (.mk 11 l c s t x y body els id sl ot lo)) := Lib.hid ⟨cs, Blk.new W 64 cs, hl25, hL⟩
 have HP := Lib.hid ((Pw.refl hp).alloc (.cells cs.toArray 64))
 have hzb : W.heap.size ≠ b := by have := hp.lt; omega
 have HCS := Lib.hid (And.intro hl25 hL)
 clear hl25 hp hL
 go_enter Tryz.func127, Tryz.ntmps127
 refine wp_seq_k fun K hK => ?_
 have HK := Lib.hid hK
 clear hK
 go_wp2_with fail
 refine HK.out _ _ ?_
 clear HK K
 obtain ⟨z, hzz⟩ : ∃ z, W.heap.size = z := ⟨_, rfl⟩
 rw [hzz] at HZ hzb ⊢
 generalize W.alloc (.cells cs.toArray 64) = V0 at *
 clear hzz
 obtain ⟨p0, p3, p4, ⟨cx, rx, lx, hLx⟩, ⟨cy, ry, ly, hLy⟩, ⟨ab, capb, p19, hbody⟩, ae, cape, p20, hels⟩ := HZ.out.parts
 have HRX := Lib.hid (And.intro rx (And.intro lx (And.intro ry ly)))
 clear rx lx ry ly
 have hcl := put_new [⟨#[115, 101, 110, 100, 32]⟩, s, ⟨#[32]⟩] (Pw.refl HP.out.p) (by have := hlen; simp [joinB] at this ⊢; omega) (by simp)
 go_wp2_with fail
 refine hcl.mono ?_
 rintro e V1 ⟨rfl, HPn⟩
 have HZ := Lib.hid (HZ.out.kept HPn.kp hzb)
 have HP := Lib.hid (HP.out.go HPn)
 clear hcl HPn p0 p3 p4 hLx hLy p19 hbody p20 hels HRX
 obtain ⟨p0, p3, p4, ⟨cx, rx, lx, hLx⟩, ⟨cy, ry, ly, hLy⟩, ⟨ab, capb, p19, hbody⟩, ae, cape, p20, hels⟩ := HZ.out.parts
 have HRX := Lib.hid (And.intro rx (And.intro lx (And.intro ry ly)))
 clear rx lx ry ly
 have hcl := last_any hE x cx b _ _ hx hLx (hw.trans HP.out.bl) HP.out.p (by have := hlen; simp [joinB] at this ⊢; omega)
 go_wp2_with ((with_reducible show wpList _ _ _ (Oper.mk _ (.load 46 (.tmp 100)) _ _ _ _ :: _) _ _); refine wpList_load_mid rfl 46 (.tmp 100) rfl z 5 rfl cx d46 (And.intro HRX.out.1 HRX.out.2.1).1 hu46 hr46 (by rw [(And.intro HRX.out.1 HRX.out.2.1).2]; exact info46) ?_)
 refine hcl.mono ?_
 rintro e V2 ⟨rfl, HPn⟩
 have HZ := Lib.hid (HZ.out.kept HPn.kp hzb)
 have HP := Lib.hid (HP.out.go HPn)
 clear hcl HPn p0 p3 p4 hLx hLy p19 hbody p20 hels HRX
 go_wp2_with fail
 go_end0
 refine ⟨rfl, ?_⟩
 have := HP.out
 simpa [joinB] using this
set_option maxHeartbeats 8000000 in
theorem ps14 {w0 W : World} {l c : Int} {s t : ByteArray} {x y : Ex} {body els : List St} {id sl ot : Int} {lo : Bool} {cs : List Value} {ind b : Nat} {u : List UInt8} (_hE : Env w0) (hL : StL (fun _ => True) w0 cs (.mk 14 l c s t x y body els id sl ot lo)) (_hw : Below w0.heap.size w0 W) (hp : Pr w0.heap.size b W u)
  (hlen : u.length + ([106, 111, 105, 110, 59]).length ≤ 140737488355328) : Calls Tryz.prog 127 #[.pointer (some ⟨b, 0, none⟩), .agg cs.toArray, .int .i64 (ind : Int)] W fun e w' => e = .returned (.tuple #[]) ∧ Pw w0.heap.size b W w' (u ++ ([106, 111, 105, 110, 59])) := by
 obtain ⟨d46, hu46, hr46⟩ := under46
 have hl25 := hL.cells.1
 have HZ : Hid (Stz w0 (W.alloc (.cells cs.toArray 64)) W.heap.size (.mk 14 l c s t x y body els id sl ot lo)) := Lib.hid ⟨cs, Blk.new W 64 cs, hl25, hL⟩
 have HP := Lib.hid ((Pw.refl hp).alloc (.cells cs.toArray 64))
 have hzb : W.heap.size ≠ b := by have := hp.lt; omega
 have HCS := Lib.hid (And.intro hl25 hL)
 clear hl25 hp hL
 go_enter Tryz.func127, Tryz.ntmps127
 refine wp_seq_k fun K hK => ?_
 have HK := Lib.hid hK
 clear hK
 go_wp2_with fail
 refine HK.out _ _ ?_
 clear HK K
 obtain ⟨z, hzz⟩ : ∃ z, W.heap.size = z := ⟨_, rfl⟩
 rw [hzz] at HZ hzb ⊢
 generalize W.alloc (.cells cs.toArray 64) = V0 at *
 clear hzz
 obtain ⟨p0, p3, p4, ⟨cx, rx, lx, hLx⟩, ⟨cy, ry, ly, hLy⟩, ⟨ab, capb, p19, hbody⟩, ae, cape, p20, hels⟩ := HZ.out.parts
 have HRX := Lib.hid (And.intro rx (And.intro lx (And.intro ry ly)))
 clear rx lx ry ly
 have hcl := put_new [⟨#[106, 111, 105, 110, 59]⟩] (Pw.refl HP.out.p) (by have := hlen; simp [joinB] at this ⊢; omega) (by simp)
 go_wp2_with fail
 refine hcl.mono ?_
 rintro e V1 ⟨rfl, HPn⟩
 have HZ := Lib.hid (HZ.out.kept HPn.kp hzb)
 have HP := Lib.hid (HP.out.go HPn)
 clear hcl HPn p0 p3 p4 hLx hLy p19 hbody p20 hels HRX
 go_wp2_with fail
 go_end0
 refine ⟨rfl, ?_⟩
 have := HP.out
 simpa [joinB] using this
set_option maxHeartbeats 8000000 in
theorem ps15 {w0 W : World} {l c : Int} {s t : ByteArray} {x y : Ex} {body els : List St} {id sl ot : Int} {lo : Bool} {cs : List Value} {ind b : Nat} {u : List UInt8} (hE : Env w0) (hx : exR isName x 24 = true) (hL : StL (fun _ => True) w0 cs (.mk 15 l c s t x y body els id sl ot lo)) (hw : Below w0.heap.size w0 W) (hp : Pr w0.heap.size b W u)
  (hlen : u.length + ([112, 114, 105, 110, 116, 32] ++ (exT x ++ [59])).length ≤ 140737488355328) : Calls Tryz.prog 127 #[.pointer (some ⟨b, 0, none⟩), .agg cs.toArray, .int .i64 (ind : Int)] W fun e w' => e = .returned (.tuple #[]) ∧ Pw w0.heap.size b W w' (u ++ ([112, 114, 105, 110, 116, 32] ++ (exT x ++ [59]))) := by
 obtain ⟨d46, hu46, hr46⟩ := under46
 have hl25 := hL.cells.1
 have HZ : Hid (Stz w0 (W.alloc (.cells cs.toArray 64)) W.heap.size (.mk 15 l c s t x y body els id sl ot lo)) := Lib.hid ⟨cs, Blk.new W 64 cs, hl25, hL⟩
 have HP := Lib.hid ((Pw.refl hp).alloc (.cells cs.toArray 64))
 have hzb : W.heap.size ≠ b := by have := hp.lt; omega
 have HCS := Lib.hid (And.intro hl25 hL)
 clear hl25 hp hL
 go_enter Tryz.func127, Tryz.ntmps127
 refine wp_seq_k fun K hK => ?_
 have HK := Lib.hid hK
 clear hK
 go_wp2_with fail
 refine HK.out _ _ ?_
 clear HK K
 obtain ⟨z, hzz⟩ : ∃ z, W.heap.size = z := ⟨_, rfl⟩
 rw [hzz] at HZ hzb ⊢
 generalize W.alloc (.cells cs.toArray 64) = V0 at *
 clear hzz
 obtain ⟨p0, p3, p4, ⟨cx, rx, lx, hLx⟩, ⟨cy, ry, ly, hLy⟩, ⟨ab, capb, p19, hbody⟩, ae, cape, p20, hels⟩ := HZ.out.parts
 have HRX := Lib.hid (And.intro rx (And.intro lx (And.intro ry ly)))
 clear rx lx ry ly
 have hcl := put_new [⟨#[112, 114, 105, 110, 116, 32]⟩] (Pw.refl HP.out.p) (by have := hlen; simp [joinB] at this ⊢; omega) (by simp)
 go_wp2_with fail
 refine hcl.mono ?_
 rintro e V1 ⟨rfl, HPn⟩
 have HZ := Lib.hid (HZ.out.kept HPn.kp hzb)
 have HP := Lib.hid (HP.out.go HPn)
 clear hcl HPn p0 p3 p4 hLx hLy p19 hbody p20 hels HRX
 obtain ⟨p0, p3, p4, ⟨cx, rx, lx, hLx⟩, ⟨cy, ry, ly, hLy⟩, ⟨ab, capb, p19, hbody⟩, ae, cape, p20, hels⟩ := HZ.out.parts
 have HRX := Lib.hid (And.intro rx (And.intro lx (And.intro ry ly)))
 clear rx lx ry ly
 have hcl := last_any hE x cx b _ _ hx hLx (hw.trans HP.out.bl) HP.out.p (by have := hlen; simp [joinB] at this ⊢; omega)
 go_wp2_with ((with_reducible show wpList _ _ _ (Oper.mk _ (.load 46 (.tmp 130)) _ _ _ _ :: _) _ _); refine wpList_load_mid rfl 46 (.tmp 130) rfl z 5 rfl cx d46 (And.intro HRX.out.1 HRX.out.2.1).1 hu46 hr46 (by rw [(And.intro HRX.out.1 HRX.out.2.1).2]; exact info46) ?_)
 refine hcl.mono ?_
 rintro e V2 ⟨rfl, HPn⟩
 have HZ := Lib.hid (HZ.out.kept HPn.kp hzb)
 have HP := Lib.hid (HP.out.go HPn)
 clear hcl HPn p0 p3 p4 hLx hLy p19 hbody p20 hels HRX
 go_wp2_with fail
 go_end0
 refine ⟨rfl, ?_⟩
 have := HP.out
 simpa [joinB] using this
set_option maxHeartbeats 8000000 in
theorem pg4a {w0 W : World} {l c : Int} {s t : ByteArray} {x y : Ex} {body els : List St} {id sl ot : Int} {lo : Bool} {cs : List Value} {ind b : Nat} {u : List UInt8} (hE : Env w0) {d : Nat} (hB : PbOk w0 (d + 1)) (hi : ind ≤ d + 1 ∧ d + 1 ≤ 25) (hx : exR isName x 24 = true) (hbd : stsR isName body (d + 1) = true) (hne : els.length = 0) (hL : StL (fun _ => True) w0 cs (.mk 4 l c s t x y body els id sl ot lo)) (hw : Below w0.heap.size w0 W) (hp : Pr w0.heap.size b W u)
  (hlen : u.length + ([105, 102, 32] ++ (exT x ++ ([32] ++ (blockT body ind)))).length ≤ 140737488355328) : Calls Tryz.prog 156 #[.pointer (some ⟨b, 0, none⟩), .agg cs.toArray, .int .i64 (ind : Int)] W fun e w' => e = .returned (.tuple #[]) ∧ Pw w0.heap.size b W w' (u ++ ([105, 102, 32] ++ (exT x ++ ([32] ++ (blockT body ind))))) := by
 obtain ⟨d46, hu46, hr46⟩ := under46
 have hl25 := hL.cells.1
 have HZ : Hid (Stz w0 (W.alloc (.cells cs.toArray 64)) W.heap.size (.mk 4 l c s t x y body els id sl ot lo)) := Lib.hid ⟨cs, Blk.new W 64 cs, hl25, hL⟩
 have HP := Lib.hid ((Pw.refl hp).alloc (.cells cs.toArray 64))
 have hzb : W.heap.size ≠ b := by have := hp.lt; omega
 have HCS := Lib.hid (And.intro hl25 hL)
 clear hl25 hp hL
 go_enter Tryz.func156, Tryz.ntmps156
 refine wp_seq_k fun K hK => ?_
 have HK := Lib.hid hK
 clear hK
 go_wp2_with fail
 refine HK.out _ _ ?_
 clear HK K
 obtain ⟨z, hzz⟩ : ∃ z, W.heap.size = z := ⟨_, rfl⟩
 rw [hzz] at HZ hzb ⊢
 generalize W.alloc (.cells cs.toArray 64) = V0 at *
 clear hzz
 have e1 := exW_one hx
 have HNE := Lib.hid hne
 clear hne
 refine wp_seq_k fun K hK => ?_
 have HK := Lib.hid hK
 clear hK
 obtain ⟨p0, p3, p4, ⟨cx, rx, lx, hLx⟩, ⟨cy, ry, ly, hLy⟩, ⟨ab, capb, p19, hbody⟩, ae, cape, p20, hels⟩ := HZ.out.parts
 have HRX := Lib.hid (And.intro rx (And.intro lx (And.intro ry ly)))
 clear rx lx ry ly
 have hcl := put_new [⟨#[105, 102, 32]⟩] (Pw.refl HP.out.p) (by have := hlen; simp [joinB] at this ⊢; omega) (by simp)
 go_wp2_with fail
 refine hcl.mono ?_
 rintro e V1 ⟨rfl, HPn⟩
 have HZ := Lib.hid (HZ.out.kept HPn.kp hzb)
 have HP := Lib.hid (HP.out.go HPn)
 clear hcl HPn p0 p3 p4 hLx hLy p19 hbody p20 hels HRX
 go_wp2_with fail
 refine HK.out _ _ ?_
 clear HK K
 obtain ⟨p0, p3, p4, ⟨cx, rx, lx, hLx⟩, ⟨cy, ry, ly, hLy⟩, ⟨ab, capb, p19, hbody⟩, ae, cape, p20, hels⟩ := HZ.out.parts
 have HRX := Lib.hid (And.intro rx (And.intro lx (And.intro ry ly)))
 clear rx lx ry ly
 have hcl := hE.ex 24 x cx 1 b _ _ hx hLx (hw.trans HP.out.bl) HP.out.p (by have := hlen; simp [joinB, e1] at this ⊢; omega)
 rw [show ((1 : Nat) : Int) = 1 from rfl] at hcl
 go_wp2_with ((with_reducible show wpList _ _ _ (Oper.mk _ (.load 46 (.tmp 16)) _ _ _ _ :: _) _ _); refine wpList_load_mid rfl 46 (.tmp 16) rfl z 5 rfl cx d46 (And.intro HRX.out.1 HRX.out.2.1).1 hu46 hr46 (by rw [(And.intro HRX.out.1 HRX.out.2.1).2]; exact info46) ?_)
 refine hcl.mono ?_
 rintro e V2 ⟨rfl, HPn⟩
 have HZ := Lib.hid (HZ.out.kept HPn.kp hzb)
 have HP := Lib.hid (HP.out.go HPn)
 clear hcl HPn p0 p3 p4 hLx hLy p19 hbody p20 hels HRX
 obtain ⟨p0, p3, p4, ⟨cx, rx, lx, hLx⟩, ⟨cy, ry, ly, hLy⟩, ⟨ab, capb, p19, hbody⟩, ae, cape, p20, hels⟩ := HZ.out.parts
 have HRX := Lib.hid (And.intro rx (And.intro lx (And.intro ry ly)))
 clear rx lx ry ly
 have hcl := put_new [⟨#[32]⟩] (Pw.refl HP.out.p) (by have := hlen; simp [joinB, e1] at this ⊢; omega) (by simp)
 go_wp2_with fail
 refine hcl.mono ?_
 rintro e V3 ⟨rfl, HPn⟩
 have HZ := Lib.hid (HZ.out.kept HPn.kp hzb)
 have HP := Lib.hid (HP.out.go HPn)
 clear hcl HPn p0 p3 p4 hLx hLy p19 hbody p20 hels HRX
 obtain ⟨p0, p3, p4, ⟨cx, rx, lx, hLx⟩, ⟨cy, ry, ly, hLy⟩, ⟨ab, capb, p19, hbody⟩, ae, cape, p20, hels⟩ := HZ.out.parts
 have HRX := Lib.hid (And.intro rx (And.intro lx (And.intro ry ly)))
 clear rx lx ry ly
 have hcl := hB body ab capb ind b _ _ hbd hi hbody (hw.trans HP.out.bl) HP.out.p (by have := hlen; simp [joinB, e1] at this ⊢; omega)
 go_wp2_with fail
 refine hcl.mono ?_
 rintro e V4 ⟨rfl, HPn⟩
 have HZ := Lib.hid (HZ.out.kept HPn.kp hzb)
 have HP := Lib.hid (HP.out.go HPn)
 clear hcl HPn p0 p3 p4 hLx hLy p19 hbody p20 hels HRX
 obtain ⟨p0, p3, p4, ⟨cx, rx, lx, hLx⟩, ⟨cy, ry, ly, hLy⟩, ⟨ab, capb, p19, hbody⟩, ae, cape, p20, hels⟩ := HZ.out.parts
 have HRX := Lib.hid (And.intro rx (And.intro lx (And.intro ry ly)))
 clear rx lx ry ly
 rw [HNE.out] at p20
 go_wp2_with fail
 go_end0
 refine ⟨rfl, ?_⟩
 have := HP.out
 rw [e1] at this
 simpa [joinB] using this
set_option maxHeartbeats 8000000 in
theorem pg4b {w0 W : World} {l c : Int} {s t : ByteArray} {x y : Ex} {body els : List St} {id sl ot : Int} {lo : Bool} {cs : List Value} {ind b : Nat} {u : List UInt8} (hE : Env w0) {d : Nat} (hB : PbOk w0 (d + 1)) (hi : ind ≤ d + 1 ∧ d + 1 ≤ 25) (hx : exR isName x 24 = true) (hbd : stsR isName body (d + 1) = true) (hed : stsR isName els (d + 1) = true) (hne : els.length ≠ 0) (hL : StL (fun _ => True) w0 cs (.mk 4 l c s t x y body els id sl ot lo)) (hw : Below w0.heap.size w0 W) (hp : Pr w0.heap.size b W u)
  (hlen : u.length + ([105, 102, 32] ++ (exT x ++ ([32] ++ (blockT body ind ++ ([32, 101, 108, 115, 101, 32] ++ blockT els ind))))).length ≤ 140737488355328) : Calls Tryz.prog 156 #[.pointer (some ⟨b, 0, none⟩), .agg cs.toArray, .int .i64 (ind : Int)] W fun e w' => e = .returned (.tuple #[]) ∧ Pw w0.heap.size b W w' (u ++ ([105, 102, 32] ++ (exT x ++ ([32] ++ (blockT body ind ++ ([32, 101, 108, 115, 101, 32] ++ blockT els ind)))))) := by
 obtain ⟨d46, hu46, hr46⟩ := under46
 have hl25 := hL.cells.1
 have HZ : Hid (Stz w0 (W.alloc (.cells cs.toArray 64)) W.heap.size (.mk 4 l c s t x y body els id sl ot lo)) := Lib.hid ⟨cs, Blk.new W 64 cs, hl25, hL⟩
 have HP := Lib.hid ((Pw.refl hp).alloc (.cells cs.toArray 64))
 have hzb : W.heap.size ≠ b := by have := hp.lt; omega
 have HCS := Lib.hid (And.intro hl25 hL)
 clear hl25 hp hL
 go_enter Tryz.func156, Tryz.ntmps156
 refine wp_seq_k fun K hK => ?_
 have HK := Lib.hid hK
 clear hK
 go_wp2_with fail
 refine HK.out _ _ ?_
 clear HK K
 obtain ⟨z, hzz⟩ : ∃ z, W.heap.size = z := ⟨_, rfl⟩
 rw [hzz] at HZ hzb ⊢
 generalize W.alloc (.cells cs.toArray 64) = V0 at *
 clear hzz
 have e1 := exW_one hx
 have HNE := Lib.hid hne
 clear hne
 refine wp_seq_k fun K hK => ?_
 have HK := Lib.hid hK
 clear hK
 obtain ⟨p0, p3, p4, ⟨cx, rx, lx, hLx⟩, ⟨cy, ry, ly, hLy⟩, ⟨ab, capb, p19, hbody⟩, ae, cape, p20, hels⟩ := HZ.out.parts
 have HRX := Lib.hid (And.intro rx (And.intro lx (And.intro ry ly)))
 clear rx lx ry ly
 have hcl := put_new [⟨#[105, 102, 32]⟩] (Pw.refl HP.out.p) (by have := hlen; simp [joinB] at this ⊢; omega) (by simp)
 go_wp2_with fail
 refine hcl.mono ?_
 rintro e V1 ⟨rfl, HPn⟩
 have HZ := Lib.hid (HZ.out.kept HPn.kp hzb)
 have HP := Lib.hid (HP.out.go HPn)
 clear hcl HPn p0 p3 p4 hLx hLy p19 hbody p20 hels HRX
 go_wp2_with fail
 refine HK.out _ _ ?_
 clear HK K
 obtain ⟨p0, p3, p4, ⟨cx, rx, lx, hLx⟩, ⟨cy, ry, ly, hLy⟩, ⟨ab, capb, p19, hbody⟩, ae, cape, p20, hels⟩ := HZ.out.parts
 have HRX := Lib.hid (And.intro rx (And.intro lx (And.intro ry ly)))
 clear rx lx ry ly
 have hcl := hE.ex 24 x cx 1 b _ _ hx hLx (hw.trans HP.out.bl) HP.out.p (by have := hlen; simp [joinB, e1] at this ⊢; omega)
 rw [show ((1 : Nat) : Int) = 1 from rfl] at hcl
 go_wp2_with ((with_reducible show wpList _ _ _ (Oper.mk _ (.load 46 (.tmp 16)) _ _ _ _ :: _) _ _); refine wpList_load_mid rfl 46 (.tmp 16) rfl z 5 rfl cx d46 (And.intro HRX.out.1 HRX.out.2.1).1 hu46 hr46 (by rw [(And.intro HRX.out.1 HRX.out.2.1).2]; exact info46) ?_)
 refine hcl.mono ?_
 rintro e V2 ⟨rfl, HPn⟩
 have HZ := Lib.hid (HZ.out.kept HPn.kp hzb)
 have HP := Lib.hid (HP.out.go HPn)
 clear hcl HPn p0 p3 p4 hLx hLy p19 hbody p20 hels HRX
 obtain ⟨p0, p3, p4, ⟨cx, rx, lx, hLx⟩, ⟨cy, ry, ly, hLy⟩, ⟨ab, capb, p19, hbody⟩, ae, cape, p20, hels⟩ := HZ.out.parts
 have HRX := Lib.hid (And.intro rx (And.intro lx (And.intro ry ly)))
 clear rx lx ry ly
 have hcl := put_new [⟨#[32]⟩] (Pw.refl HP.out.p) (by have := hlen; simp [joinB, e1] at this ⊢; omega) (by simp)
 go_wp2_with fail
 refine hcl.mono ?_
 rintro e V3 ⟨rfl, HPn⟩
 have HZ := Lib.hid (HZ.out.kept HPn.kp hzb)
 have HP := Lib.hid (HP.out.go HPn)
 clear hcl HPn p0 p3 p4 hLx hLy p19 hbody p20 hels HRX
 obtain ⟨p0, p3, p4, ⟨cx, rx, lx, hLx⟩, ⟨cy, ry, ly, hLy⟩, ⟨ab, capb, p19, hbody⟩, ae, cape, p20, hels⟩ := HZ.out.parts
 have HRX := Lib.hid (And.intro rx (And.intro lx (And.intro ry ly)))
 clear rx lx ry ly
 have hcl := hB body ab capb ind b _ _ hbd hi hbody (hw.trans HP.out.bl) HP.out.p (by have := hlen; simp [joinB, e1] at this ⊢; omega)
 go_wp2_with fail
 refine hcl.mono ?_
 rintro e V4 ⟨rfl, HPn⟩
 have HZ := Lib.hid (HZ.out.kept HPn.kp hzb)
 have HP := Lib.hid (HP.out.go HPn)
 clear hcl HPn p0 p3 p4 hLx hLy p19 hbody p20 hels HRX
 obtain ⟨p0, p3, p4, ⟨cx, rx, lx, hLx⟩, ⟨cy, ry, ly, hLy⟩, ⟨ab, capb, p19, hbody⟩, ae, cape, p20, hels⟩ := HZ.out.parts
 have HRX := Lib.hid (And.intro rx (And.intro lx (And.intro ry ly)))
 clear rx lx ry ly
 obtain ⟨nE, hnE⟩ : ∃ n, els.length = n := ⟨_, rfl⟩
 have hne := HNE.out
 rw [hnE] at hne p20
 clear hnE
 have hi3 : 0 < nE := by omega
 have hi4 : (0 : Int) < (nE : Int) := by omega
 have hi0 : ¬ nE = 0 := hne
 clear hne
 have hcl := put_new [⟨#[32, 101, 108, 115, 101, 32]⟩] (Pw.refl HP.out.p) (by have := hlen; simp [joinB, e1] at this ⊢; omega) (by simp)
 go_wp2_with fail
 refine hcl.mono ?_
 rintro e V5 ⟨rfl, HPn⟩
 have HZ := Lib.hid (HZ.out.kept HPn.kp hzb)
 have HP := Lib.hid (HP.out.go HPn)
 clear hcl HPn p0 p3 p4 hLx hLy p19 hbody p20 hels HRX
 obtain ⟨p0, p3, p4, ⟨cx, rx, lx, hLx⟩, ⟨cy, ry, ly, hLy⟩, ⟨ab, capb, p19, hbody⟩, ae, cape, p20, hels⟩ := HZ.out.parts
 have HRX := Lib.hid (And.intro rx (And.intro lx (And.intro ry ly)))
 clear rx lx ry ly
 have hcl := hB els ae cape ind b _ _ hed hi hels (hw.trans HP.out.bl) HP.out.p (by have := hlen; simp [joinB, e1] at this ⊢; omega)
 go_wp2_with fail
 refine hcl.mono ?_
 rintro e V6 ⟨rfl, HPn⟩
 have HZ := Lib.hid (HZ.out.kept HPn.kp hzb)
 have HP := Lib.hid (HP.out.go HPn)
 clear hcl HPn p0 p3 p4 hLx hLy p19 hbody p20 hels HRX
 go_wp2_with fail
 go_end0
 refine ⟨rfl, ?_⟩
 have := HP.out
 rw [e1] at this
 simpa [joinB] using this
set_option maxHeartbeats 8000000 in
theorem pg5 {w0 W : World} {l c : Int} {s t : ByteArray} {x y : Ex} {body els : List St} {id sl ot : Int} {lo : Bool} {cs : List Value} {ind b : Nat} {u : List UInt8} (hE : Env w0) {d : Nat} (hB : PbOk w0 (d + 1)) (hi : ind ≤ d + 1 ∧ d + 1 ≤ 25) (hx : exR isName x 24 = true) (hbd : stsR isName body (d + 1) = true) (hne : els.length = 0) (hL : StL (fun _ => True) w0 cs (.mk 5 l c s t x y body els id sl ot lo)) (hw : Below w0.heap.size w0 W) (hp : Pr w0.heap.size b W u)
  (hlen : u.length + ([119, 104, 105, 108, 101, 32] ++ (exT x ++ ([32] ++ (blockT body ind)))).length ≤ 140737488355328) : Calls Tryz.prog 156 #[.pointer (some ⟨b, 0, none⟩), .agg cs.toArray, .int .i64 (ind : Int)] W fun e w' => e = .returned (.tuple #[]) ∧ Pw w0.heap.size b W w' (u ++ ([119, 104, 105, 108, 101, 32] ++ (exT x ++ ([32] ++ (blockT body ind))))) := by
 obtain ⟨d46, hu46, hr46⟩ := under46
 have hl25 := hL.cells.1
 have HZ : Hid (Stz w0 (W.alloc (.cells cs.toArray 64)) W.heap.size (.mk 5 l c s t x y body els id sl ot lo)) := Lib.hid ⟨cs, Blk.new W 64 cs, hl25, hL⟩
 have HP := Lib.hid ((Pw.refl hp).alloc (.cells cs.toArray 64))
 have hzb : W.heap.size ≠ b := by have := hp.lt; omega
 have HCS := Lib.hid (And.intro hl25 hL)
 clear hl25 hp hL
 go_enter Tryz.func156, Tryz.ntmps156
 refine wp_seq_k fun K hK => ?_
 have HK := Lib.hid hK
 clear hK
 go_wp2_with fail
 refine HK.out _ _ ?_
 clear HK K
 obtain ⟨z, hzz⟩ : ∃ z, W.heap.size = z := ⟨_, rfl⟩
 rw [hzz] at HZ hzb ⊢
 generalize W.alloc (.cells cs.toArray 64) = V0 at *
 clear hzz
 have e1 := exW_one hx
 have HNE := Lib.hid hne
 clear hne
 refine wp_seq_k fun K hK => ?_
 have HK := Lib.hid hK
 clear hK
 obtain ⟨p0, p3, p4, ⟨cx, rx, lx, hLx⟩, ⟨cy, ry, ly, hLy⟩, ⟨ab, capb, p19, hbody⟩, ae, cape, p20, hels⟩ := HZ.out.parts
 have HRX := Lib.hid (And.intro rx (And.intro lx (And.intro ry ly)))
 clear rx lx ry ly
 have hcl := put_new [⟨#[119, 104, 105, 108, 101, 32]⟩] (Pw.refl HP.out.p) (by have := hlen; simp [joinB] at this ⊢; omega) (by simp)
 go_wp2_with fail
 refine hcl.mono ?_
 rintro e V1 ⟨rfl, HPn⟩
 have HZ := Lib.hid (HZ.out.kept HPn.kp hzb)
 have HP := Lib.hid (HP.out.go HPn)
 clear hcl HPn p0 p3 p4 hLx hLy p19 hbody p20 hels HRX
 go_wp2_with fail
 refine HK.out _ _ ?_
 clear HK K
 obtain ⟨p0, p3, p4, ⟨cx, rx, lx, hLx⟩, ⟨cy, ry, ly, hLy⟩, ⟨ab, capb, p19, hbody⟩, ae, cape, p20, hels⟩ := HZ.out.parts
 have HRX := Lib.hid (And.intro rx (And.intro lx (And.intro ry ly)))
 clear rx lx ry ly
 have hcl := hE.ex 24 x cx 1 b _ _ hx hLx (hw.trans HP.out.bl) HP.out.p (by have := hlen; simp [joinB, e1] at this ⊢; omega)
 rw [show ((1 : Nat) : Int) = 1 from rfl] at hcl
 go_wp2_with ((with_reducible show wpList _ _ _ (Oper.mk _ (.load 46 (.tmp 16)) _ _ _ _ :: _) _ _); refine wpList_load_mid rfl 46 (.tmp 16) rfl z 5 rfl cx d46 (And.intro HRX.out.1 HRX.out.2.1).1 hu46 hr46 (by rw [(And.intro HRX.out.1 HRX.out.2.1).2]; exact info46) ?_)
 refine hcl.mono ?_
 rintro e V2 ⟨rfl, HPn⟩
 have HZ := Lib.hid (HZ.out.kept HPn.kp hzb)
 have HP := Lib.hid (HP.out.go HPn)
 clear hcl HPn p0 p3 p4 hLx hLy p19 hbody p20 hels HRX
 obtain ⟨p0, p3, p4, ⟨cx, rx, lx, hLx⟩, ⟨cy, ry, ly, hLy⟩, ⟨ab, capb, p19, hbody⟩, ae, cape, p20, hels⟩ := HZ.out.parts
 have HRX := Lib.hid (And.intro rx (And.intro lx (And.intro ry ly)))
 clear rx lx ry ly
 have hcl := put_new [⟨#[32]⟩] (Pw.refl HP.out.p) (by have := hlen; simp [joinB, e1] at this ⊢; omega) (by simp)
 go_wp2_with fail
 refine hcl.mono ?_
 rintro e V3 ⟨rfl, HPn⟩
 have HZ := Lib.hid (HZ.out.kept HPn.kp hzb)
 have HP := Lib.hid (HP.out.go HPn)
 clear hcl HPn p0 p3 p4 hLx hLy p19 hbody p20 hels HRX
 obtain ⟨p0, p3, p4, ⟨cx, rx, lx, hLx⟩, ⟨cy, ry, ly, hLy⟩, ⟨ab, capb, p19, hbody⟩, ae, cape, p20, hels⟩ := HZ.out.parts
 have HRX := Lib.hid (And.intro rx (And.intro lx (And.intro ry ly)))
 clear rx lx ry ly
 have hcl := hB body ab capb ind b _ _ hbd hi hbody (hw.trans HP.out.bl) HP.out.p (by have := hlen; simp [joinB, e1] at this ⊢; omega)
 go_wp2_with fail
 refine hcl.mono ?_
 rintro e V4 ⟨rfl, HPn⟩
 have HZ := Lib.hid (HZ.out.kept HPn.kp hzb)
 have HP := Lib.hid (HP.out.go HPn)
 clear hcl HPn p0 p3 p4 hLx hLy p19 hbody p20 hels HRX
 obtain ⟨p0, p3, p4, ⟨cx, rx, lx, hLx⟩, ⟨cy, ry, ly, hLy⟩, ⟨ab, capb, p19, hbody⟩, ae, cape, p20, hels⟩ := HZ.out.parts
 have HRX := Lib.hid (And.intro rx (And.intro lx (And.intro ry ly)))
 clear rx lx ry ly
 rw [HNE.out] at p20
 go_wp2_with fail
 go_end0
 refine ⟨rfl, ?_⟩
 have := HP.out
 rw [e1] at this
 simpa [joinB] using this
set_option maxHeartbeats 8000000 in
theorem ps_g {w0 W : World} {k l c : Int} {s t : ByteArray} {x y : Ex} {body els : List St} {id sl ot : Int} {lo : Bool} {cs : List Value} {ind b : Nat} {u txt : List UInt8} (hk : k = 4 ∨ k = 5) (hL : StL (fun _ => True) w0 cs (.mk k l c s t x y body els id sl ot lo)) (hw : Below w0.heap.size w0 W) (hp : Pr w0.heap.size b W u)
  (hG : ∀ V, Below w0.heap.size w0 V → Pr w0.heap.size b V u → Calls Tryz.prog 156 #[.pointer (some ⟨b, 0, none⟩), .agg cs.toArray, .int .i64 (ind : Int)] V fun e w' => e = .returned (.tuple #[]) ∧ Pw w0.heap.size b V w' (u ++ txt)) :
  Calls Tryz.prog 127 #[.pointer (some ⟨b, 0, none⟩), .agg cs.toArray, .int .i64 (ind : Int)] W fun e w' => e = .returned (.tuple #[]) ∧ Pw w0.heap.size b W w' (u ++ txt) := by
 obtain ⟨d64, hu64, hr64⟩ := under64
 have hl25 := hL.cells.1
 have hz : Stz w0 (W.alloc (.cells cs.toArray 64)) W.heap.size (.mk k l c s t x y body els id sl ot lo) := ⟨cs, Blk.new W 64 cs, hl25, hL⟩
 have hP := (Pw.refl hp).alloc (.cells cs.toArray 64)
 have hcl := hG _ (hw.trans hP.bl) hP.p
 have HB := Lib.hid (Blk.new W 64 cs)
 obtain ⟨p0, -⟩ := hz.parts
 have HP := Lib.hid hP
 clear hz hP hp hG hL hw
 go_enter Tryz.func127, Tryz.ntmps127
 refine wp_seq_k fun K hK => ?_
 have HK := Lib.hid hK
 clear hK
 go_wp2_with fail
 refine HK.out _ _ ?_
 clear HK K
 obtain ⟨z, hzz⟩ : ∃ z, W.heap.size = z := ⟨_, rfl⟩
 rw [hzz] at HB p0 ⊢
 generalize W.alloc (.cells cs.toArray 64) = V0 at *
 clear hzz
 rcases hk with rfl | rfl
 ·go_wp2_with ((with_reducible show wpList _ _ _ (Oper.mk _ (.load 64 _) _ _ _ _ :: _) _ _); refine wpList_load_blk hu64 hr64 info64 rfl (.tmp 4) rfl z cs rfl HB hl25 ?_)
  refine hcl.mono ?_
  rintro e V1 ⟨rfl, h1⟩
  clear hcl p0
  go_wp2_with fail
  go_end0
  exact ⟨rfl, HP.out.go h1⟩
 ·go_wp2_with ((with_reducible show wpList _ _ _ (Oper.mk _ (.load 64 _) _ _ _ _ :: _) _ _); refine wpList_load_blk hu64 hr64 info64 rfl (.tmp 4) rfl z cs rfl HB hl25 ?_)
  refine hcl.mono ?_
  rintro e V1 ⟨rfl, h1⟩
  clear hcl p0
  go_wp2_with fail
  go_end0
  exact ⟨rfl, HP.out.go h1⟩
theorem stm_any {w0 : World} {d : Nat} (hE : Env w0) (hB : PbOk w0 (d + 1)) : StmOk w0 d := by
 intro s cs ind b u W hR hi hL hw hp hlen
 obtain ⟨k, l, c, s, t, x, y, body, els, id, sl, ot, lo⟩ := s
 obtain ⟨⟨k1, k15⟩, hx, hy, hbd, hed, hel⟩ := stR_inv hR
 have hd24 : d ≤ 24 := by
  have h := hR
  unfold stR at h
  simp only [Bool.and_eq_true, decide_eq_true_eq] at h
  exact h.2.1
 have hi : ind ≤ d + 1 ∧ d + 1 ≤ 25 := ⟨hi, by omega⟩
 have hkk : k = 1 ∨ k = 2 ∨ k = 3 ∨ k = 4 ∨ k = 5 ∨ k = 6 ∨ k = 7 ∨ k = 8 ∨ k = 9 ∨ k = 10 ∨ k = 11 ∨ k = 12 ∨ k = 13 ∨ k = 14 ∨ k = 15 := by omega
 rcases hkk with rfl | rfl | rfl | rfl | rfl | rfl | rfl | rfl | rfl | rfl | rfl | rfl | rfl | rfl | rfl
 ·have e : stT (.mk 1 l c s t x y body els id sl ot lo) ind = [108, 101, 116, 32] ++ (s.data.toList ++ ([32, 61, 32] ++ (exT x ++ [59]))) := by simp [stT]
  rw [e] at hlen ⊢
  exact ps1 hE (hx (by decide)) hL hw hp hlen
 ·have e : stT (.mk 2 l c s t x y body els id sl ot lo) ind = s.data.toList ++ ([32, 61, 32] ++ (exT x ++ [59])) := by simp [stT]
  rw [e] at hlen ⊢
  exact ps2 hE (hx (by decide)) hL hw hp hlen
 ·have e : stT (.mk 3 l c s t x y body els id sl ot lo) ind = s.data.toList ++ ([91] ++ (exT y ++ ([93, 32, 61, 32] ++ (exT x ++ [59])))) := by simp [stT]
  rw [e] at hlen ⊢
  exact ps3 hE (hx (by decide)) (hy rfl) hL hw hp hlen
 ·by_cases hne : els.length = 0
  ·have hnil : els = [] := List.eq_nil_of_length_eq_zero hne
   have e : stT (.mk 4 l c s t x y body els id sl ot lo) ind = [105, 102, 32] ++ (exT x ++ ([32] ++ (blockT body ind))) := by
    subst hnil
    simp [stT, blockT]
   rw [e] at hlen ⊢
   exact ps_g (.inl rfl) hL hw hp fun V h1 h2 => pg4a hE hB hi (hx (by decide)) hbd hne hL h1 h2 hlen
  ·have hnil : els ≠ [] := fun e => hne (by rw [e]; rfl)
   have e : stT (.mk 4 l c s t x y body els id sl ot lo) ind = [105, 102, 32] ++ (exT x ++ ([32] ++ (blockT body ind ++ ([32, 101, 108, 115, 101, 32] ++ blockT els ind)))) := by
    simp [stT, blockT, hnil]
   rw [e] at hlen ⊢
   exact ps_g (.inl rfl) hL hw hp fun V h1 h2 => pg4b hE hB hi (hx (by decide)) hbd hed hne hL h1 h2 hlen
 ·have hne : els.length = 0 := hel.resolve_left (by decide)
  have e : stT (.mk 5 l c s t x y body els id sl ot lo) ind = [119, 104, 105, 108, 101, 32] ++ (exT x ++ ([32] ++ (blockT body ind))) := by
   simp [stT, blockT]
  rw [e] at hlen ⊢
  exact ps_g (.inr rfl) hL hw hp fun V h1 h2 => pg5 hE hB hi (hx (by decide)) hbd hne hL h1 h2 hlen
 ·have e : stT (.mk 6 l c s t x y body els id sl ot lo) ind = [108, 111, 99, 107, 32] ++ (s.data.toList ++ [59]) := by simp [stT, stW]
  rw [e] at hlen ⊢
  exact ps6 hE hL hw hp hlen
 ·have e : stT (.mk 7 l c s t x y body els id sl ot lo) ind = [117, 110, 108, 111, 99, 107, 32] ++ (s.data.toList ++ [59]) := by simp [stT, stW]
  rw [e] at hlen ⊢
  exact ps7 hE hL hw hp hlen
 ·have e : stT (.mk 8 l c s t x y body els id sl ot lo) ind = [119, 97, 105, 116, 32] ++ (s.data.toList ++ ([32] ++ (t.data.toList ++ [59]))) := by simp [stT, stW]
  rw [e] at hlen ⊢
  exact ps8 hE hL hw hp hlen
 ·have e : stT (.mk 9 l c s t x y body els id sl ot lo) ind = [115, 105, 103, 110, 97, 108, 32] ++ (s.data.toList ++ [59]) := by simp [stT, stW]
  rw [e] at hlen ⊢
  exact ps9 hE hL hw hp hlen
 ·have e : stT (.mk 10 l c s t x y body els id sl ot lo) ind = [97, 108, 108, 32] ++ (s.data.toList ++ [59]) := by simp [stT, stW]
  rw [e] at hlen ⊢
  exact ps10 hE hL hw hp hlen
 ·have e : stT (.mk 11 l c s t x y body els id sl ot lo) ind = [115, 101, 110, 100, 32] ++ (s.data.toList ++ ([32] ++ (exT x ++ [59]))) := by simp [stT]
  rw [e] at hlen ⊢
  exact ps11 hE (hx (by decide)) hL hw hp hlen
 ·have e : stT (.mk 12 l c s t x y body els id sl ot lo) ind = [114, 101, 99, 118, 32] ++ (s.data.toList ++ ([32] ++ (t.data.toList ++ [59]))) := by simp [stT, stW]
  rw [e] at hlen ⊢
  exact ps12 hE hL hw hp hlen
 ·have e : stT (.mk 13 l c s t x y body els id sl ot lo) ind = [115, 112, 97, 119, 110, 32] ++ (s.data.toList ++ [59]) := by simp [stT, stW]
  rw [e] at hlen ⊢
  exact ps13 hE hL hw hp hlen
 ·have e : stT (.mk 14 l c s t x y body els id sl ot lo) ind = [106, 111, 105, 110, 59] := by simp [stT]
  rw [e] at hlen ⊢
  exact ps14 hE hL hw hp hlen
 ·have e : stT (.mk 15 l c s t x y body els id sl ot lo) ind = [112, 114, 105, 110, 116, 32] ++ (exT x ++ [59]) := by simp [stT]
  rw [e] at hlen ⊢
  exact ps15 hE (hx (by decide)) hL hw hp hlen
theorem rep_tabs (n : Nat) : Lib.repeatL [9] n = tabs n := by
 induction n with
 | zero => rfl
 | succ n ih =>
  show [9] ++ Lib.repeatL [9] n = tabs (n + 1)
  rw [ih]
  rfl
theorem blT_app (n : Nat) : ∀ (l m : List St), blT (l ++ m) n = blT l n ++ blT m n
 | [], m => by simp [blT]
 | s :: r, m => by
  rw [List.cons_append, blT, blT, blT_app n r m]
  simp
theorem blT_take {l : List St} {i n : Nat} {s : St} (h : l[i]? = some s) : blT (l.take (i + 1)) n = blT (l.take i) n ++ (tabs n ++ (stT s n ++ [10])) := by
 obtain ⟨hi, rfl⟩ := List.getElem?_eq_some_iff.1 h
 rw [List.take_succ_eq_append_getElem hi, blT_app]
 simp [blT]
theorem blT_le (l : List St) (i n : Nat) : (blT (l.take i) n).length ≤ (blT l n).length := by
 conv => rhs; rw [← List.take_append_drop i l]
 rw [blT_app, List.length_append]
 omega
theorem stsR_at {l : List St} {d i : Nat} {s : St} (h : stsR isName l d = true) (hs : l[i]? = some s) : stR isName s d = true := by
 induction l generalizing i with
 | nil => simp at hs
 | cons x r ih =>
  rw [stsR, Bool.and_eq_true] at h
  cases i with
  | zero =>
   simp only [List.getElem?_cons_zero, Option.some.injEq] at hs
   subst hs
   exact h.1
  | succ i => exact ih h.2 (by simpa using hs)
set_option maxHeartbeats 16000000 in
theorem pb_any {w0 : World} {d : Nat} (hS : StmOk w0 d) : PbOk w0 d := by
 intro l a cap ind b t W hR hi hl hw hp hlen
 obtain ⟨d64, hu64, hr64⟩ := under64
 have hroom := hl.1
 obtain ⟨N, hN⟩ : ∃ N, l.length = N := ⟨_, rfl⟩
 rw [hN] at hroom ⊢
 unfold blockT at hlen
 have hbl : ∀ i, (blT (l.take i) (ind + 1)).length ≤ (blT l (ind + 1)).length := fun i => blT_le l i _
 have HN := Lib.hid hN
 have HL := Lib.hid hl
 have HR := Lib.hid hR
 have HLEN : Hid (t.length + 2 + (blT l (ind + 1)).length + ind + 1 ≤ 140737488355328) := Lib.hid (by simp [tabs] at hlen; omega)
 have HBL := Lib.hid hbl
 have hcl := put_new [⟨#[123, 10]⟩] (Pw.refl hp) (by have := HLEN.out; simp [joinB]; omega) (by simp)
 clear hN hl hR hlen hbl hp
 go_enter Tryz.func92, Tryz.ntmps92
 go_wp2_with fail
 refine hcl.mono ?_
 rintro e V1 ⟨rfl, hP1⟩
 have HP : Hid (Pw w0.heap.size b W V1 (t ++ ([123, 10] ++ blT (l.take 0) (ind + 1)))) := Lib.hid (by
  simpa [joinB, blT] using hP1)
 clear hcl hP1
 go_wp2_with fail
 go_loopg [13] N (fun x iv wr => ∃ i : Nat, i ≤ N ∧ x = N - i ∧ iv = .int .i64 (i : Int) ∧ Hid (Pw w0.heap.size b W wr (t ++ ([123, 10] ++ blT (l.take i) (ind + 1)))))
 case atStart => exact ⟨0, Nat.zero_le _, rfl, rfl, HP⟩
 case round =>
  clear HP
  obtain ⟨i, hiN0, rfl, rfl, HP⟩ := hrel
  by_cases hiN : i < N
  ·have hlt : (i : Int) < (N : Int) := by omega
   have hp0 : (0 : Int) ≤ (i : Int) := by omega
   have hroom2 : (i : Int) + 1 ≤ 9223372036854775807 := by
    have h1 := hroom.1
    have h2 := hroom.2
    omega
   have hir : (ind : Int) + 1 ≤ 9223372036854775807 := by omega
   have hi0 : (0 : Int) ≤ (ind : Int) := by omega
   obtain ⟨s, hs⟩ : ∃ s, l[i]? = some s := ⟨_, List.getElem?_eq_getElem (by rw [HN.out]; exact hiN)⟩
   have hsR := stsR_at HR.out hs
   have hle := HBL.out (i + 1)
   rw [blT_take hs] at hle
   have HTK := Lib.hid (blT_take (n := ind + 1) hs)
   have HSR := Lib.hid hsR
   have hlen := HLEN.out
   have HLE : Hid ((blT (l.take i) (ind + 1)).length + (ind + 1) + (stT s (ind + 1)).length + 1 ≤ (blT l (ind + 1)).length) := Lib.hid (by simp [tabs] at hle; omega)
   obtain ⟨b2, off2, rfl, cs, hrg, hL⟩ := HL.out.at hs
   have hl25 := hL.cells.1
   have h1c := hL.cells.2
   have hV := hw.trans HP.out.bl
   have HRg := Lib.hid (rangeB hrg hV)
   have HLS := Lib.hid hL
   have hP2 := HP.out.alloc (.cells cs.toArray 64)
   have hz2 := Blk.new wr 64 cs
   have hrep := Tryz.strings_Repeat ⟨#[9]⟩ (ind + 1) (wr.alloc (.cells cs.toArray 64)) (by omega) (by show 1 * (ind + 1) ≤ _; omega)
   rw [show (((ind + 1 : Nat)) : Int) = (ind : Int) + 1 by omega] at hrep
   have hzb : wr.heap.size ≠ b := by have := HP.out.p.lt; omega
   have HA := Lib.hid (And.intro hP2 hz2)
   clear hrg hL hs hsR hle hV hP2 hz2
   go_wp2_with (first | ((with_reducible show wpList _ _ _ (Oper.mk _ (.load 64 (.tmp 15)) _ _ _ _ :: _) _ _); refine wpList_load_mid rfl 64 (.tmp 15) rfl b2 (off2 + i * 25) rfl cs d64 HRg.out hu64 hr64 (by rw [hl25]; exact info64) ?_) | ((with_reducible show wpList _ _ _ (Oper.mk none (.store 64 _ _) _ _ _ _ :: _) _ _); refine wpList_store_fresh info64 rfl (.tmp 7) (.tmp 16) rfl wr zSt.toList cs rfl rfl hl25 h1c _ rfl rfl rfl ?_))
   refine hrep.mono ?_
   rintro e V2 ⟨rfl, hb2⟩
   obtain ⟨hP2, hz2⟩ := HA.out
   obtain ⟨z, hzz⟩ : ∃ z, wr.heap.size = z := ⟨_, rfl⟩
   rw [hzz] at hz2 hzb ⊢
   have hP3 := hP2.below hb2
   have hz3 := hz2.below hb2
   clear HA hP2 hz2 hb2 hrep hzz
   have hsz9 : Lib.repeatL (⟨#[9]⟩ : ByteArray).data.toList (ind + 1) = tabs (ind + 1) := rep_tabs _
   rw [hsz9]
   obtain ⟨tb, htb⟩ : ∃ tb : ByteArray, (⟨(tabs (ind + 1)).toArray⟩ : ByteArray) = tb := ⟨_, rfl⟩
   have htbd : tb.data.toList = tabs (ind + 1) := by rw [← htb]
   have htbl : tb.data.toList.length = ind + 1 := by rw [htbd]; simp [tabs]
   rw [htb]
   have hcl := put_new [tb] (Pw.refl hP3.p) (by have := HLE.out; simp [joinB] at htbl ⊢; omega) (by simp)
   have HA := Lib.hid (And.intro hP3 (And.intro hz3 htbd))
   clear hP3 hz3 hsz9 htb htbl htbd
   go_wp2_with fail
   refine hcl.mono ?_
   rintro e V3 ⟨rfl, hP4⟩
   obtain ⟨hP3, hz3, htbd⟩ := HA.out
   have hz4 := hz3.kept hP4.kp hzb (by decide)
   have hPx := hP3.go hP4
   have e5 : t ++ ([123, 10] ++ blT (l.take i) (ind + 1)) ++ joinB [tb] = t ++ ([123, 10] ++ (blT (l.take i) (ind + 1) ++ tabs (ind + 1))) := by
    simp [joinB, htbd]
   have hP5 : Pw w0.heap.size b W V3 (t ++ ([123, 10] ++ (blT (l.take i) (ind + 1) ++ tabs (ind + 1)))) := by
    rw [← e5]
    exact hPx
   have hcs := hS s cs (ind + 1) b _ V3 HSR.out (by omega) HLS.out (hw.trans hP5.bl) hP5.p (by have := HLE.out; have := HLEN.out; simp [tabs]; omega)
   rw [show (((ind + 1 : Nat)) : Int) = (ind : Int) + 1 by omega] at hcs
   have HA2 := Lib.hid hP5
   have HZ4 := Lib.hid hz4
   clear hcl HA hP3 hz3 htbd hz4 hP4 e5 hP5 hPx
   go_wp2_with ((with_reducible show wpList _ _ _ (Oper.mk _ (.load 64 _) _ _ _ _ :: _) _ _); refine wpList_load_blk hu64 hr64 info64 rfl (.tmp 7) rfl z cs rfl HZ4 hl25 ?_)
   refine hcs.mono ?_
   rintro e V4 ⟨rfl, hP6⟩
   have hP7 := HA2.out.go hP6
   have hc4 := put_new [⟨#[10]⟩] hP7 (by have := HLE.out; have := HLEN.out; simp [joinB, tabs]; omega) (by simp)
   clear hcs HA2 HZ4 hP6 hP7
   go_wp2_with fail
   refine hc4.mono ?_
   rintro e V5 ⟨rfl, hP8⟩
   have HP5 : Hid (Pw w0.heap.size b W V5 (t ++ ([123, 10] ++ blT (l.take (i + 1)) (ind + 1)))) := Lib.hid (by
    rw [HTK.out]
    simpa [joinB] using hP8)
   clear hc4 hP8
   go_wp2_with fail
   go_roundg (N - (i + 1))
   case measure => omega
   case rel => exact ⟨i + 1, by omega, rfl, rfl, HP5⟩
  ·obtain rfl : i = N := by omega
   have hlt : ¬ (i : Int) < (i : Int) := by omega
   have hall : l.take i = l := List.take_of_length_le (by rw [HN.out]; exact Nat.le_refl _)
   have hP := HP.out
   rw [hall] at hP
   have hir : (0 : Int) ≤ (ind : Int) := by omega
   have hrep := Tryz.strings_Repeat ⟨#[9]⟩ ind wr (by omega) (by show 1 * ind ≤ _; omega)
   have HA := Lib.hid hP
   clear hP hall HP
   go_wp2_with fail
   refine hrep.mono ?_
   rintro e V2 ⟨rfl, hb2⟩
   have hP3 := HA.out.below hb2
   have hsz9 : Lib.repeatL (⟨#[9]⟩ : ByteArray).data.toList ind = tabs ind := rep_tabs _
   rw [hsz9]
   obtain ⟨tb, htb⟩ : ∃ tb : ByteArray, (⟨(tabs ind).toArray⟩ : ByteArray) = tb := ⟨_, rfl⟩
   have htbd : tb.data.toList = tabs ind := by rw [← htb]
   have htbl : tb.data.toList.length = ind := by rw [htbd]; simp [tabs]
   rw [htb]
   have hcl := put_new [tb, ⟨#[125]⟩] hP3 (by have := HLEN.out; simp [joinB] at htbl ⊢; omega) (by simp)
   have HTD := Lib.hid htbd
   clear hP3 hsz9 htb htbl htbd HA hrep hb2
   go_wp2_with fail
   refine hcl.mono ?_
   rintro e V3 ⟨rfl, hP4⟩
   have HF : Hid (Pw w0.heap.size b W V3 (t ++ blockT l ind)) := Lib.hid (by
    unfold blockT
    simpa [joinB, HTD.out] using hP4)
   clear hcl hP4
   go_wp2_with fail
   go_end0
   exact ⟨rfl, HF.out⟩
theorem pb_all {w0 : World} (hE : Env w0) : ∀ (m d : Nat), d + m = 25 → PbOk w0 d := by
 intro m
 induction m with
 | zero =>
  intro d hd
  refine pb_any fun s cs ind b t W hR => ?_
  rw [stR_deep s d (by omega)] at hR
  cases hR
 | succ m ih =>
  intro d hd
  exact pb_any (stm_any hE (ih (d + 1) (by omega)))
end Go.Proofs.YtjmlmelcppbefaaGreatDoor
