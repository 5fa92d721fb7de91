/- What the syntax texts share, part 45. No condition. -/
import Derived.Test.YtjmlmelcppbefaaGreatDoorT27
import Derived.Test.YtjmlmelcppbefaaGreatDoorT28
import Derived.Test.YtjmlmelcppbefaaGreatDoorT44
set_option maxRecDepth 100000
namespace Go.Proofs.YtjmlmelcppbefaaGreatDoor
open Go.RowKit Go.Maps
set_option maxHeartbeats 8000000 in
theorem pd1 {w0 W : World} {l c n : Int} {s : ByteArray} {body : List St} {a : Option Addr} {cap b : Nat} {u : List UInt8} (hE : Env w0) (hn : -2147483647 ≤ n ∧ n ≤ 2147483647) (hL : SlAt w0 a cap body) (hw : Below w0.heap.size w0 W) (hp : Pr w0.heap.size b W u)
  (hlen : u.length + ([118, 97, 114, 32] ++ (s.data.toList ++ ([32, 61, 32] ++ (Lib.itoa n ++ [59, 10])))).length ≤ 140737488355328) : Calls Tryz.prog 44 #[.pointer (some ⟨b, 0, none⟩), .agg #[.int .i64 1, .int .i64 l, .int .i64 c, .string s, .int .i64 n, .slice a body.length cap]] W fun e w' => e = .returned (.tuple #[]) ∧ Pw w0.heap.size b W w' (u ++ ([118, 97, 114, 32] ++ (s.data.toList ++ ([32, 61, 32] ++ (Lib.itoa n ++ [59, 10]))))) := by
 obtain ⟨nB, hnB⟩ : ∃ n, body.length = n := ⟨_, rfl⟩
 rw [hnB]
 have HN := Lib.hid hnB
 clear hnB
 have hz := Blk.new W 55 [.int .i64 1, .int .i64 l, .int .i64 c, .string s, .int .i64 n, .slice a nB cap]
 have hP := (Pw.refl hp).alloc (.cells #[.int .i64 1, .int .i64 l, .int .i64 c, .string s, .int .i64 n, .slice a nB cap] 55)
 have hcn := Tryz.strconv_FormatInt_10 n (by omega) (by omega) (W.alloc (.cells #[.int .i64 1, .int .i64 l, .int .i64 c, .string s, .int .i64 n, .slice a nB cap] 55)) (Tab.below hE.t (hw.trans hP.bl) (by have := hE.s; omega))
 have hzb : W.heap.size ≠ b := by have := hp.lt; omega
 have HA := Lib.hid (And.intro hP hz)
 have HL := Lib.hid hL
 clear hP hz hp hL
 go_enter Tryz.func44, Tryz.ntmps44
 go_wp2_with fail
 refine hcn.mono ?_
 rintro e V1 ⟨rfl, k1, os1, rfl⟩
 obtain ⟨hP, hz⟩ := HA.out
 obtain ⟨z, hzz⟩ : ∃ z, W.heap.size = z := ⟨_, rfl⟩
 rw [hzz] at hz hzb ⊢
 have hb1 := grow_below (W.alloc (.cells #[.int .i64 1, .int .i64 l, .int .i64 c, .string s, .int .i64 n, .slice a nB cap] 55)) k1 os1
 have HP := Lib.hid (hP.below hb1)
 have HZ := Lib.hid (hz.below hb1)
 clear HA hcn hP hz hb1 hzz
 generalize Sort.grow ((W.alloc (.cells #[.int .i64 1, .int .i64 l, .int .i64 c, .string s, .int .i64 n, .slice a nB cap] 55)).drewN k1) os1 = V1 at *
 obtain ⟨ns, hns⟩ : ∃ ns : ByteArray, (⟨(Lib.itoa n).toArray⟩ : ByteArray) = ns := ⟨_, rfl⟩
 have hnd : ns.data.toList = Lib.itoa n := by rw [← hns]
 rw [hns]
 clear hns
 rw [← hnd] at hlen
 have HND := Lib.hid hnd
 clear hnd
 have c0 := HZ.out.cell 0
 have c3 := HZ.out.cell 3
 have c5 := HZ.out.cell 5
 simp only [List.getElem?_cons_succ, List.getElem?_cons_zero] at c0 c3 c5
 have hcl := put_new [⟨#[118, 97, 114, 32]⟩, s, ⟨#[32, 61, 32]⟩, ns, ⟨#[59, 10]⟩] (Pw.refl HP.out.p) (by have := hlen; simp [joinB] at this ⊢; omega) (by simp)
 go_wp2_with fail
 refine hcl.mono ?_
 rintro e V2 ⟨rfl, HPn⟩
 have HZ := Lib.hid (HZ.out.kept HPn.kp hzb (by decide))
 have HP := Lib.hid (HP.out.go HPn)
 clear hcl HPn c0 c3 c5
 go_wp2_with fail
 go_end0
 refine ⟨rfl, ?_⟩
 have := HP.out
 simpa [joinB, HND.out] using this
set_option maxHeartbeats 8000000 in
theorem pd2 {w0 W : World} {l c n : Int} {s : ByteArray} {body : List St} {a : Option Addr} {cap b : Nat} {u : List UInt8} (hE : Env w0) (hn : -2147483647 ≤ n ∧ n ≤ 2147483647) (hL : SlAt w0 a cap body) (hw : Below w0.heap.size w0 W) (hp : Pr w0.heap.size b W u)
  (hlen : u.length + ([97, 114, 114, 97, 121, 32] ++ (s.data.toList ++ ([32] ++ (Lib.itoa n ++ [59, 10])))).length ≤ 140737488355328) : Calls Tryz.prog 44 #[.pointer (some ⟨b, 0, none⟩), .agg #[.int .i64 2, .int .i64 l, .int .i64 c, .string s, .int .i64 n, .slice a body.length cap]] W fun e w' => e = .returned (.tuple #[]) ∧ Pw w0.heap.size b W w' (u ++ ([97, 114, 114, 97, 121, 32] ++ (s.data.toList ++ ([32] ++ (Lib.itoa n ++ [59, 10]))))) := by
 obtain ⟨nB, hnB⟩ : ∃ n, body.length = n := ⟨_, rfl⟩
 rw [hnB]
 have HN := Lib.hid hnB
 clear hnB
 have hz := Blk.new W 55 [.int .i64 2, .int .i64 l, .int .i64 c, .string s, .int .i64 n, .slice a nB cap]
 have hP := (Pw.refl hp).alloc (.cells #[.int .i64 2, .int .i64 l, .int .i64 c, .string s, .int .i64 n, .slice a nB cap] 55)
 have hcn := Tryz.strconv_FormatInt_10 n (by omega) (by omega) (W.alloc (.cells #[.int .i64 2, .int .i64 l, .int .i64 c, .string s, .int .i64 n, .slice a nB cap] 55)) (Tab.below hE.t (hw.trans hP.bl) (by have := hE.s; omega))
 have hzb : W.heap.size ≠ b := by have := hp.lt; omega
 have HA := Lib.hid (And.intro hP hz)
 have HL := Lib.hid hL
 clear hP hz hp hL
 go_enter Tryz.func44, Tryz.ntmps44
 go_wp2_with fail
 refine hcn.mono ?_
 rintro e V1 ⟨rfl, k1, os1, rfl⟩
 obtain ⟨hP, hz⟩ := HA.out
 obtain ⟨z, hzz⟩ : ∃ z, W.heap.size = z := ⟨_, rfl⟩
 rw [hzz] at hz hzb ⊢
 have hb1 := grow_below (W.alloc (.cells #[.int .i64 2, .int .i64 l, .int .i64 c, .string s, .int .i64 n, .slice a nB cap] 55)) k1 os1
 have HP := Lib.hid (hP.below hb1)
 have HZ := Lib.hid (hz.below hb1)
 clear HA hcn hP hz hb1 hzz
 generalize Sort.grow ((W.alloc (.cells #[.int .i64 2, .int .i64 l, .int .i64 c, .string s, .int .i64 n, .slice a nB cap] 55)).drewN k1) os1 = V1 at *
 obtain ⟨ns, hns⟩ : ∃ ns : ByteArray, (⟨(Lib.itoa n).toArray⟩ : ByteArray) = ns := ⟨_, rfl⟩
 have hnd : ns.data.toList = Lib.itoa n := by rw [← hns]
 rw [hns]
 clear hns
 rw [← hnd] at hlen
 have HND := Lib.hid hnd
 clear hnd
 have c0 := HZ.out.cell 0
 have c3 := HZ.out.cell 3
 have c5 := HZ.out.cell 5
 simp only [List.getElem?_cons_succ, List.getElem?_cons_zero] at c0 c3 c5
 have hcl := put_new [⟨#[97, 114, 114, 97, 121, 32]⟩, s, ⟨#[32]⟩, ns, ⟨#[59, 10]⟩] (Pw.refl HP.out.p) (by have := hlen; simp [joinB] at this ⊢; omega) (by simp)
 go_wp2_with fail
 refine hcl.mono ?_
 rintro e V2 ⟨rfl, HPn⟩
 have HZ := Lib.hid (HZ.out.kept HPn.kp hzb (by decide))
 have HP := Lib.hid (HP.out.go HPn)
 clear hcl HPn c0 c3 c5
 go_wp2_with fail
 go_end0
 refine ⟨rfl, ?_⟩
 have := HP.out
 simpa [joinB, HND.out] using this
set_option maxHeartbeats 8000000 in
theorem pd5 {w0 W : World} {l c n : Int} {s : ByteArray} {body : List St} {a : Option Addr} {cap b : Nat} {u : List UInt8} (hE : Env w0) (hn : -2147483647 ≤ n ∧ n ≤ 2147483647) (hL : SlAt w0 a cap body) (hw : Below w0.heap.size w0 W) (hp : Pr w0.heap.size b W u)
  (hlen : u.length + ([99, 104, 97, 110, 32] ++ (s.data.toList ++ ([32] ++ (Lib.itoa n ++ [59, 10])))).length ≤ 140737488355328) : Calls Tryz.prog 44 #[.pointer (some ⟨b, 0, none⟩), .agg #[.int .i64 5, .int .i64 l, .int .i64 c, .string s, .int .i64 n, .slice a body.length cap]] W fun e w' => e = .returned (.tuple #[]) ∧ Pw w0.heap.size b W w' (u ++ ([99, 104, 97, 110, 32] ++ (s.data.toList ++ ([32] ++ (Lib.itoa n ++ [59, 10]))))) := by
 obtain ⟨nB, hnB⟩ : ∃ n, body.length = n := ⟨_, rfl⟩
 rw [hnB]
 have HN := Lib.hid hnB
 clear hnB
 have hz := Blk.new W 55 [.int .i64 5, .int .i64 l, .int .i64 c, .string s, .int .i64 n, .slice a nB cap]
 have hP := (Pw.refl hp).alloc (.cells #[.int .i64 5, .int .i64 l, .int .i64 c, .string s, .int .i64 n, .slice a nB cap] 55)
 have hcn := Tryz.strconv_FormatInt_10 n (by omega) (by omega) (W.alloc (.cells #[.int .i64 5, .int .i64 l, .int .i64 c, .string s, .int .i64 n, .slice a nB cap] 55)) (Tab.below hE.t (hw.trans hP.bl) (by have := hE.s; omega))
 have hzb : W.heap.size ≠ b := by have := hp.lt; omega
 have HA := Lib.hid (And.intro hP hz)
 have HL := Lib.hid hL
 clear hP hz hp hL
 go_enter Tryz.func44, Tryz.ntmps44
 go_wp2_with fail
 refine hcn.mono ?_
 rintro e V1 ⟨rfl, k1, os1, rfl⟩
 obtain ⟨hP, hz⟩ := HA.out
 obtain ⟨z, hzz⟩ : ∃ z, W.heap.size = z := ⟨_, rfl⟩
 rw [hzz] at hz hzb ⊢
 have hb1 := grow_below (W.alloc (.cells #[.int .i64 5, .int .i64 l, .int .i64 c, .string s, .int .i64 n, .slice a nB cap] 55)) k1 os1
 have HP := Lib.hid (hP.below hb1)
 have HZ := Lib.hid (hz.below hb1)
 clear HA hcn hP hz hb1 hzz
 generalize Sort.grow ((W.alloc (.cells #[.int .i64 5, .int .i64 l, .int .i64 c, .string s, .int .i64 n, .slice a nB cap] 55)).drewN k1) os1 = V1 at *
 obtain ⟨ns, hns⟩ : ∃ ns : ByteArray, (⟨(Lib.itoa n).toArray⟩ : ByteArray) = ns := ⟨_, rfl⟩
 have hnd : ns.data.toList = Lib.itoa n := by rw [← hns]
 rw [hns]
 clear hns
 rw [← hnd] at hlen
 have HND := Lib.hid hnd
 clear hnd
 have c0 := HZ.out.cell 0
 have c3 := HZ.out.cell 3
 have c5 := HZ.out.cell 5
 simp only [List.getElem?_cons_succ, List.getElem?_cons_zero] at c0 c3 c5
 have hcl := put_new [⟨#[99, 104, 97, 110, 32]⟩, s, ⟨#[32]⟩, ns, ⟨#[59, 10]⟩] (Pw.refl HP.out.p) (by have := hlen; simp [joinB] at this ⊢; omega) (by simp)
 go_wp2_with fail
 refine hcl.mono ?_
 rintro e V2 ⟨rfl, HPn⟩
 have HZ := Lib.hid (HZ.out.kept HPn.kp hzb (by decide))
 have HP := Lib.hid (HP.out.go HPn)
 clear hcl HPn c0 c3 c5
 go_wp2_with fail
 go_end0
 refine ⟨rfl, ?_⟩
 have := HP.out
 simpa [joinB, HND.out] using this
set_option maxHeartbeats 8000000 in
theorem pd3 {w0 W : World} {l c n : Int} {s : ByteArray} {body : List St} {a : Option Addr} {cap b : Nat} {u : List UInt8} (hE : Env w0) (hn : -2147483647 ≤ n ∧ n ≤ 2147483647) (hL : SlAt w0 a cap body) (hw : Below w0.heap.size w0 W) (hp : Pr w0.heap.size b W u)
  (hlen : u.length + ([109, 117, 116, 101, 120, 32] ++ (s.data.toList ++ [59, 10])).length ≤ 140737488355328) : Calls Tryz.prog 44 #[.pointer (some ⟨b, 0, none⟩), .agg #[.int .i64 3, .int .i64 l, .int .i64 c, .string s, .int .i64 n, .slice a body.length cap]] W fun e w' => e = .returned (.tuple #[]) ∧ Pw w0.heap.size b W w' (u ++ ([109, 117, 116, 101, 120, 32] ++ (s.data.toList ++ [59, 10]))) := by
 obtain ⟨nB, hnB⟩ : ∃ n, body.length = n := ⟨_, rfl⟩
 rw [hnB]
 have HN := Lib.hid hnB
 clear hnB
 have hz := Blk.new W 55 [.int .i64 3, .int .i64 l, .int .i64 c, .string s, .int .i64 n, .slice a nB cap]
 have hP := (Pw.refl hp).alloc (.cells #[.int .i64 3, .int .i64 l, .int .i64 c, .string s, .int .i64 n, .slice a nB cap] 55)
 have hcn := Tryz.strconv_FormatInt_10 n (by omega) (by omega) (W.alloc (.cells #[.int .i64 3, .int .i64 l, .int .i64 c, .string s, .int .i64 n, .slice a nB cap] 55)) (Tab.below hE.t (hw.trans hP.bl) (by have := hE.s; omega))
 have hzb : W.heap.size ≠ b := by have := hp.lt; omega
 have HA := Lib.hid (And.intro hP hz)
 have HL := Lib.hid hL
 clear hP hz hp hL
 go_enter Tryz.func44, Tryz.ntmps44
 go_wp2_with fail
 refine hcn.mono ?_
 rintro e V1 ⟨rfl, k1, os1, rfl⟩
 obtain ⟨hP, hz⟩ := HA.out
 obtain ⟨z, hzz⟩ : ∃ z, W.heap.size = z := ⟨_, rfl⟩
 rw [hzz] at hz hzb ⊢
 have hb1 := grow_below (W.alloc (.cells #[.int .i64 3, .int .i64 l, .int .i64 c, .string s, .int .i64 n, .slice a nB cap] 55)) k1 os1
 have HP := Lib.hid (hP.below hb1)
 have HZ := Lib.hid (hz.below hb1)
 clear HA hcn hP hz hb1 hzz
 generalize Sort.grow ((W.alloc (.cells #[.int .i64 3, .int .i64 l, .int .i64 c, .string s, .int .i64 n, .slice a nB cap] 55)).drewN k1) os1 = V1 at *
 obtain ⟨ns, hns⟩ : ∃ ns : ByteArray, (⟨(Lib.itoa n).toArray⟩ : ByteArray) = ns := ⟨_, rfl⟩
 have hnd : ns.data.toList = Lib.itoa n := by rw [← hns]
 rw [hns]
 clear hns
 have HND := Lib.hid hnd
 clear hnd
 have c0 := HZ.out.cell 0
 have c3 := HZ.out.cell 3
 have c5 := HZ.out.cell 5
 simp only [List.getElem?_cons_succ, List.getElem?_cons_zero] at c0 c3 c5
 have hcl := put_new [⟨#[109, 117, 116, 101, 120, 32]⟩, s, ⟨#[59, 10]⟩] (Pw.refl HP.out.p) (by have := hlen; simp [joinB] at this ⊢; omega) (by simp)
 go_wp2_with fail
 refine hcl.mono ?_
 rintro e V2 ⟨rfl, HPn⟩
 have HZ := Lib.hid (HZ.out.kept HPn.kp hzb (by decide))
 have HP := Lib.hid (HP.out.go HPn)
 clear hcl HPn c0 c3 c5
 go_wp2_with fail
 go_end0
 refine ⟨rfl, ?_⟩
 have := HP.out
 simpa [joinB] using this
set_option maxHeartbeats 8000000 in
theorem pd4 {w0 W : World} {l c n : Int} {s : ByteArray} {body : List St} {a : Option Addr} {cap b : Nat} {u : List UInt8} (hE : Env w0) (hn : -2147483647 ≤ n ∧ n ≤ 2147483647) (hL : SlAt w0 a cap body) (hw : Below w0.heap.size w0 W) (hp : Pr w0.heap.size b W u)
  (hlen : u.length + ([99, 111, 110, 100, 32] ++ (s.data.toList ++ [59, 10])).length ≤ 140737488355328) : Calls Tryz.prog 44 #[.pointer (some ⟨b, 0, none⟩), .agg #[.int .i64 4, .int .i64 l, .int .i64 c, .string s, .int .i64 n, .slice a body.length cap]] W fun e w' => e = .returned (.tuple #[]) ∧ Pw w0.heap.size b W w' (u ++ ([99, 111, 110, 100, 32] ++ (s.data.toList ++ [59, 10]))) := by
 obtain ⟨nB, hnB⟩ : ∃ n, body.length = n := ⟨_, rfl⟩
 rw [hnB]
 have HN := Lib.hid hnB
 clear hnB
 have hz := Blk.new W 55 [.int .i64 4, .int .i64 l, .int .i64 c, .string s, .int .i64 n, .slice a nB cap]
 have hP := (Pw.refl hp).alloc (.cells #[.int .i64 4, .int .i64 l, .int .i64 c, .string s, .int .i64 n, .slice a nB cap] 55)
 have hcn := Tryz.strconv_FormatInt_10 n (by omega) (by omega) (W.alloc (.cells #[.int .i64 4, .int .i64 l, .int .i64 c, .string s, .int .i64 n, .slice a nB cap] 55)) (Tab.below hE.t (hw.trans hP.bl) (by have := hE.s; omega))
 have hzb : W.heap.size ≠ b := by have := hp.lt; omega
 have HA := Lib.hid (And.intro hP hz)
 have HL := Lib.hid hL
 clear hP hz hp hL
 go_enter Tryz.func44, Tryz.ntmps44
 go_wp2_with fail
 refine hcn.mono ?_
 rintro e V1 ⟨rfl, k1, os1, rfl⟩
 obtain ⟨hP, hz⟩ := HA.out
 obtain ⟨z, hzz⟩ : ∃ z, W.heap.size = z := ⟨_, rfl⟩
 rw [hzz] at hz hzb ⊢
 have hb1 := grow_below (W.alloc (.cells #[.int .i64 4, .int .i64 l, .int .i64 c, .string s, .int .i64 n, .slice a nB cap] 55)) k1 os1
 have HP := Lib.hid (hP.below hb1)
 have HZ := Lib.hid (hz.below hb1)
 clear HA hcn hP hz hb1 hzz
 generalize Sort.grow ((W.alloc (.cells #[.int .i64 4, .int .i64 l, .int .i64 c, .string s, .int .i64 n, .slice a nB cap] 55)).drewN k1) os1 = V1 at *
 obtain ⟨ns, hns⟩ : ∃ ns : ByteArray, (⟨(Lib.itoa n).toArray⟩ : ByteArray) = ns := ⟨_, rfl⟩
 have hnd : ns.data.toList = Lib.itoa n := by rw [← hns]
 rw [hns]
 clear hns
 have HND := Lib.hid hnd
 clear hnd
 have c0 := HZ.out.cell 0
 have c3 := HZ.out.cell 3
 have c5 := HZ.out.cell 5
 simp only [List.getElem?_cons_succ, List.getElem?_cons_zero] at c0 c3 c5
 have hcl := put_new [⟨#[99, 111, 110, 100, 32]⟩, s, ⟨#[59, 10]⟩] (Pw.refl HP.out.p) (by have := hlen; simp [joinB] at this ⊢; omega) (by simp)
 go_wp2_with fail
 refine hcl.mono ?_
 rintro e V2 ⟨rfl, HPn⟩
 have HZ := Lib.hid (HZ.out.kept HPn.kp hzb (by decide))
 have HP := Lib.hid (HP.out.go HPn)
 clear hcl HPn c0 c3 c5
 go_wp2_with fail
 go_end0
 refine ⟨rfl, ?_⟩
 have := HP.out
 simpa [joinB] using this
set_option maxHeartbeats 8000000 in
theorem pd6 {w0 W : World} {l c n : Int} {s : ByteArray} {body : List St} {a : Option Addr} {cap b : Nat} {u : List UInt8} (hE : Env w0) (hn : -2147483647 ≤ n ∧ n ≤ 2147483647) (hbd : stsR isName body 1 = true) (hL : SlAt w0 a cap body) (hw : Below w0.heap.size w0 W) (hp : Pr w0.heap.size b W u)
  (hlen : u.length + ([116, 104, 114, 101, 97, 100, 32] ++ (s.data.toList ++ ([32] ++ (blockT body 0 ++ [10])))).length ≤ 140737488355328) : Calls Tryz.prog 44 #[.pointer (some ⟨b, 0, none⟩), .agg #[.int .i64 6, .int .i64 l, .int .i64 c, .string s, .int .i64 n, .slice a body.length cap]] W fun e w' => e = .returned (.tuple #[]) ∧ Pw w0.heap.size b W w' (u ++ ([116, 104, 114, 101, 97, 100, 32] ++ (s.data.toList ++ ([32] ++ (blockT body 0 ++ [10]))))) := by
 obtain ⟨nB, hnB⟩ : ∃ n, body.length = n := ⟨_, rfl⟩
 rw [hnB]
 have HN := Lib.hid hnB
 clear hnB
 have hz := Blk.new W 55 [.int .i64 6, .int .i64 l, .int .i64 c, .string s, .int .i64 n, .slice a nB cap]
 have hP := (Pw.refl hp).alloc (.cells #[.int .i64 6, .int .i64 l, .int .i64 c, .string s, .int .i64 n, .slice a nB cap] 55)
 have hcn := Tryz.strconv_FormatInt_10 n (by omega) (by omega) (W.alloc (.cells #[.int .i64 6, .int .i64 l, .int .i64 c, .string s, .int .i64 n, .slice a nB cap] 55)) (Tab.below hE.t (hw.trans hP.bl) (by have := hE.s; omega))
 have hzb : W.heap.size ≠ b := by have := hp.lt; omega
 have HA := Lib.hid (And.intro hP hz)
 have HL := Lib.hid hL
 clear hP hz hp hL
 go_enter Tryz.func44, Tryz.ntmps44
 go_wp2_with fail
 refine hcn.mono ?_
 rintro e V1 ⟨rfl, k1, os1, rfl⟩
 obtain ⟨hP, hz⟩ := HA.out
 obtain ⟨z, hzz⟩ : ∃ z, W.heap.size = z := ⟨_, rfl⟩
 rw [hzz] at hz hzb ⊢
 have hb1 := grow_below (W.alloc (.cells #[.int .i64 6, .int .i64 l, .int .i64 c, .string s, .int .i64 n, .slice a nB cap] 55)) k1 os1
 have HP := Lib.hid (hP.below hb1)
 have HZ := Lib.hid (hz.below hb1)
 clear HA hcn hP hz hb1 hzz
 generalize Sort.grow ((W.alloc (.cells #[.int .i64 6, .int .i64 l, .int .i64 c, .string s, .int .i64 n, .slice a nB cap] 55)).drewN k1) os1 = V1 at *
 obtain ⟨ns, hns⟩ : ∃ ns : ByteArray, (⟨(Lib.itoa n).toArray⟩ : ByteArray) = ns := ⟨_, rfl⟩
 have hnd : ns.data.toList = Lib.itoa n := by rw [← hns]
 rw [hns]
 clear hns
 have HND := Lib.hid hnd
 clear hnd
 have c0 := HZ.out.cell 0
 have c3 := HZ.out.cell 3
 have c5 := HZ.out.cell 5
 simp only [List.getElem?_cons_succ, List.getElem?_cons_zero] at c0 c3 c5
 have hcl := put_new [⟨#[116, 104, 114, 101, 97, 100, 32]⟩, s, ⟨#[32]⟩] (Pw.refl HP.out.p) (by have := hlen; simp [joinB] at this ⊢; omega) (by simp)
 go_wp2_with fail
 refine hcl.mono ?_
 rintro e V2 ⟨rfl, HPn⟩
 have HZ := Lib.hid (HZ.out.kept HPn.kp hzb (by decide))
 have HP := Lib.hid (HP.out.go HPn)
 clear hcl HPn c0 c3 c5
 have c0 := HZ.out.cell 0
 have c3 := HZ.out.cell 3
 have c5 := HZ.out.cell 5
 simp only [List.getElem?_cons_succ, List.getElem?_cons_zero] at c0 c3 c5
 have hcl := pb_all hE 24 1 (by decide) body a cap 0 b _ _ hbd (by omega) HL.out (hw.trans HP.out.bl) HP.out.p (by have := hlen; simp [joinB] at this ⊢; omega)
 rw [HN.out, show ((0 : Nat) : Int) = 0 from rfl] at hcl
 go_wp2_with fail
 refine hcl.mono ?_
 rintro e V3 ⟨rfl, HPn⟩
 have HZ := Lib.hid (HZ.out.kept HPn.kp hzb (by decide))
 have HP := Lib.hid (HP.out.go HPn)
 clear hcl HPn c0 c3 c5
 have c0 := HZ.out.cell 0
 have c3 := HZ.out.cell 3
 have c5 := HZ.out.cell 5
 simp only [List.getElem?_cons_succ, List.getElem?_cons_zero] at c0 c3 c5
 have hcl := put_new [⟨#[10]⟩] (Pw.refl HP.out.p) (by have := hlen; simp [joinB] at this ⊢; omega) (by simp)
 go_wp2_with fail
 refine hcl.mono ?_
 rintro e V4 ⟨rfl, HPn⟩
 have HZ := Lib.hid (HZ.out.kept HPn.kp hzb (by decide))
 have HP := Lib.hid (HP.out.go HPn)
 clear hcl HPn c0 c3 c5
 go_wp2_with fail
 go_end0
 refine ⟨rfl, ?_⟩
 have := HP.out
 simpa [joinB] using this
theorem pd_any {w0 W : World} {d : De} {cs : List Value} {b : Nat} {u : List UInt8} (hE : Env w0) (hR : deR isName d = true) (hL : DeL (fun _ => True) w0 cs d) (hw : Below w0.heap.size w0 W) (hp : Pr w0.heap.size b W u) (hlen : u.length + (deT d).length ≤ 140737488355328) :
  Calls Tryz.prog 44 #[.pointer (some ⟨b, 0, none⟩), .agg cs.toArray] W fun e w' => e = .returned (.tuple #[]) ∧ Pw w0.heap.size b W w' (u ++ deT d) := by
 obtain ⟨k, l, c, s, n, body⟩ := d
 obtain ⟨a, cap, rfl, h1, h2⟩ := hL
 dsimp only at h1 h2 ⊢
 have hS : SlAt w0 a cap body := ⟨h1, h2⟩
 unfold deR at hR
 dsimp only at hR
 simp only [Bool.and_eq_true] at hR
 obtain ⟨-, -, hR⟩ := hR
 by_cases k1 : k = 1
 ·subst k1
  simp at hR
  have e : deT ⟨1, l, c, s, n, body⟩ = [118, 97, 114, 32] ++ (s.data.toList ++ ([32, 61, 32] ++ (Lib.itoa n ++ [59, 10]))) := by simp [deT]
  rw [e] at hlen ⊢
  exact pd1 hE hR hS hw hp hlen
 by_cases k2 : k = 2
 ·subst k2
  simp at hR
  have e : deT ⟨2, l, c, s, n, body⟩ = [97, 114, 114, 97, 121, 32] ++ (s.data.toList ++ ([32] ++ (Lib.itoa n ++ [59, 10]))) := by simp [deT]
  rw [e] at hlen ⊢
  exact pd2 hE (by omega) hS hw hp hlen
 by_cases k5 : k = 5
 ·subst k5
  simp at hR
  have e : deT ⟨5, l, c, s, n, body⟩ = [99, 104, 97, 110, 32] ++ (s.data.toList ++ ([32] ++ (Lib.itoa n ++ [59, 10]))) := by simp [deT]
  rw [e] at hlen ⊢
  exact pd5 hE (by omega) hS hw hp hlen
 by_cases k3 : k = 3
 ·subst k3
  simp at hR
  have e : deT ⟨3, l, c, s, n, body⟩ = [109, 117, 116, 101, 120, 32] ++ (s.data.toList ++ [59, 10]) := by simp [deT]
  rw [e] at hlen ⊢
  exact pd3 hE (by omega) hS hw hp hlen
 by_cases k4 : k = 4
 ·subst k4
  simp at hR
  have e : deT ⟨4, l, c, s, n, body⟩ = [99, 111, 110, 100, 32] ++ (s.data.toList ++ [59, 10]) := by simp [deT]
  rw [e] at hlen ⊢
  exact pd4 hE (by omega) hS hw hp hlen
 by_cases k6 : k = 6
 ·subst k6
  simp at hR
  have e : deT ⟨6, l, c, s, n, body⟩ = [116, 104, 114, 101, 97, 100, 32] ++ (s.data.toList ++ ([32] ++ (blockT body 0 ++ [10]))) := by simp [deT]
  rw [e] at hlen ⊢
  exact pd6 hE (by omega) hR.2 hS hw hp hlen
 ·exfalso
  simp [k1, k2, k3, k4, k5, k6] at hR
theorem prT_take {l : List De} {i : Nat} (h : i < l.length) : prT (l.take (i + 1)) = prT (l.take i) ++ deT (l.getD i default) := by
 unfold prT
 rw [List.take_succ_eq_append_getElem h, List.flatMap_append]
 simp [List.getD_eq_getElem?_getD, h]
theorem prT_le (l : List De) (i : Nat) : (prT (l.take i)).length ≤ (prT l).length := by
 conv => rhs; rw [← List.take_append_drop i l]
 unfold prT
 rw [List.flatMap_append, List.length_append]
 omega
theorem desR_at {l : List De} {i : Nat} (h : desR isName l = true) (hi : i < l.length) : deR isName (l.getD i default) = true := by
 unfold desR at h
 rw [List.all_eq_true] at h
 rw [List.getD_eq_getElem?_getD, List.getElem?_eq_getElem hi]
 exact h _ (List.getElem_mem hi)
theorem fresh97 (B : Nat) (W : World) (hB : B ≤ W.heap.size) : Pr B W.heap.size (W.alloc (.cells #[.pointer none, .slice none 0 0] 97)) [] :=
 ⟨.inl ⟨hB, .slice none 0 0, World.alloc_heap_new _ _, ⟨by simp [Lib.byteCells], .inl ⟨rfl, rfl⟩⟩, by simp [Value.ownBlock]⟩, by simp; omega⟩
set_option maxHeartbeats 8000000 in
theorem print_any {w0 : World} (hE : Env w0) (hSh : Shs w0) (l : List De) (a : Option Addr) (cap : Nat) (hroom : Roomy l.length cap) (h : DesL (fun _ => True) w0 a l) (hnb : ∀ d ∈ l, d.nb) (hlen : (prT l).length ≤ 140737488355328) (hne : prT l ≠ []) :
  Calls Tryz.prog 21 #[.slice a l.length cap] w0 fun e w' => e = .returned (.tuple #[.string (if desR isName l = true then ⟨(prT l).toArray⟩ else ⟨#[]⟩), .int .i64 (if desR isName l = true then 0 else 2)]) ∧ Below w0.heap.size w0 w' := by
 have hck := check_any l a cap w0 hroom hSh h hnb
 obtain ⟨N, hN⟩ : ∃ N, l.length = N := ⟨_, rfl⟩
 rw [hN] at hroom hck ⊢
 have HN := Lib.hid hN
 have HL := Lib.hid h
 have HLEN := Lib.hid hlen
 have HNE := Lib.hid hne
 clear hN h hlen hne hnb
 obtain ⟨i0, z0, hi0, hz0', hsz0', hzc0, hby0⟩ := info_el infoDe
 obtain ⟨d55, hu55, hr55⟩ := under55
 cases hR : desR isName l
 ·rw [hR] at hck
  simp only [Bool.false_eq_true, if_false] at hck ⊢
  clear hR
  go_enter Tryz.func21, Tryz.ntmps21
  go_wp2_with fail
  refine hck.mono ?_
  rintro e W1 ⟨rfl, hb1⟩
  clear hck
  go_wp2_with fail
  go_ret2
  exact ⟨rfl, hb1⟩
 ·rw [hR] at hck
  simp only [if_true] at hck ⊢
  have HR := Lib.hid hR
  clear hR
  go_enter Tryz.func21, Tryz.ntmps21
  go_wp2_with fail
  refine hck.mono ?_
  rintro e W1 ⟨rfl, hb1⟩
  have hp := fresh97 w0.heap.size W1 hb1.size
  have hb2 : Below w0.heap.size w0 (W1.alloc (.cells #[.pointer none, .slice none 0 0] 97)) := hb1.alloc hb1.size _
  have HP0 := Lib.hid (And.intro hp hb2)
  clear hck hp hb2
  go_wp2_with fail
  obtain ⟨b, hb⟩ : ∃ b, W1.heap.size = b := ⟨_, rfl⟩
  rw [hb] at HP0 ⊢
  have hbb : w0.heap.size ≤ b := by rw [← hb]; exact hb1.size
  generalize W1.alloc (.cells #[.pointer none, .slice none 0 0] 97) = W2 at *
  have HP : Hid (Pw w0.heap.size b W2 W2 (prT (l.take 0))) := Lib.hid (Pw.refl (by
   have : prT (l.take 0) = [] := rfl
   rw [this]
   exact HP0.out.1))
  clear hb hb1
  go_loopg [15] N (fun x iv wr => ∃ i : Nat, i ≤ N ∧ x = N - i ∧ iv = .int .i64 (i : Int) ∧ Hid (Pw w0.heap.size b W2 wr (prT (l.take i))))
  case atStart => exact ⟨0, Nat.zero_le _, rfl, rfl, HP⟩
  case round =>
   clear HP
   obtain ⟨i, hiN0, rfl, rfl, HP⟩ := hrel
   have hV := HP0.out.2.trans HP.out.bl
   by_cases hiN : i < N
   ·have hlt : (i : Int) < (N : Int) := by omega
    have hp0 : (0 : Int) ≤ (i : Int) := by omega
    have hroom2 : (i : Int) + 1 ≤ 9223372036854775807 := by
     have h1 := hroom.1
     have h2 := hroom.2
     omega
    have hil : i < l.length := by rw [HN.out]; exact hiN
    obtain ⟨b2, off2, cs, rfl, -, hcs, hdl⟩ := HL.out i hil
    have hl6 := hdl.cells.1
    have h1c := hdl.cells.2
    have HRg := Lib.hid (rangeB (show w0.rangeAt b2 (off2 + i * 6) cs from fun j v hv => World.cellU_cell (hcs j v hv)) hV)
    have hP2 := HP.out.alloc (.cells cs.toArray 55)
    have hz2 := Blk.new wr 55 cs
    have hle := prT_le l (i + 1)
    rw [prT_take hil, List.length_append] at hle
    have hcl := pd_any hE (desR_at HR.out hil) hdl (HP0.out.2.trans hP2.bl) hP2.p (by have := HLEN.out; omega)
    have HZ := Lib.hid hz2
    have HA := Lib.hid hP2
    have HTK := Lib.hid (prT_take hil)
    clear hcs hdl hP2 hz2 hle hV
    go_wp2_with (first | ((with_reducible show wpList _ _ _ (Oper.mk _ (.load 55 (.tmp 17)) _ _ _ _ :: _) _ _); refine wpList_load_mid rfl 55 (.tmp 17) rfl b2 (off2 + i * 6) rfl cs d55 HRg.out hu55 hr55 (by rw [hl6]; exact info55) ?_) | ((with_reducible show wpList _ _ _ (Oper.mk none (.store 55 _ _) _ _ _ _ :: _) _ _); refine wpList_store_fresh info55 rfl (.tmp 7) (.tmp 18) rfl wr [.int .i64 0, .int .i64 0, .int .i64 0, .string ⟨#[]⟩, .int .i64 0, .slice none 0 0] cs rfl rfl hl6 h1c _ rfl rfl rfl ?_) | ((with_reducible show wpList _ _ _ (Oper.mk _ (.load 55 (.tmp 7)) _ _ _ _ :: _) _ _); refine wpList_load_blk hu55 hr55 info55 rfl (.tmp 7) rfl wr.heap.size cs rfl HZ hl6 ?_))
    refine hcl.mono ?_
    rintro e V3 ⟨rfl, hP4⟩
    have HP5 : Hid (Pw w0.heap.size b W2 V3 (prT (l.take (i + 1)))) := Lib.hid (by
     rw [HTK.out]
     exact HA.out.go hP4)
    clear hcl hP4 HA HZ HP
    go_wp2_with fail
    go_roundg (N - (i + 1))
    case measure => omega
    case rel => exact ⟨i + 1, by omega, rfl, rfl, HP5⟩
   ·obtain rfl : i = N := by omega
    have hlt : ¬ (i : Int) < (i : Int) := by omega
    have hall : l.take i = l := List.take_of_length_le (by rw [HN.out]; exact Nat.le_refl _)
    have hP := HP.out
    rw [hall] at hP
    have hcl := string_ne w0.heap.size b (prT l) wr hP.p.i HNE.out
    have hV2 := hV
    clear hP hall HP hV
    go_wp2_with fail
    refine hcl.mono ?_
    rintro e V3 ⟨rfl, hb3⟩
    have hfin := hV2.trans hb3
    clear hcl hb3 hV2
    go_wp2_with fail
    go_ret2
    exact ⟨rfl, hfin⟩
end Go.Proofs.YtjmlmelcppbefaaGreatDoor
