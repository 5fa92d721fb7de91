/- The document's word at a place. Asked: a byte is there. -/
import Derived.Test.YtinfocnihngbiaaDoorOneP
namespace Go.Proofs.YtinfocnihngbiaaDoor
open Go.RowKit

/-- What one leaves: a word without a place, how long it is, an error. -/
def OPost (w : World) (kind : Int) (t : ByteArray) (num : Int) (n : Nat) (err : Int) (e : Ending) (w' : World) : Prop :=
  e = .returned (.tuple #[.agg #[.int .i64 kind, .string t, .int .i64 num, .int .i64 0, .int .i64 0], .int .i64 (n : Int), .int .i64 err]) ∧ Below w.heap.size w w'

theorem end_tk3 {fn : Func} {R : Ending → World → Prop} {act : Act} {W : World} {b : Nat} {s u u2 : Tmp} {kind num : Int} {t : ByteArray} {p : Int × Int} {v v2 : Value} (h : Tk W b kind t num p) (hres : fn.results = #[.cell s 39, .tmp u, .tmp u2])
    (hs : act.tmps.getD s undef = .pointer (some ⟨b, 0, none⟩)) (hu : act.tmps.getD u undef = v) (hu2 : act.tmps.getD u2 undef = v2) (hd : act.defers = []) (hR : R (.returned (.tuple #[.agg #[.int .i64 kind, .string t, .int .i64 num, .int .i64 p.1, .int .i64 p.2], v, v2])) W) : bodyPost Tryd.prog fn R .ret act W := by
  have e0 := h.c0
  have e1 := h.c1
  have e2 := h.c2
  have e3 := h.c3
  have e4 := h.c4
  have hs' : act.tmps[s]?.getD undef = .pointer (some ⟨b, 0, none⟩) := by rw [← hs]; simp
  have hu' : act.tmps[u]?.getD undef = v := by rw [← hu]; simp
  have hu2' : act.tmps[u2]?.getD undef = v2 := by rw [← hu2]; simp
  refine bodyPost_ret (v := .tuple #[.agg #[.int .i64 kind, .string t, .int .i64 num, .int .i64 p.1, .int .i64 p.2], v, v2]) ?_ hd hR
  simp [results, hres, go_sem, hs', hu', hu2', e0, e1, e2, e3, e4]

set_option maxRecDepth 100000 in
set_option maxHeartbeats 4000000 in
/-- At a letter. -/
theorem one_let (s : ByteArray) (k : Nat) (w : World) (hk : k < s.size) (hs : s.size ≤ 4294967296) (hc : isLet (byte s k) = true) (hd : isDig (byte s k) = false) (E : Nat) (hE : endOf isAny s k = E) (T : ByteArray) (hT : s.extract k E = T)
    (kd : Int) (tx : ByteArray) (nn : Nat) (er : Int) (hkey : if isKw T.data.toList then 3 = kd ∧ T = tx ∧ E - k = nn ∧ 0 = er else if 16 < E - k then 0 = kd ∧ ⟨#[]⟩ = tx ∧ 0 = nn ∧ 111 = er else 1 = kd ∧ T = tx ∧ E - k = nn ∧ 0 = er) :
    Calls Tryd.prog 25 #[.string s, .int .i64 (k : Int)] w (OPost w kd tx 0 nn er) := by
  have hle := endOf_le (f := isAny) (Nat.le_of_lt hk)
  have hlt : k < endOf isAny s k := endOf_lt hk (by unfold isAny; rw [hc]; rfl)
  rw [hE] at hle hlt
  obtain ⟨m, hm⟩ : ∃ m, E - k = m := ⟨_, rfl⟩
  have hEm : E = k + m := by omega
  subst hEm
  have hz : Tk (w.alloc zTok) w.heap.size 0 ⟨#[]⟩ 0 (0, 0) := World.alloc_heap_new _ _
  have hB : Below w.heap.size w (w.alloc zTok) := (Below.refl _ w).alloc (Nat.le_refl _) _
  have cr := run_any s k (w.alloc zTok) (Nat.le_of_lt hk) hs
  rw [hE] at cr
  rw [hm] at cr hkey
  have hm0 : (0 : Int) < (m : Int) := by omega
  have hkm : (k : Int) + (m : Int) ≤ (s.size : Int) := by omega
  have hk0 : (0 : Int) ≤ (k : Int) + (m : Int) := by omega
  have hk1 : (k : Int) ≤ (k : Int) + (m : Int) := by omega
  have hbt := byte_at hk
  obtain ⟨c, hcc⟩ : ∃ c, byte s k = c := ⟨_, rfl⟩
  rw [hcc] at hbt hd
  have cd := rdigit_any c (w.alloc zTok)
  rw [hd] at cd
  have hks : (k : Int) < (s.size : Int) := by omega
  have ck := fun w => rkeyword_any T w
  have HT := Lib.hid hT
  obtain ⟨kw, hkw⟩ : ∃ kw, isKw T.data.toList = kw := ⟨_, rfl⟩
  simp only [hkw] at ck
  rw [hkw] at hkey
  have HKEY := Lib.hid hkey
  clear hE hm hcc hd hc hT hkw hlt hle hkey
  have hkmN : k + m ≤ s.size := by omega
  have tt : ((k : Int) + (m : Int)).toNat = k + m := by omega
  go_enter Tryd.func25, Tryd.ntmps25
  go_wp2_with fail
  refine cr.mono ?_
  rintro e w' ⟨rfl, rfl⟩
  generalize w.alloc zTok = W0 at *
  go_wp2_with fail
  rw [HT.out]
  refine cd.mono ?_
  rintro e w' ⟨rfl, rfl⟩
  clear cr cd
  go_wp2_with fail
  refine (ck _).mono ?_
  rintro e w1 ⟨rfl, hb1⟩
  have hz1 := hz.of (hb1.block _ hz.lt)
  have hB1 := hB.trans (hb1.mono hB.size)
  clear hb1 hz hB ck
  have z0 := hz1.c0
  have z1 := hz1.c1
  have z2 := hz1.c2
  have z3 := hz1.c3
  have z4 := hz1.c4
  have f0 := hz1.frozen 0
  have f1 := hz1.frozen 1
  have f2 := hz1.frozen 2
  have f3 := hz1.frozen 3
  have f4 := hz1.frozen 4
  have fin : ∀ (x : Int) (v : ByteArray) (n : Int) (nn : Nat) (er : Int),
      Tk (((((w1.setCell ⟨w.heap.size, 0, none⟩ (.int .i64 x)).setCell ⟨w.heap.size, 1, none⟩ (.string v)).setCell ⟨w.heap.size, 2, none⟩ (.int .i64 n)).setCell ⟨w.heap.size, 3, none⟩ (.int .i64 0)).setCell ⟨w.heap.size, 4, none⟩ (.int .i64 0)) w.heap.size x v n (0, 0) ∧
      OPost w x v n nn er (.returned (.tuple #[.agg #[.int .i64 x, .string v, .int .i64 n, .int .i64 0, .int .i64 0], .int .i64 (nn : Int), .int .i64 er])) (((((w1.setCell ⟨w.heap.size, 0, none⟩ (.int .i64 x)).setCell ⟨w.heap.size, 1, none⟩ (.string v)).setCell ⟨w.heap.size, 2, none⟩ (.int .i64 n)).setCell ⟨w.heap.size, 3, none⟩ (.int .i64 0)).setCell ⟨w.heap.size, 4, none⟩ (.int .i64 0)) := fun x v n nn er =>
    ⟨hz1.set5 x v n 0 0, rfl, ((((hB1.setCell (p := ⟨w.heap.size, 0, none⟩) (Nat.le_refl _) _).setCell (p := ⟨w.heap.size, 1, none⟩) (Nat.le_refl _) _).setCell (p := ⟨w.heap.size, 2, none⟩) (Nat.le_refl _) _).setCell (p := ⟨w.heap.size, 3, none⟩) (Nat.le_refl _) _).setCell (p := ⟨w.heap.size, 4, none⟩) (Nat.le_refl _) _⟩
  have HF := Lib.hid fin
  clear fin
  cases kw
  · by_cases h16 : 16 < m
    · have h16i : (16 : Int) < (m : Int) := by omega
      obtain ⟨rfl, rfl, rfl, rfl⟩ : 0 = kd ∧ ⟨#[]⟩ = tx ∧ 0 = nn ∧ 111 = er := by simpa [h16] using HKEY.out
      clear HKEY
      go_wp2
      exact end_tk3 (HF.out 0 ⟨#[]⟩ 0 0 111).1 rfl rfl rfl rfl rfl (HF.out 0 ⟨#[]⟩ 0 0 111).2
    · have h16i : ¬ (16 : Int) < (m : Int) := by omega
      obtain ⟨rfl, rfl, rfl, rfl⟩ : 1 = kd ∧ T = tx ∧ m = nn ∧ 0 = er := by simpa [h16] using HKEY.out
      clear HKEY
      go_wp2
      exact end_tk3 (HF.out 1 T 0 m 0).1 rfl rfl rfl rfl rfl (HF.out 1 T 0 m 0).2
  · obtain ⟨rfl, rfl, rfl, rfl⟩ : 3 = kd ∧ T = tx ∧ m = nn ∧ 0 = er := by simpa using HKEY.out
    clear HKEY
    go_wp2
    exact end_tk3 (HF.out 3 T 0 m 0).1 rfl rfl rfl rfl rfl (HF.out 3 T 0 m 0).2

set_option maxRecDepth 100000 in
set_option maxHeartbeats 4000000 in
/-- At a digit. -/
theorem one_dig (s : ByteArray) (k : Nat) (w : World) (hk : k < s.size) (hs : s.size ≤ 4294967296) (hd : isDig (byte s k) = true) (E : Nat) (hE : endOf isAny s k = E) (T : ByteArray) (hT : s.extract k E = T)
    (x : Int) (q : Bool) (hq : rnumP T.data.toList = (x, q))
    (kd : Int) (tx : ByteArray) (nm : Int) (nn : Nat) (er : Int) (hkey : if q then 2 = kd ∧ T = tx ∧ x = nm ∧ E - k = nn ∧ 0 = er else 0 = kd ∧ ⟨#[]⟩ = tx ∧ 0 = nm ∧ 0 = nn ∧ 112 = er) :
    Calls Tryd.prog 25 #[.string s, .int .i64 (k : Int)] w (OPost w kd tx nm nn er) := by
  have hle := endOf_le (f := isAny) (Nat.le_of_lt hk)
  have hlt : k < endOf isAny s k := endOf_lt hk (by unfold isAny; rw [hd]; simp)
  rw [hE] at hle hlt
  obtain ⟨m, hm⟩ : ∃ m, E - k = m := ⟨_, rfl⟩
  have hEm : E = k + m := by omega
  subst hEm
  have hz : Tk (w.alloc zTok) w.heap.size 0 ⟨#[]⟩ 0 (0, 0) := World.alloc_heap_new _ _
  have hB : Below w.heap.size w (w.alloc zTok) := (Below.refl _ w).alloc (Nat.le_refl _) _
  have cr := run_any s k (w.alloc zTok) (Nat.le_of_lt hk) hs
  rw [hE] at cr
  rw [hm] at cr hkey
  have hm0 : (0 : Int) < (m : Int) := by omega
  have hkm : (k : Int) + (m : Int) ≤ (s.size : Int) := by omega
  have hk0 : (0 : Int) ≤ (k : Int) + (m : Int) := by omega
  have hk1 : (k : Int) ≤ (k : Int) + (m : Int) := by omega
  have hbt := byte_at hk
  obtain ⟨c, hcc⟩ : ∃ c, byte s k = c := ⟨_, rfl⟩
  rw [hcc] at hbt hd
  have cd := rdigit_any c (w.alloc zTok)
  rw [hd] at cd
  have hks : (k : Int) < (s.size : Int) := by omega
  have hTs : T.size ≤ 4294967296 := by
    rw [← hT, ByteArray.size_extract]
    omega
  have hTp : 0 < T.size := by
    rw [← hT, ByteArray.size_extract]
    omega
  have ck := fun w => rnumber_any T w hTs hTp
  simp only [hq] at ck
  have HT := Lib.hid hT
  have HKEY := Lib.hid hkey
  clear hE hm hcc hd hT hlt hle hkey hq hTs hTp
  have hkmN : k + m ≤ s.size := by omega
  have tt : ((k : Int) + (m : Int)).toNat = k + m := by omega
  go_enter Tryd.func25, Tryd.ntmps25
  go_wp2_with fail
  refine cr.mono ?_
  rintro e w' ⟨rfl, rfl⟩
  generalize w.alloc zTok = W0 at *
  go_wp2_with fail
  rw [HT.out]
  refine cd.mono ?_
  rintro e w' ⟨rfl, rfl⟩
  clear cr cd
  go_wp2_with fail
  refine (ck _).mono ?_
  rintro e w1 ⟨rfl, hb1⟩
  have hz1 := hz.of (hb1.block _ hz.lt)
  have hB1 := hB.trans (hb1.mono hB.size)
  clear hb1 hz hB ck
  have z0 := hz1.c0
  have z1 := hz1.c1
  have z2 := hz1.c2
  have z3 := hz1.c3
  have z4 := hz1.c4
  have f0 := hz1.frozen 0
  have f1 := hz1.frozen 1
  have f2 := hz1.frozen 2
  have f3 := hz1.frozen 3
  have f4 := hz1.frozen 4
  have fin : ∀ (x : Int) (v : ByteArray) (n : Int) (nn : Nat) (er : Int),
      Tk (((((w1.setCell ⟨w.heap.size, 0, none⟩ (.int .i64 x)).setCell ⟨w.heap.size, 1, none⟩ (.string v)).setCell ⟨w.heap.size, 2, none⟩ (.int .i64 n)).setCell ⟨w.heap.size, 3, none⟩ (.int .i64 0)).setCell ⟨w.heap.size, 4, none⟩ (.int .i64 0)) w.heap.size x v n (0, 0) ∧
      OPost w x v n nn er (.returned (.tuple #[.agg #[.int .i64 x, .string v, .int .i64 n, .int .i64 0, .int .i64 0], .int .i64 (nn : Int), .int .i64 er])) (((((w1.setCell ⟨w.heap.size, 0, none⟩ (.int .i64 x)).setCell ⟨w.heap.size, 1, none⟩ (.string v)).setCell ⟨w.heap.size, 2, none⟩ (.int .i64 n)).setCell ⟨w.heap.size, 3, none⟩ (.int .i64 0)).setCell ⟨w.heap.size, 4, none⟩ (.int .i64 0)) := fun x v n nn er =>
    ⟨hz1.set5 x v n 0 0, rfl, ((((hB1.setCell (p := ⟨w.heap.size, 0, none⟩) (Nat.le_refl _) _).setCell (p := ⟨w.heap.size, 1, none⟩) (Nat.le_refl _) _).setCell (p := ⟨w.heap.size, 2, none⟩) (Nat.le_refl _) _).setCell (p := ⟨w.heap.size, 3, none⟩) (Nat.le_refl _) _).setCell (p := ⟨w.heap.size, 4, none⟩) (Nat.le_refl _) _⟩
  have HF := Lib.hid fin
  clear fin
  cases q
  · obtain ⟨rfl, rfl, rfl, rfl, rfl⟩ : 0 = kd ∧ ⟨#[]⟩ = tx ∧ 0 = nm ∧ 0 = nn ∧ 112 = er := by simpa using HKEY.out
    clear HKEY
    go_wp2
    exact end_tk3 (HF.out 0 ⟨#[]⟩ 0 0 112).1 rfl rfl rfl rfl rfl (HF.out 0 ⟨#[]⟩ 0 0 112).2
  · obtain ⟨rfl, rfl, rfl, rfl, rfl⟩ : 2 = kd ∧ T = tx ∧ x = nm ∧ m = nn ∧ 0 = er := by simpa using HKEY.out
    clear HKEY
    go_wp2
    exact end_tk3 (HF.out 2 T x m 0).1 rfl rfl rfl rfl rfl (HF.out 2 T x m 0).2
end Go.Proofs.YtinfocnihngbiaaDoor
