/- What the syntax texts share, part 16. No condition. -/
import Derived.Test.YtjmlmelcppbefaaGreatDoorT14
import Derived.Test.YtjmlmelcppbefaaGreatDoorT15
namespace Go.Proofs.YtjmlmelcppbefaaGreatDoor
open Go.RowKit
def rsL : List ByteArray := [⟨#[61, 61]⟩, ⟨#[33, 61]⟩, ⟨#[60, 61]⟩, ⟨#[38, 38]⟩, ⟨#[124, 124]⟩, ⟨#[59]⟩, ⟨#[40]⟩, ⟨#[41]⟩, ⟨#[123]⟩, ⟨#[125]⟩, ⟨#[91]⟩, ⟨#[93]⟩, ⟨#[61]⟩, ⟨#[60]⟩, ⟨#[43]⟩, ⟨#[45]⟩, ⟨#[42]⟩, ⟨#[47]⟩, ⟨#[37]⟩, ⟨#[33]⟩]
set_option maxRecDepth 100000 in
set_option maxHeartbeats 1000000 in
theorem rsigns_any (w : World) : Calls Tryz.prog 123 #[] w fun e w' => e = .returned (.slice (some ⟨w.heap.size, 0, none⟩) 20 20) ∧ w' = w.alloc (.cells (rsL.map Value.string).toArray 9) := by
 go_enter Tryz.func123, Tryz.ntmps123
 go_wp2
 go_ret
 exact ⟨rfl, rfl⟩
end Go.Proofs.YtjmlmelcppbefaaGreatDoor
namespace Go.Proofs.YtjmlmelcppbefaaGreatDoor
open Go.RowKit
theorem tw_dig (L : List UInt8) : (((L.drop (L.takeWhile isDig).length).head?.any isLet) = true → (L.takeWhile isAny).all isDig = false) ∧
  (((L.drop (L.takeWhile isDig).length).head?.any isLet) = false → L.takeWhile isAny = L.takeWhile isDig) := by
 induction L with
 | nil => exact ⟨(fun h => by cases h), fun _ => rfl⟩
 | cons c r ih =>
  cases hd : isDig c with
  | true =>
   have ha : isAny c = true := by unfold isAny; rw [hd]; simp
   rw [List.takeWhile_cons_of_pos hd, List.takeWhile_cons_of_pos ha]
   simp only [List.length_cons, List.drop_succ_cons, List.all_cons, hd, Bool.true_and]
   exact ⟨ih.1, fun h => by rw [ih.2 h]⟩
  | false =>
   rw [List.takeWhile_cons_of_neg (by rw [hd]; decide)]
   simp only [List.length_nil, List.drop_zero, List.head?_cons, Option.any_some]
   cases hl : isLet c with
   | true =>
    have ha : isAny c = true := by unfold isAny; rw [hl]; simp
    rw [List.takeWhile_cons_of_pos ha]
    exact ⟨fun _ => by simp [hd], fun h => by cases h⟩
   | false =>
    have ha : isAny c = false := by unfold isAny; rw [hl, hd]; rfl
    rw [List.takeWhile_cons_of_neg (by rw [ha]; decide)]
    exact ⟨(fun h => by cases h), fun _ => rfl⟩
theorem next_let (s : ByteArray) (e : Nat) : (decide (e < s.size) && isLet (byte s e)) = ((s.data.toList.drop e).head?.any isLet) := by
 by_cases h : e < s.size
 ·rw [drop_byte h, decide_eq_true h]
  simp
 ·rw [decide_eq_false h, List.drop_eq_nil_of_le (by rw [size_list]; omega)]
  rfl
theorem dig_law {s : ByteArray} {k : Nat} (hk : k < s.size) (hd : isDig (byte s k) = true) :
  (rnumP (s.extract k (endOf isAny s k)).data.toList).2 = !badP s k ∧
  (badP s k = false → endOf isAny s k = endOf isDig s k ∧ (rnumP (s.extract k (endOf isAny s k)).data.toList).1 = (numP (s.extract k (endOf isDig s k)).data.toList).1) := by
 have ht := tw_dig (s.data.toList.drop k)
 have hn := next_let s (endOf isDig s k)
 have hde : s.data.toList.drop (endOf isDig s k) = (s.data.toList.drop k).drop ((s.data.toList.drop k).takeWhile isDig).length := by
  rw [List.drop_drop]
  rfl
 rw [hde] at hn
 unfold badP
 rw [hn, extract_while, extract_while]
 have hend : ∀ f, endOf f s k = k + ((s.data.toList.drop k).takeWhile f).length := fun _ => rfl
 rw [hend, hend]
 obtain ⟨q, hq⟩ : ∃ q, ((s.data.toList.drop k).drop ((s.data.toList.drop k).takeWhile isDig).length).head?.any isLet = q := ⟨_, rfl⟩
 rw [hq] at ht ⊢
 cases q with
 | true =>
  have h1 := ht.1 rfl
  have e2 : rnumP ((s.data.toList.drop k).takeWhile isAny) = (0, false) := if_neg (by rw [h1]; simp)
  rw [e2]
  exact ⟨by simp, fun h => by simp at h⟩
 | false =>
  rw [ht.2 rfl]
  have hall : ∀ x ∈ (s.data.toList.drop k).takeWhile isDig, isDig x = true := List.all_eq_true.1 List.all_takeWhile
  have hc : (s.data.toList.drop k).takeWhile isDig = byte s k :: (s.data.toList.drop (k + 1)).takeWhile isDig := by
   rw [drop_byte hk, List.takeWhile_cons_of_pos hd]
  rw [hc] at hall ⊢
  have h2 := num_same hall
  rw [h2.1]
  refine ⟨by simp, fun h => ⟨rfl, h2.2 (by simpa using h)⟩⟩
def rs2 : List ByteArray := rsL.take 5
def rs1 : List ByteArray := rsL.drop 5
theorem rs_parts : rsL = rs2 ++ rs1 := (List.take_append_drop 5 rsL).symm
theorem rs2_size : ∀ x ∈ rs2, x.size = 2 := by decide
theorem rs1_size : ∀ x ∈ rs1, x.size = 1 := by decide
theorem rs_sg : ∀ x ∈ rsL.map (fun x => x.data.toList), x ∈ sgL.map (fun x => x.data.toList) := by decide
theorem sg_rs : ∀ x ∈ sgL.map (fun x => x.data.toList), x ∈ rsL.map (fun x => x.data.toList) := by decide
theorem isSg_iff (t : List UInt8) : isSg t = true ↔ ∃ x ∈ rsL, x.data.toList = t := by
 unfold isSg
 rw [List.any_eq_true]
 constructor
 ·rintro ⟨x, hx, h⟩
  have h2 : t ∈ sgL.map (fun x => x.data.toList) := List.mem_map.2 ⟨x, hx, by simpa using h⟩
  exact List.mem_map.1 (sg_rs t h2)
 ·rintro ⟨x, hx, h⟩
  obtain ⟨y, hy, h2⟩ := List.mem_map.1 (rs_sg t (List.mem_map.2 ⟨x, hx, h⟩))
  exact ⟨y, hy, by rw [h2]; exact beq_self_eq_true _⟩
def mt (s : ByteArray) (k : Nat) (x : ByteArray) : Bool := decide (k + x.size ≤ s.size) && (s.extract k (k + x.size)).data.toList == x.data.toList
theorem extract_len {s : ByteArray} {k n : Nat} (h : k + n ≤ s.size) : (s.extract k (k + n)).data.toList.length = n := by
 rw [size_list, ByteArray.size_extract]
 omega
theorem find_in {p : ByteArray → Bool} {l : List ByteArray} {x : ByteArray} (hx : x ∈ l) (hp : p x = true) : ∃ y, l.find? p = some y ∧ y ∈ l ∧ p y = true := by
 cases h : l.find? p with
 | none => exact absurd hp (by simpa using List.find?_eq_none.1 h x hx)
 | some y => exact ⟨y, rfl, List.mem_of_find?_eq_some h, List.find?_some h⟩
theorem mt_eq {s : ByteArray} {k : Nat} {x : ByteArray} (h : mt s k x = true) : k + x.size ≤ s.size ∧ s.extract k (k + x.size) = x := by
 unfold mt at h
 simp only [Bool.and_eq_true, decide_eq_true_eq, beq_iff_eq] at h
 exact ⟨h.1, ByteArray.ext (Array.ext' h.2)⟩
theorem sgn_law {s : ByteArray} {k : Nat} (hk : k < s.size) :
  (sgnF s k (min 2 (s.size - k)) = 0 → rsL.find? (mt s k) = none) ∧
  (sgnF s k (min 2 (s.size - k)) ≠ 0 → rsL.find? (mt s k) = some (s.extract k (k + sgnF s k (min 2 (s.size - k)))) ∧ (s.extract k (k + sgnF s k (min 2 (s.size - k)))).size = sgnF s k (min 2 (s.size - k))) := by
 have one : ∀ n, n = 1 ∨ n = 2 → k + n ≤ s.size → isSg (s.extract k (k + n)).data.toList = true → ∃ x ∈ (if n = 2 then rs2 else rs1), mt s k x = true ∧ x = s.extract k (k + n) := by
  intro n hn hle h
  obtain ⟨x, hx, he⟩ := (isSg_iff _).1 h
  have hsz : x.size = n := by rw [← size_list, he, extract_len hle]
  have hx2 : x ∈ (if n = 2 then rs2 else rs1) := by
   rw [rs_parts, List.mem_append] at hx
   rcases hx with hx | hx
   ·have := rs2_size x hx
    rw [if_pos (by omega)]
    exact hx
   ·have := rs1_size x hx
    rw [if_neg (by omega)]
    exact hx
  refine ⟨x, hx2, ?_, ByteArray.ext (Array.ext' he)⟩
  unfold mt
  rw [hsz, he]
  simp [hle]
 have none_of : ∀ n, n = 1 ∨ n = 2 → (k + n ≤ s.size → isSg (s.extract k (k + n)).data.toList = false) → (if n = 2 then rs2 else rs1).find? (mt s k) = none := by
  intro n hn h
  rw [List.find?_eq_none]
  intro x hx hm
  have hsz : x.size = n := by
   rcases hn with rfl | rfl
   ·exact rs1_size x hx
   ·exact rs2_size x hx
  obtain ⟨h1, h2⟩ := mt_eq hm
  rw [hsz] at h1 h2
  have h3 := h h1
  have h4 : isSg (s.extract k (k + n)).data.toList = true := (isSg_iff _).2 ⟨x, by
   rw [rs_parts, List.mem_append]
   rcases hn with rfl | rfl
   ·exact .inr hx
   ·exact .inl hx, by rw [h2]⟩
  rw [h3] at h4
  cases h4
 have some_of : ∀ n, n = 1 ∨ n = 2 → k + n ≤ s.size → isSg (s.extract k (k + n)).data.toList = true → (if n = 2 then rs2 else rs1).find? (mt s k) = some (s.extract k (k + n)) := by
  intro n hn hle h
  obtain ⟨x, hx, hm, _⟩ := one n hn hle h
  obtain ⟨y, hy, hy2, hy3⟩ := find_in hx hm
  have hsz : y.size = n := by
   rcases hn with rfl | rfl
   ·exact rs1_size y hy2
   ·exact rs2_size y hy2
  rw [hy]
  have := (mt_eq hy3).2
  rw [hsz] at this
  rw [this]
 have sz : ∀ n, k + n ≤ s.size → (s.extract k (k + n)).size = n := fun n h => by rw [ByteArray.size_extract]; omega
 rw [rs_parts, List.find?_append]
 by_cases h2 : 2 ≤ s.size - k
 ·rw [show min 2 (s.size - k) = 2 by omega]
  unfold sgnF
  cases hg2 : isSg (s.extract k (k + (1 + 1))).data.toList with
  | true =>
   have e := some_of 2 (.inr rfl) (by omega) hg2
   rw [if_pos rfl] at e
   rw [e]
   simp only [if_true]
   exact ⟨(fun h => by cases h), fun _ => ⟨rfl, sz 2 (by omega)⟩⟩
  | false =>
   have e := none_of 2 (.inr rfl) (fun _ => hg2)
   rw [if_pos rfl] at e
   rw [e]
   simp only [Bool.false_eq_true, if_false, Option.none_or]
   unfold sgnF
   cases hg1 : isSg (s.extract k (k + (0 + 1))).data.toList with
   | true =>
    have e1 := some_of 1 (.inl rfl) (by omega) hg1
    rw [if_neg (by decide)] at e1
    rw [e1]
    simp only [if_true]
    exact ⟨(fun h => by cases h), fun _ => ⟨trivial, sz 1 (by omega)⟩⟩
   | false =>
    have e1 := none_of 1 (.inl rfl) (fun _ => hg1)
    rw [if_neg (by decide)] at e1
    rw [e1]
    simp only [Bool.false_eq_true, if_false]
    exact ⟨fun _ => trivial, fun h => absurd rfl h⟩
 ·rw [show min 2 (s.size - k) = 1 by omega]
  have e := none_of 2 (.inr rfl) (fun h => by omega)
  rw [if_pos rfl] at e
  rw [e]
  simp only [Option.none_or]
  unfold sgnF
  cases hg1 : isSg (s.extract k (k + (0 + 1))).data.toList with
  | true =>
   have e1 := some_of 1 (.inl rfl) (by omega) hg1
   rw [if_neg (by decide)] at e1
   rw [e1]
   simp only [if_true]
   exact ⟨(fun h => by cases h), fun _ => ⟨trivial, sz 1 (by omega)⟩⟩
  | false =>
   have e1 := none_of 1 (.inl rfl) (fun _ => hg1)
   rw [if_neg (by decide)] at e1
   rw [e1]
   simp only [Bool.false_eq_true, if_false]
   exact ⟨fun _ => trivial, fun h => absurd rfl h⟩
end Go.Proofs.YtjmlmelcppbefaaGreatDoor
namespace Go.Proofs.YtjmlmelcppbefaaGreatDoor
open Go.RowKit
def OPost (w : World) (kind : Int) (t : ByteArray) (num : Int) (n : Nat) (err : Int) (e : Ending) (w' : World) : Prop :=
 e = .returned (.tuple #[.agg #[.int .i64 kind, .string t, .int .i64 num, .int .i64 0, .int .i64 0], .int .i64 (n : Int), .int .i64 err]) ∧ Below w.heap.size w w'
theorem end_tk3 {fn : Func} {R : Ending → World → Prop} {act : Act} {W : World} {b : Nat} {s u u2 : Tmp} {kind num : Int} {t : ByteArray} {p : Int × Int} {v v2 : Value} (h : Tk W b kind t num p) (hres : fn.results = #[.cell s 91, .tmp u, .tmp u2])
  (hs : act.tmps.getD s undef = .pointer (some ⟨b, 0, none⟩)) (hu : act.tmps.getD u undef = v) (hu2 : act.tmps.getD u2 undef = v2) (hd : act.defers = []) (hR : R (.returned (.tuple #[.agg #[.int .i64 kind, .string t, .int .i64 num, .int .i64 p.1, .int .i64 p.2], v, v2])) W) : bodyPost Tryz.prog fn R .ret act W := by
 have e0 := h.c0
 have e1 := h.c1
 have e2 := h.c2
 have e3 := h.c3
 have e4 := h.c4
 have hs' : act.tmps[s]?.getD undef = .pointer (some ⟨b, 0, none⟩) := by rw [← hs]; simp
 have hu' : act.tmps[u]?.getD undef = v := by rw [← hu]; simp
 have hu2' : act.tmps[u2]?.getD undef = v2 := by rw [← hu2]; simp
 refine bodyPost_ret (v := .tuple #[.agg #[.int .i64 kind, .string t, .int .i64 num, .int .i64 p.1, .int .i64 p.2], v, v2]) ?_ hd hR
 simp [results, hres, go_sem, hs', hu', hu2', e0, e1, e2, e3, e4]
set_option maxRecDepth 100000 in
set_option maxHeartbeats 4000000 in
theorem one_let (s : ByteArray) (k : Nat) (w : World) (hk : k < s.size) (hs : s.size ≤ 4294967296) (hc : isLet (byte s k) = true) (hd : isDig (byte s k) = false) (E : Nat) (hE : endOf isAny s k = E) (T : ByteArray) (hT : s.extract k E = T)
  (kd : Int) (tx : ByteArray) (nn : Nat) (er : Int) (hkey : if isKw T.data.toList then 3 = kd ∧ T = tx ∧ E - k = nn ∧ 0 = er else if 16 < E - k then 0 = kd ∧ ⟨#[]⟩ = tx ∧ 0 = nn ∧ 111 = er else 1 = kd ∧ T = tx ∧ E - k = nn ∧ 0 = er) :
  Calls Tryz.prog 81 #[.string s, .int .i64 (k : Int)] w (OPost w kd tx 0 nn er) := by
 have hle := endOf_le (f := isAny) (Nat.le_of_lt hk)
 have hlt : k < endOf isAny s k := endOf_lt hk (by unfold isAny; rw [hc]; rfl)
 rw [hE] at hle hlt
 obtain ⟨m, hm⟩ : ∃ m, E - k = m := ⟨_, rfl⟩
 have hEm : E = k + m := by omega
 subst hEm
 have hz : Tk (w.alloc zTok) w.heap.size 0 ⟨#[]⟩ 0 (0, 0) := World.alloc_heap_new _ _
 have hB : Below w.heap.size w (w.alloc zTok) := (Below.refl _ w).alloc (Nat.le_refl _) _
 have cr := run_any s k (w.alloc zTok) (Nat.le_of_lt hk) hs
 rw [hE] at cr
 rw [hm] at cr hkey
 have hm0 : (0 : Int) < (m : Int) := by omega
 have hkm : (k : Int) + (m : Int) ≤ (s.size : Int) := by omega
 have hk0 : (0 : Int) ≤ (k : Int) + (m : Int) := by omega
 have hk1 : (k : Int) ≤ (k : Int) + (m : Int) := by omega
 have hbt := byte_at hk
 obtain ⟨c, hcc⟩ : ∃ c, byte s k = c := ⟨_, rfl⟩
 rw [hcc] at hbt hd
 have cd := rdigit_any c (w.alloc zTok)
 rw [hd] at cd
 have hks : (k : Int) < (s.size : Int) := by omega
 have ck := fun w => rkeyword_any T w
 have HT := Lib.hid hT
 obtain ⟨kw, hkw⟩ : ∃ kw, isKw T.data.toList = kw := ⟨_, rfl⟩
 simp only [hkw] at ck
 rw [hkw] at hkey
 have HKEY := Lib.hid hkey
 clear hE hm hcc hd hc hT hkw hlt hle hkey
 have hkmN : k + m ≤ s.size := by omega
 have tt : ((k : Int) + (m : Int)).toNat = k + m := by omega
 go_enter Tryz.func81, Tryz.ntmps81
 go_wp2_with fail
 refine cr.mono ?_
 rintro e w' ⟨rfl, rfl⟩
 generalize w.alloc zTok = W0 at *
 go_wp2_with fail
 rw [HT.out]
 refine cd.mono ?_
 rintro e w' ⟨rfl, rfl⟩
 clear cr cd
 go_wp2_with fail
 refine (ck _).mono ?_
 rintro e w1 ⟨rfl, hb1⟩
 have hz1 := hz.of (hb1.block _ hz.lt)
 have hB1 := hB.trans (hb1.mono hB.size)
 clear hb1 hz hB ck
 have z0 := hz1.c0
 have z1 := hz1.c1
 have z2 := hz1.c2
 have z3 := hz1.c3
 have z4 := hz1.c4
 have f0 := hz1.frozen 0
 have f1 := hz1.frozen 1
 have f2 := hz1.frozen 2
 have f3 := hz1.frozen 3
 have f4 := hz1.frozen 4
 have fin : ∀ (x : Int) (v : ByteArray) (n : Int) (nn : Nat) (er : Int),
   Tk (((((w1.setCell ⟨w.heap.size, 0, none⟩ (.int .i64 x)).setCell ⟨w.heap.size, 1, none⟩ (.string v)).setCell ⟨w.heap.size, 2, none⟩ (.int .i64 n)).setCell ⟨w.heap.size, 3, none⟩ (.int .i64 0)).setCell ⟨w.heap.size, 4, none⟩ (.int .i64 0)) w.heap.size x v n (0, 0) ∧
   OPost w x v n nn er (.returned (.tuple #[.agg #[.int .i64 x, .string v, .int .i64 n, .int .i64 0, .int .i64 0], .int .i64 (nn : Int), .int .i64 er])) (((((w1.setCell ⟨w.heap.size, 0, none⟩ (.int .i64 x)).setCell ⟨w.heap.size, 1, none⟩ (.string v)).setCell ⟨w.heap.size, 2, none⟩ (.int .i64 n)).setCell ⟨w.heap.size, 3, none⟩ (.int .i64 0)).setCell ⟨w.heap.size, 4, none⟩ (.int .i64 0)) := fun x v n nn er =>
  ⟨hz1.set5 x v n 0 0, rfl, ((((hB1.setCell (p := ⟨w.heap.size, 0, none⟩) (Nat.le_refl _) _).setCell (p := ⟨w.heap.size, 1, none⟩) (Nat.le_refl _) _).setCell (p := ⟨w.heap.size, 2, none⟩) (Nat.le_refl _) _).setCell (p := ⟨w.heap.size, 3, none⟩) (Nat.le_refl _) _).setCell (p := ⟨w.heap.size, 4, none⟩) (Nat.le_refl _) _⟩
 have HF := Lib.hid fin
 clear fin
 cases kw
 ·by_cases h16 : 16 < m
  ·have h16i : (16 : Int) < (m : Int) := by omega
   obtain ⟨rfl, rfl, rfl, rfl⟩ : 0 = kd ∧ ⟨#[]⟩ = tx ∧ 0 = nn ∧ 111 = er := by simpa [h16] using HKEY.out
   clear HKEY
   go_wp2
   exact end_tk3 (HF.out 0 ⟨#[]⟩ 0 0 111).1 rfl rfl rfl rfl rfl (HF.out 0 ⟨#[]⟩ 0 0 111).2
  ·have h16i : ¬ (16 : Int) < (m : Int) := by omega
   obtain ⟨rfl, rfl, rfl, rfl⟩ : 1 = kd ∧ T = tx ∧ m = nn ∧ 0 = er := by simpa [h16] using HKEY.out
   clear HKEY
   go_wp2
   exact end_tk3 (HF.out 1 T 0 m 0).1 rfl rfl rfl rfl rfl (HF.out 1 T 0 m 0).2
 ·obtain ⟨rfl, rfl, rfl, rfl⟩ : 3 = kd ∧ T = tx ∧ m = nn ∧ 0 = er := by simpa using HKEY.out
  clear HKEY
  go_wp2
  exact end_tk3 (HF.out 3 T 0 m 0).1 rfl rfl rfl rfl rfl (HF.out 3 T 0 m 0).2
set_option maxRecDepth 100000 in
set_option maxHeartbeats 4000000 in
theorem one_dig (s : ByteArray) (k : Nat) (w : World) (hk : k < s.size) (hs : s.size ≤ 4294967296) (hd : isDig (byte s k) = true) (E : Nat) (hE : endOf isAny s k = E) (T : ByteArray) (hT : s.extract k E = T)
  (x : Int) (q : Bool) (hq : rnumP T.data.toList = (x, q))
  (kd : Int) (tx : ByteArray) (nm : Int) (nn : Nat) (er : Int) (hkey : if q then 2 = kd ∧ T = tx ∧ x = nm ∧ E - k = nn ∧ 0 = er else 0 = kd ∧ ⟨#[]⟩ = tx ∧ 0 = nm ∧ 0 = nn ∧ 112 = er) :
  Calls Tryz.prog 81 #[.string s, .int .i64 (k : Int)] w (OPost w kd tx nm nn er) := by
 have hle := endOf_le (f := isAny) (Nat.le_of_lt hk)
 have hlt : k < endOf isAny s k := endOf_lt hk (by unfold isAny; rw [hd]; simp)
 rw [hE] at hle hlt
 obtain ⟨m, hm⟩ : ∃ m, E - k = m := ⟨_, rfl⟩
 have hEm : E = k + m := by omega
 subst hEm
 have hz : Tk (w.alloc zTok) w.heap.size 0 ⟨#[]⟩ 0 (0, 0) := World.alloc_heap_new _ _
 have hB : Below w.heap.size w (w.alloc zTok) := (Below.refl _ w).alloc (Nat.le_refl _) _
 have cr := run_any s k (w.alloc zTok) (Nat.le_of_lt hk) hs
 rw [hE] at cr
 rw [hm] at cr hkey
 have hm0 : (0 : Int) < (m : Int) := by omega
 have hkm : (k : Int) + (m : Int) ≤ (s.size : Int) := by omega
 have hk0 : (0 : Int) ≤ (k : Int) + (m : Int) := by omega
 have hk1 : (k : Int) ≤ (k : Int) + (m : Int) := by omega
 have hbt := byte_at hk
 obtain ⟨c, hcc⟩ : ∃ c, byte s k = c := ⟨_, rfl⟩
 rw [hcc] at hbt hd
 have cd := rdigit_any c (w.alloc zTok)
 rw [hd] at cd
 have hks : (k : Int) < (s.size : Int) := by omega
 have hTs : T.size ≤ 4294967296 := by
  rw [← hT, ByteArray.size_extract]
  omega
 have hTp : 0 < T.size := by
  rw [← hT, ByteArray.size_extract]
  omega
 have ck := fun w => rnumber_any T w hTs hTp
 simp only [hq] at ck
 have HT := Lib.hid hT
 have HKEY := Lib.hid hkey
 clear hE hm hcc hd hT hlt hle hkey hq hTs hTp
 have hkmN : k + m ≤ s.size := by omega
 have tt : ((k : Int) + (m : Int)).toNat = k + m := by omega
 go_enter Tryz.func81, Tryz.ntmps81
 go_wp2_with fail
 refine cr.mono ?_
 rintro e w' ⟨rfl, rfl⟩
 generalize w.alloc zTok = W0 at *
 go_wp2_with fail
 rw [HT.out]
 refine cd.mono ?_
 rintro e w' ⟨rfl, rfl⟩
 clear cr cd
 go_wp2_with fail
 refine (ck _).mono ?_
 rintro e w1 ⟨rfl, hb1⟩
 have hz1 := hz.of (hb1.block _ hz.lt)
 have hB1 := hB.trans (hb1.mono hB.size)
 clear hb1 hz hB ck
 have z0 := hz1.c0
 have z1 := hz1.c1
 have z2 := hz1.c2
 have z3 := hz1.c3
 have z4 := hz1.c4
 have f0 := hz1.frozen 0
 have f1 := hz1.frozen 1
 have f2 := hz1.frozen 2
 have f3 := hz1.frozen 3
 have f4 := hz1.frozen 4
 have fin : ∀ (x : Int) (v : ByteArray) (n : Int) (nn : Nat) (er : Int),
   Tk (((((w1.setCell ⟨w.heap.size, 0, none⟩ (.int .i64 x)).setCell ⟨w.heap.size, 1, none⟩ (.string v)).setCell ⟨w.heap.size, 2, none⟩ (.int .i64 n)).setCell ⟨w.heap.size, 3, none⟩ (.int .i64 0)).setCell ⟨w.heap.size, 4, none⟩ (.int .i64 0)) w.heap.size x v n (0, 0) ∧
   OPost w x v n nn er (.returned (.tuple #[.agg #[.int .i64 x, .string v, .int .i64 n, .int .i64 0, .int .i64 0], .int .i64 (nn : Int), .int .i64 er])) (((((w1.setCell ⟨w.heap.size, 0, none⟩ (.int .i64 x)).setCell ⟨w.heap.size, 1, none⟩ (.string v)).setCell ⟨w.heap.size, 2, none⟩ (.int .i64 n)).setCell ⟨w.heap.size, 3, none⟩ (.int .i64 0)).setCell ⟨w.heap.size, 4, none⟩ (.int .i64 0)) := fun x v n nn er =>
  ⟨hz1.set5 x v n 0 0, rfl, ((((hB1.setCell (p := ⟨w.heap.size, 0, none⟩) (Nat.le_refl _) _).setCell (p := ⟨w.heap.size, 1, none⟩) (Nat.le_refl _) _).setCell (p := ⟨w.heap.size, 2, none⟩) (Nat.le_refl _) _).setCell (p := ⟨w.heap.size, 3, none⟩) (Nat.le_refl _) _).setCell (p := ⟨w.heap.size, 4, none⟩) (Nat.le_refl _) _⟩
 have HF := Lib.hid fin
 clear fin
 cases q
 ·obtain ⟨rfl, rfl, rfl, rfl, rfl⟩ : 0 = kd ∧ ⟨#[]⟩ = tx ∧ 0 = nm ∧ 0 = nn ∧ 112 = er := by simpa using HKEY.out
  clear HKEY
  go_wp2
  exact end_tk3 (HF.out 0 ⟨#[]⟩ 0 0 112).1 rfl rfl rfl rfl rfl (HF.out 0 ⟨#[]⟩ 0 0 112).2
 ·obtain ⟨rfl, rfl, rfl, rfl, rfl⟩ : 2 = kd ∧ T = tx ∧ x = nm ∧ m = nn ∧ 0 = er := by simpa using HKEY.out
  clear HKEY
  go_wp2
  exact end_tk3 (HF.out 2 T x m 0).1 rfl rfl rfl rfl rfl (HF.out 2 T x m 0).2
end Go.Proofs.YtjmlmelcppbefaaGreatDoor
