/- Maps whose keys are pairs of pointers: a look-up, a store, whatever the model draws. Asked: the pointers lead to cells that are not frozen. -/
import Derived.Test.YtjmlmelcppbefaaGreatDoorT09
import Derived.Laws.StructEq
import Derived.MapKept
import Derived.WalkKit
import Derived.WalkSmall
import Derived.Lib.Hide
namespace Go.Proofs.YtjmlmelcppbefaaGreatDoor
open Go.RowKit
def Pt (w : World) (a : Addr) : Prop := ∃ v, w.cellU a = some v
theorem Pt.shape {w : World} {a : Addr} (h : Pt w a) : ∃ s, w.shape? a.block = some s := by
 obtain ⟨v, h⟩ := h
 have h := World.cellU_cell h
 unfold World.cell? at h
 unfold World.shape?
 split at h
 ·exact ⟨_, rfl⟩
 ·cases h
theorem Pt.free {w : World} {a : Addr} (h : Pt w a) : w.frozen? a = false := by
 obtain ⟨v, h⟩ := h
 exact World.cellU_free h
theorem Pt.of {w w' : World} {a : Addr} (h : Pt w a) (he : w'.heap[a.block]? = w.heap[a.block]?) : Pt w' a := by
 obtain ⟨v, h⟩ := h
 refine ⟨v, ?_⟩
 rw [← h]
 unfold World.cellU World.cell? World.frozen?
 rw [he]
theorem Pt.lt {w : World} {a : Addr} (h : Pt w a) : a.block < w.heap.size := by
 obtain ⟨v, h⟩ := h
 exact World.block_lt_of_cell? w _ (World.cellU_cell h)
theorem Pt.ne {w : World} {a : Addr} {m : Nat} {es : Array MapEntry} {ck : Nat} (h : Pt w a) (hm : w.heap[m]? = some (.map es ck)) : a.block ≠ m := by
 intro e
 subst e
 obtain ⟨v, h⟩ := h
 have h := World.cellU_cell h
 unfold World.cell? at h
 rw [hm] at h
 cases h
section
variable {P : Program}
theorem run_noView {w : World} {a : Addr} (h : Pt w a) : (noView a).run P w = .ok () w := by
 obtain ⟨s, hs⟩ := h.shape
 simp [noView, viewAt, hs]
theorem run_mayBeOne {w : World} {a b : Addr} (ha : Pt w a) (hb : Pt w b) : ∃ q, (mayBeOne a b).run P w = .ok q w := by
 obtain ⟨⟨t, n⟩, hs⟩ := ha.shape
 obtain ⟨⟨t2, n2⟩, hs2⟩ := hb.shape
 have hf := ha.free
 have hf2 := hb.free
 refine ⟨_, by simp [mayBeOne, stringish, frozen, shape, Sem.run, hs, hf, hs2, hf2]; rfl⟩
theorem run_sameAddr_pt {w : World} {a b : Addr} (ha : Pt w a) (hb : Pt w b) : ∃ q n, (sameAddr a b).run P w = .ok q (w.drewN n) := by
 by_cases hbl : a.block = b.block
 ·exact ⟨a == b, 0, by simp [sameAddr, hbl, World.drewN]⟩
 ·have hf := ha.free
  obtain ⟨m, hm⟩ := run_mayBeOne (P := P) ha hb
  cases m
  ·exact ⟨false, 0, by simp [sameAddr, hbl, hf, run_noView ha, run_noView hb, hm, World.drewN]⟩
  ·refine ⟨_, 1, by simp [sameAddr, hbl, hf, run_noView ha, run_noView hb, hm, Question.forced]; exact ⟨rfl, rfl⟩⟩
structure TwoKey (P : Program) (kt pt et : TypeId) (f0 f1 : Field) : Prop where
 st : P.underlying kt = some (.struct (P.fieldsOf kt))
 held : P.stoodInHeld kt = false
 flds : (P.fieldsOf kt).toList = [f0, f1]
 n0 : f0.name ≠ "_"
 n1 : f1.name ≠ "_"
 t0 : f0.type = pt
 t1 : f1.type = pt
 o0 : f0.offset = 0
 o1 : f1.offset = 1
 ptr : P.underlying pt = some (.pointer et)
 info : ∃ n, (P.info? et).map (·.size) = some (n + 1)
def pkey (a b : Addr) : Value := .agg #[.pointer (some a), .pointer (some b)]
variable {kt pt et : TypeId} {f0 f1 : Field}
theorem TwoKey.eqp (h : TwoKey P kt pt et f0 f1) (d : Nat) {w : World} {a b : Addr} (ha : Pt w a) (hb : Pt w b) : ∃ q n, (Op.equalIn (d + 1) pt (.pointer (some a)) (.pointer (some b))).run P w = .ok q (w.drewN n) := by
 obtain ⟨q, n, hq⟩ := run_sameAddr_pt (P := P) ha hb
 obtain ⟨i, hi, hz⟩ : ∃ i, P.info? et = some i ∧ i.size ≠ 0 := by
  obtain ⟨n, hn⟩ := h.info
  cases hi : P.info? et with
  | none => rw [hi] at hn; cases hn
  | some i =>
   refine ⟨i, rfl, ?_⟩
   rw [hi] at hn
   simp only [Option.map_some, Option.some.injEq] at hn
   omega
 exact ⟨q, n, by simp [Op.equalIn, run_underlying h.ptr, sizeOf, typeInfo, hi, hz, hq]⟩
theorem TwoKey.part0 (h : TwoKey P kt pt et f0 f1) (w : World) (a b : Value) : (part pt #[a, b] 0).run P w = .ok a w := by
 simp [part, isAgg, run_underlying h.ptr]
theorem TwoKey.part1 (h : TwoKey P kt pt et f0 f1) (w : World) (a b : Value) : (part pt #[a, b] 1).run P w = .ok b w := by
 simp [part, isAgg, run_underlying h.ptr]
theorem Pt.drewN {w : World} {a : Addr} (h : Pt w a) (n : Nat) : Pt (w.drewN n) a := h
theorem TwoKey.eq (h : TwoKey P kt pt et f0 f1) {w : World} {a b c d : Addr} (ha : Pt w a) (hb : Pt w b) (hc : Pt w c) (hd : Pt w d) : ∃ q n, (Op.equal kt (pkey a b) (pkey c d)).run P w = .ok q (w.drewN n) := by
 obtain ⟨q1, n1, h1⟩ := h.eqp 9998 ha hc
 obtain ⟨q2, n2, h2⟩ := h.eqp 9998 (hb.drewN n1) (hd.drewN n1)
 have key : (Op.equal kt (pkey a b) (pkey c d)).run P w = (Op.eqFields 9999 #[.pointer (some a), .pointer (some b)] #[.pointer (some c), .pointer (some d)] (P.fieldsOf kt).toList).run P w := run_equalIn_struct w 9999 kt _ _ h.st h.held
 rw [key, h.flds]
 cases q1
 ·refine ⟨false, n1, ?_⟩
  simp [Op.eqFields, h.n0, h.t0, h.o0, h.part0, h1]
 ·refine ⟨q2, n1 + n2, ?_⟩
  rw [← World.drewN_drewN]
  cases q2 <;> simp [Op.eqFields, h.n0, h.n1, h.t0, h.t1, h.o0, h.o1, h.part0, h.part1, h1, h2]
def Keys (w : World) (l : List MapEntry) : Prop := ∀ x ∈ l, ∃ a b, x.key = pkey a b ∧ Pt w a ∧ Pt w b
theorem Keys.drewN {w : World} {l : List MapEntry} (h : Keys w l) (n : Nat) : Keys (w.drewN n) l := h
theorem TwoKey.find (h : TwoKey P kt pt et f0 f1) {a b : Addr} : ∀ (l : List MapEntry) (i : Nat) (w : World), Pt w a → Pt w b → Keys w l → ∃ r n, (Instr.findAsking kt (pkey a b) l i).run P w = .ok r (w.drewN n) ∧ ∀ j v, r = some (j, v) → i ≤ j ∧ ∃ x, l[j - i]? = some x ∧ x.val = v
 | [], i, w, _, _, _ => ⟨none, 0, by simp [Instr.findAsking, World.drewN], fun _ _ h => by cases h⟩
 | e :: l, i, w, ha, hb, hk => by
  obtain ⟨c, d, hkey, hc, hd⟩ := hk e (List.mem_cons_self ..)
  obtain ⟨q, n, hq⟩ := h.eq ha hb hc hd
  rw [← hkey] at hq
  cases q
  ·obtain ⟨r, m, h1, h2⟩ := h.find l (i + 1) (w.drewN n) (ha.drewN n) (hb.drewN n) (fun x hx => hk x (List.mem_cons_of_mem _ hx))
   refine ⟨r, n + m, by simp [Instr.findAsking, hq, h1], fun j v hj => ?_⟩
   obtain ⟨h3, x, h4, h5⟩ := h2 j v hj
   refine ⟨by omega, x, ?_, h5⟩
   rw [show j - i = j - (i + 1) + 1 by omega]
   simpa using h4
  ·refine ⟨some (i, e.val), n, by simp [Instr.findAsking, hq], fun j v hj => ?_⟩
   cases hj
   exact ⟨Nat.le_refl _, e, by simp, rfl⟩
theorem TwoKey.findKey (h : TwoKey P kt pt et f0 f1) {a b : Addr} (l : List MapEntry) (w : World) (ha : Pt w a) (hb : Pt w b) (hk : Keys w l) : ∃ r n, (Instr.findKey kt (pkey a b) l).run P w = .ok r (w.drewN n) ∧ ∀ j v, r = some (j, v) → ∃ x, l[j]? = some x ∧ x.val = v := by
 cases l with
 | nil => exact ⟨none, 0, by simp [Instr.findKey, run_underlying h.st, Instr.findNow, World.drewN], fun _ _ h => by cases h⟩
 | cons e l =>
  obtain ⟨r, n, h1, h2⟩ := h.find (e :: l) 0 w ha hb hk
  refine ⟨r, n, by simp [Instr.findKey, run_underlying h.st, Instr.findNow, Instr.sameNow, h1], fun j v hj => ?_⟩
  obtain ⟨-, h3⟩ := h2 j v hj
  simpa using h3
theorem TwoKey.checkP (h : TwoKey P kt pt et f0 f1) (a b : Addr) (w : World) (em : Bool) (n : Nat) : (Instr.checkKey em (n + 1 + 1) kt (pkey a b)).run P w = .ok () w := by
 have hl : ∀ (q : Addr) (w : World), (Instr.checkKey em (n + 1) pt (.pointer (some q))).run P w = .ok () w := fun q w => by
  unfold Instr.checkKey
  simp [run_underlying h.ptr]
 unfold Instr.checkKey
 simp only [pkey, Sem.run_bind, run_underlying h.st, Result.andThen_ok]
 rw [← Array.forIn_toList, h.flds]
 simp [h.n0, h.n1, h.t0, h.t1, h.o0, h.o1, h.part0, h.part1, hl]
def Pm (w : World) (m : Nat) : Prop := ∃ es ck, w.heap[m]? = some (.map es ck) ∧ Keys w es.toList ∧ ∀ x ∈ es.toList, x.val = .agg #[]
theorem Pm.drewN {w : World} {m : Nat} (h : Pm w m) (n : Nat) : Pm (w.drewN n) m := h
theorem Pm.drew {w : World} {m : Nat} (h : Pm w m) : Pm w.drew m := h
theorem Pm.of {w w' : World} {m : Nat} (h : Pm w m) (hk : ∀ b, b < w.heap.size → w'.heap[b]? = w.heap[b]?) : Pm w' m := by
 obtain ⟨es, ck, h1, h2, h3⟩ := h
 refine ⟨es, ck, (hk m (Array.getElem?_eq_some_iff.1 h1).1).trans h1, fun x hx => ?_, h3⟩
 obtain ⟨a, b, e, pa, pb⟩ := h2 x hx
 exact ⟨a, b, e, pa.of (hk _ pa.lt), pb.of (hk _ pb.lt)⟩
theorem Pm.kp {w w' : World} {m m2 : Nat} (h : Pm w m) (hk : Kp w w' m2 m2) (hne : m ≠ m2) {es : Array MapEntry} {ck : Nat} (h2 : w.heap[m2]? = some (.map es ck)) : Pm w' m := by
 obtain ⟨es1, ck1, g1, g2, g3⟩ := h
 refine ⟨es1, ck1, (hk.block m (Array.getElem?_eq_some_iff.1 g1).1 hne hne).trans g1, fun x hx => ?_, g3⟩
 obtain ⟨a, b, e, pa, pb⟩ := g2 x hx
 exact ⟨a, b, e, pa.of (hk.block _ pa.lt (pa.ne h2) (pa.ne h2)), pb.of (hk.block _ pb.lt (pb.ne h2) (pb.ne h2))⟩
variable {mt vt rt : TypeId}
theorem TwoKey.lookup (h : TwoKey P kt pt et f0 f1) (hm : P.underlying mt = some (.map kt vt)) (hz : ∀ w, (zeroValue vt).run P w = .ok (.agg #[]) w) {a b : Addr} {m : Nat} {w : World} (ha : Pt w a) (hb : Pt w b) (hp : Pm w m) :
  ∃ q n, (Instr.lookup mt (.map (some m)) (.agg #[.pointer (some a), .pointer (some b)]) true).run P w = .ok (.tuple #[.agg #[], .bool q]) (w.drewN n) := by
 obtain ⟨es, ck, h1, h2, h3⟩ := hp
 obtain ⟨r, n, h4, h5⟩ := h.findKey es.toList w ha hb h2
 have hc := fun em => h.checkP a b w em 9998
 have hg : ∀ w', w'.heap[m]? = some (.map es ck) → (getObj m).run P w' = .ok (.map es ck) w' := fun w' hw => by simp [getObj, Sem.run, hw]
 have hc2 : ∀ em, (Instr.checkKey em 10000 kt (pkey a b)).run P w = .ok () w := hc
 clear hc
 unfold Instr.lookup
 rw [show (.agg #[.pointer (some a), .pointer (some b)] : Value) = pkey a b from rfl]
 rcases r with _ | ⟨j, v⟩
 ·refine ⟨false, n, ?_⟩
  simp only [Sem.run_bind, run_underlying hm, Result.andThen_ok, hg w h1, Sem.run_pure, hc2, h4, hz]
  rfl
 ·obtain ⟨x, g1, g2⟩ := h5 j v rfl
  have hv : v = .agg #[] := by rw [← g2]; exact h3 x (List.mem_of_getElem? g1)
  subst hv
  refine ⟨true, n, ?_⟩
  simp only [Sem.run_bind, run_underlying hm, Result.andThen_ok, hg w h1, Sem.run_pure, hc2, h4]
  rfl
theorem TwoKey.update (h : TwoKey P kt pt et f0 f1) (hm : P.underlying mt = some (.map kt vt)) {a b : Addr} {m : Nat} {w : World} (ha : Pt w a) (hb : Pt w b) (hp : Pm w m) :
  ∃ w', (Instr.mapUpdate mt (.map (some m)) (.agg #[.pointer (some a), .pointer (some b)]) (.agg #[])).run P w = .ok () w' ∧ Kp w w' m m ∧ Pm w' m ∧ w'.heap.size = w.heap.size := by
 obtain ⟨es, ck, h1, h2, h3⟩ := hp
 obtain ⟨r, n, h4, h5⟩ := h.findKey es.toList w ha hb h2
 have hc2 : (Instr.checkKey false 10000 kt (pkey a b)).run P w = .ok () w := h.checkP a b w false 9998
 have hg : ∀ w', w'.heap[m]? = some (.map es ck) → (getObj m).run P w' = .ok (.map es ck) w' := fun w' hw => by simp [getObj, Sem.run, hw]
 have hlt := (Array.getElem?_eq_some_iff.1 h1).1
 have fin : ∀ (n : Nat) (es' : Array MapEntry) (ck' : Nat), (∀ x ∈ es'.toList, x.val = .agg #[] ∧ (x.key = pkey a b ∨ ∃ y ∈ es.toList, x.key = y.key)) →
   Kp w { w.drewN n with heap := w.heap.setIfInBounds m (.map es' ck') } m m ∧ Pm { w.drewN n with heap := w.heap.setIfInBounds m (.map es' ck') } m ∧ ({ w.drewN n with heap := w.heap.setIfInBounds m (.map es' ck') } : World).heap.size = w.heap.size := fun n es' ck' hx => by
  have hb' : ∀ k, k ≠ m → ({ w.drewN n with heap := w.heap.setIfInBounds m (.map es' ck') } : World).heap[k]? = w.heap[k]? := fun k hk => by
   show (w.heap.setIfInBounds m (.map es' ck'))[k]? = _
   rw [Array.getElem?_setIfInBounds_ne (Ne.symm hk)]
  refine ⟨⟨rfl, rfl, rfl, by simp, fun k _ hk _ => hb' k hk⟩, ⟨es', ck', by show (w.heap.setIfInBounds m (.map es' ck'))[m]? = _; simp [hlt], fun x hxm => ?_, fun x hxm => (hx x hxm).1⟩, by simp⟩
  rcases (hx x hxm).2 with e | ⟨y, hy, e⟩
  ·exact ⟨a, b, e, ha.of (hb' _ (ha.ne h1)), hb.of (hb' _ (hb.ne h1))⟩
  ·obtain ⟨c, d, e2, pc, pd⟩ := h2 y hy
   exact ⟨c, d, e.trans e2, pc.of (hb' _ (pc.ne h1)), pd.of (hb' _ (pd.ne h1))⟩
 have hs : ∀ (n : Nat) (o : Obj), (setObj m o).run P (w.drewN n) = .ok () { w.drewN n with heap := w.heap.setIfInBounds m o } := fun n o => by
  simp [setObj, Sem.run, h1]
 unfold Instr.mapUpdate
 rw [show (.agg #[.pointer (some a), .pointer (some b)] : Value) = pkey a b from rfl]
 rcases r with _ | ⟨j, v⟩
 ·refine ⟨{ w.drewN n with heap := w.heap.setIfInBounds m (.map (es.push { key := pkey a b, val := .agg #[], born := ck }) (ck + 1)) }, ?_, fin n _ _ fun x hx => ?_⟩
  ·simp only [Sem.run_bind, run_underlying hm, Result.andThen_ok, hg w h1, hc2, h4, hs]
  ·simp only [Array.toList_push, List.mem_append, List.mem_singleton] at hx
   rcases hx with hx | rfl
   ·exact ⟨h3 x hx, .inr ⟨x, hx, rfl⟩⟩
   ·exact ⟨rfl, .inl rfl⟩
 ·obtain ⟨y, g1, g2⟩ := h5 j v rfl
  have hks : ∃ k n2, (Instr.keyThatStays (((es[j]?).map (·.key)).getD (pkey a b)) (pkey a b)).run P (w.drewN n) = .ok k (w.drewN n2) ∧ (k = pkey a b ∨ k = y.key) := by
   have e1 : es[j]? = some y := by rw [← Array.getElem?_toList]; exact g1
   rw [e1]
   unfold Instr.keyThatStays
   split
   ·exact ⟨_, n, rfl, .inl rfl⟩
   ·refine ⟨_, n + 1, by simp [Question.forced]; rfl, ?_⟩
    split
    ·exact .inl rfl
    ·exact .inr rfl
  obtain ⟨k, n2, k1, k2⟩ := hks
  refine ⟨{ w.drewN n2 with heap := w.heap.setIfInBounds m (.map (es.modify j fun e => { e with key := k, val := .agg #[] }) ck) }, ?_, fin n2 _ _ fun x hx => ?_⟩
  ·simp only [Sem.run_bind, run_underlying hm, Result.andThen_ok, hg w h1, hc2, h4, k1, hs]
  ·obtain ⟨i, hi⟩ := List.getElem?_of_mem hx
   rw [Array.getElem?_toList, Array.getElem?_modify] at hi
   split at hi
   ·rename_i hij
    subst hij
    rw [← Array.getElem?_toList, g1] at hi
    simp only [Option.map_some, Option.some.injEq] at hi
    subst hi
    refine ⟨rfl, ?_⟩
    rcases k2 with rfl | rfl
    ·exact .inl rfl
    ·exact .inr ⟨y, List.mem_of_getElem? g1, rfl⟩
   ·have hm2 : x ∈ es.toList := List.mem_of_getElem? (by rw [Array.getElem?_toList]; exact hi)
    exact ⟨h3 x hm2, .inr ⟨x, hm2, rfl⟩⟩
end
theorem two166 : ∃ f0 f1, TwoKey Tryz.prog 166 129 64 f0 f1 := ⟨_, _, ⟨by kernel_rfl, by kernel_rfl, (by kernel_rfl : (Tryz.prog.fieldsOf 166).toList = [⟨"a", 129, 0, false, "", "warp/syntax", 0⟩, ⟨"b", 129, 1, false, "", "warp/syntax", 8⟩]), by decide, by decide, rfl, rfl, rfl, rfl, by kernel_rfl, ⟨24, by kernel_rfl⟩⟩⟩
theorem two199 : ∃ f0 f1, TwoKey Tryz.prog 199 106 46 f0 f1 := ⟨_, _, ⟨by kernel_rfl, by kernel_rfl, (by kernel_rfl : (Tryz.prog.fieldsOf 199).toList = [⟨"a", 106, 0, false, "", "warp/syntax", 0⟩, ⟨"b", 106, 1, false, "", "warp/syntax", 8⟩]), by decide, by decide, rfl, rfl, rfl, rfl, by kernel_rfl, ⟨6, by kernel_rfl⟩⟩⟩
theorem map162 : Tryz.prog.underlying 162 = some (.map 166 159) := by kernel_rfl
theorem map197 : Tryz.prog.underlying 197 = some (.map 199 159) := by kernel_rfl
theorem zero159 (w : World) : (zeroValue 159).run Tryz.prog w = .ok (.agg #[]) w := by kernel_rfl
theorem wpList_lookup_two {kt pt et vt : TypeId} {f0 f1 : Field} {w : World} {ops : Array Oper} {rest : List Oper} {o : Oper} {a : Act} {Q : Exit → Act → World → Prop} (hg : o.guard = none) (x y : Operand) (t : TypeId) (hop : o.op = Op.lookup t x y true)
  (K : TwoKey Tryz.prog kt pt et f0 f1) (ht : Tryz.prog.underlying t = some (.map kt vt)) (hz : ∀ w, (zeroValue vt).run Tryz.prog w = .ok (.agg #[]) w) (m : Nat) (p q : Addr) (hx : a.eval x = .map (some m)) (hy : a.eval y = .agg #[.pointer (some p), .pointer (some q)]) (hp : Pt w p) (hq : Pt w q) (hm : Pm w m)
  (hK : ∀ (r : Bool) (n : Nat), wpList Tryz.prog ops Q rest (a.put o.dst (.tuple #[.agg #[], .bool r])) (w.drewN n)) : wpList Tryz.prog ops Q (o :: rest) a w := by
 refine wpList_plain hg fun K' hK' => ?_
 obtain ⟨r, n, hrun⟩ := K.lookup ht hz hp hq hm
 unfold Oper.wp
 simp [execOp, hop, hx, hy, hrun, Result.andThen]
 exact hK' _ _ (hK r n)
theorem wpList_update_two {kt pt et vt : TypeId} {f0 f1 : Field} {w : World} {ops : Array Oper} {rest : List Oper} {o : Oper} {a : Act} {Q : Exit → Act → World → Prop} (hg : o.guard = none) (x y z : Operand) (t : TypeId) (hop : o.op = Op.mapUpdate t x y z)
  (K : TwoKey Tryz.prog kt pt et f0 f1) (ht : Tryz.prog.underlying t = some (.map kt vt)) (m : Nat) (p q : Addr) (hx : a.eval x = .map (some m)) (hy : a.eval y = .agg #[.pointer (some p), .pointer (some q)]) (hz : a.eval z = .agg #[]) (hp : Pt w p) (hq : Pt w q) (hm : Pm w m)
  (hK : ∀ w', Kp w w' m m → Pm w' m → w'.heap.size = w.heap.size → wpList Tryz.prog ops Q rest (a.put o.dst undef) w') : wpList Tryz.prog ops Q (o :: rest) a w := by
 refine wpList_plain hg fun K' hK' => ?_
 obtain ⟨w', hrun, h1, h2, h3⟩ := K.update ht hp hq hm
 unfold Oper.wp
 simp [execOp, hop, hx, hy, hz, hrun, Result.andThen]
 exact hK' _ _ (hK w' h1 h2 h3)
end Go.Proofs.YtjmlmelcppbefaaGreatDoor
