/- What the lifted proofs of ops share: the tables out of the row's condition, a module, bytes opened. No condition. -/
import Derived.Test.YtjbinejaagpleaaDoorRows
import Derived.Test.YtjbinejaagpleaaDoorBackE
import Derived.ProofKit
import Derived.LaidMore
import Derived.Lay
import Derived.LaidOnce
import Derived.OpenShut
import Derived.Below
import Derived.Carry
import Derived.Stop.Joined
import Derived.Stop.LaidErr
namespace Go.Proofs.YtjbinejaagpleaaDoor
open Go.ChangeShapes Go.WideShapes Go.ChangeAt Go.RowKit

theorem own : ownKnob Tryd.prog.godebug = none := by kernel_rfl
theorem laidOut : laidOutB Tryd.prog = true := by kernel_rfl
def laid4 : List (String × DataW Unit) := [("math/bits.deBruijn32tab", Rows.laid_math_bits_deBruijn32tab), ("math/bits.deBruijn64tab", Rows.laid_math_bits_deBruijn64tab), ("internal/strconv.uint64pow10", Rows.laid_internal_strconv_uint64pow10), ("warp/ops.codes", Rows.laid_warp_ops_codes)]
theorem gCodes : Tryd.prog.globalNamed "warp/ops.codes" = some 0 := by kernel_rfl
theorem tCodes : ∃ t e, (Tryd.prog.globals[0]?).map (·.type) = some t ∧ Tryd.prog.underlying t = some (.array 35 e) ∧ Tryd.prog.cellsOf e = 2 ∧ Tryd.prog.cellsOf t = 70 ∧ ∃ f0 f1 : Field, Tryd.prog.underlying e = some (.struct #[f0, f1]) ∧ f0.offset = 0 ∧ f1.offset = 1 ∧ Tryd.prog.cellsOf f0.type = 1 ∧ Tryd.prog.cellsOf f1.type = 1 ∧ Tryd.prog.underlying f0.type = some .string ∧ Tryd.prog.underlying f1.type = some (.int .i64) :=
  ⟨116, 115, by kernel_rfl, Tryd.underlying116, by kernel_rfl, by kernel_rfl, _, _, Tryd.underlying115, rfl, rfl, by kernel_rfl, by kernel_rfl, Tryd.underlying9, Tryd.underlying3⟩
theorem codes_list {H : Type} : Rows.laid_warp_ops_codes (H := H) = .agg ((List.range 35).map fun c => .agg [.lit (.string (nmL.getD c ⟨#[]⟩).data.toList), .lit (.int .i64 (wtL.getD c 0))]) := by kernel_rfl
theorem tabc_of {W : World} {rest : List (String × DataW Unit)} (h : laidMet Tryd.prog (("warp/ops.codes", Rows.laid_warp_ops_codes) :: rest) W) : TabC W := by
  obtain ⟨ps, ⟨g', t', cs, fuel, p, q, hg', ht', hvar, hd, _, _⟩, _⟩ := h
  obtain rfl := Option.some.inj (gCodes.symm.trans hg')
  obtain ⟨t, e, h1, h2, h3, h4, f0, f1, h5, o0, o1, c0, c1, u0, u1⟩ := tCodes
  obtain rfl := Option.some.inj (h1.symm.trans ht')
  obtain ⟨xs, m, _, hx, hlen, hn, hel⟩ := DataW.trod_array h2 hd
  rw [h4] at hlen
  rw [codes_list] at hx
  have hxs := DataW.agg.inj (Prod.mk.inj hx).1
  have hcell := fun i => World.var?_cell hg' hvar i
  have key : ∀ c, c < 35 → W.cell? ⟨0, c * 2, none⟩ = some (.string (nmL.getD c ⟨#[]⟩)) ∧ W.cell? ⟨0, c * 2 + 1, none⟩ = some (.int .i64 (wtL.getD c 0)) := by
    intro c hc
    have hE := hel c hc
    rw [List.getElem?_eq_getElem (by omega), h3] at hE
    have hd1 : (xs[c]'(by omega)).1 = .agg [.lit (.string (nmL.getD c ⟨#[]⟩).data.toList), .lit (.int .i64 (wtL.getD c 0))] := by
      have := congrArg (fun l => l[c]?) hxs
      simp only [List.getElem?_map, List.getElem?_range hc, List.getElem?_eq_getElem (show c < xs.length by omega), Option.map_some, Option.some.injEq] at this
      exact this.symm
    obtain ⟨ys, m2, _, hy, hyl, hyn, hye⟩ := DataW.trod_struct h5 hE
    rw [hy] at hd1
    have e0 := hye 0 f0 rfl
    have e1 := hye 1 f1 rfl
    rw [o0, c0] at e0
    rw [o1, c1] at e1
    match ys, hyn with
    | [y0, y1], _ =>
      have hp := DataW.agg.inj hd1
      simp only [List.map_cons, List.map_nil, List.cons.injEq, and_true] at hp
      obtain ⟨s, a0, b0, _⟩ := DataW.trod_string u0 (show DataW.trod _ Tryd.prog W 0 _ _ m2 f0.type _ = some y0 from e0)
      obtain ⟨z, a1, b1, _⟩ := DataW.trod_int u1 (show DataW.trod _ Tryd.prog W 0 _ _ m2 f1.type _ = some y1 from e1)
      rw [b0, b1] at hp
      simp only [DataW.lit.injEq, Lit.string.injEq, Lit.int.injEq, true_and] at hp
      obtain ⟨p1, p2⟩ := hp
      have es : s = nmL.getD c ⟨#[]⟩ := by
        generalize nmL.getD c ⟨#[]⟩ = s' at *
        obtain ⟨⟨l⟩⟩ := s
        obtain ⟨⟨l'⟩⟩ := s'
        simp only at p1
        rw [p1]
      have k0 : cs.toList[c * 2]? = some (.string s) := by
        have := congrArg (fun l => l[0]?) a0
        simpa [List.getElem?_take, List.getElem?_drop] using this
      have k1 : cs.toList[c * 2 + 1]? = some (.int .i64 z) := by
        have := congrArg (fun l => l[0]?) a1
        simpa [List.getElem?_take, List.getElem?_drop] using this
      rw [Array.getElem?_toList] at k0 k1
      rw [hcell, hcell, k0, k1, es, p2]
      exact ⟨rfl, rfl⟩
  exact ⟨World.block_lt_of_cell? W _ (key 0 (by decide)).1, key⟩
theorem tab_of {W : World} (h : laidMetH Tryd.prog laid4 W) : TabC W ∧ Tab W ∧ 1 < W.heap.size := by
  rw [MakeChecks.laidMetH_plain _ _ _ (by kernel_rfl)] at h
  have h2 := h.tail.tail
  have ht : Tab W := Lib.tabIs_of_head gPow (t := 134) (e := 92) (n := 20) (by kernel_rfl) (by kernel_rfl) (by kernel_rfl) (by kernel_rfl) (by kernel_rfl) h2
  have hc := Lib.TabIs.cell ht gPow 0 (by decide)
  exact ⟨tabc_of h2.tail, ht, World.block_lt_of_cell? W _ hc⟩
theorem list_of {α : Type} (d : α) {P : Nat → α → Prop} : ∀ n : Nat, (∀ i, i < n → ∃ x, P i x) → ∃ l : List α, l.length = n ∧ ∀ i, i < n → P i (l.getD i d)
  | 0, _ => ⟨[], rfl, fun i h => absurd h (Nat.not_lt_zero i)⟩
  | n + 1, h => by
    obtain ⟨l, hl, hp⟩ := list_of d (P := P) n (fun i hi => h i (by omega))
    obtain ⟨x, hx⟩ := h n (by omega)
    refine ⟨l ++ [x], by simp [hl], fun i hi => ?_⟩
    by_cases hin : i < n
    · have := hp i hin
      rw [List.getD_eq_getElem?_getD] at this ⊢
      rwa [List.getElem?_append_left (by omega)]
    · obtain rfl : i = n := by omega
      rw [List.getD_eq_getElem?_getD, List.getElem?_append_right (by omega), hl]
      simpa using hx
theorem addr_add (b off k : Nat) : (⟨b, off, none⟩ : Addr).add k = ⟨b, off + k, none⟩ := by unfold Addr.add; split <;> simp_all
theorem cells_1 {W : World} {A : Addr} {c : List Value} (hc : W.cells? 0 A 1 = some c) : ∃ y0, c = [y0] ∧ W.cell? (A.add 0) = some y0 := by
  unfold World.cells? at hc
  split at hc
  · simp only [List.range_succ, List.range_zero, List.nil_append, List.mapM_cons, List.mapM_nil, Option.bind_eq_bind, Option.bind_eq_some_iff, Option.pure_def, Option.some.injEq] at hc
    obtain ⟨y0, k0, _, rfl, rfl⟩ := hc
    exact ⟨y0, rfl, k0⟩
  · cases hc
theorem cells_4 {W : World} {A : Addr} {c : List Value} (hc : W.cells? 0 A 4 = some c) : ∃ y0 y1 y2 y3, c = [y0, y1, y2, y3] ∧ W.cell? (A.add 0) = some y0 ∧ W.cell? (A.add 1) = some y1 ∧ W.cell? (A.add 2) = some y2 ∧ W.cell? (A.add 3) = some y3 := by
  unfold World.cells? at hc
  split at hc
  · simp only [List.range_succ, List.range_zero, List.nil_append, List.cons_append, List.mapM_cons, List.mapM_nil, Option.bind_eq_bind, Option.bind_eq_some_iff, Option.pure_def, Option.some.injEq] at hc
    obtain ⟨y0, k0, _, ⟨y1, k1, _, ⟨y2, k2, _, ⟨y3, k3, _, rfl, rfl⟩, rfl⟩, rfl⟩, rfl⟩ := hc
    exact ⟨y0, y1, y2, y3, rfl, k0, k1, k2, k3⟩
  · cases hc
variable {H : Type} {enc : TypeId × Value → H} {W : World}
/-- What is met in reading is within the reach. -/
def Lgt (t : TypeId) (d : DataW H) : Prop := ∀ n ∈ d.weights Tryd.prog t, n ≤ reachBytes
theorem lgt_all {e : TypeId} : ∀ {l : List (DataW H)}, (∀ n ∈ DataW.weightsAll Tryd.prog e l, n ≤ reachBytes) → ∀ d ∈ l, Lgt e d
  | [], _, d, h => by cases h
  | x :: l, h, d, hd => by
    simp only [DataW.weightsAll, List.mem_append] at h
    rcases List.mem_cons.1 hd with rfl | hd
    · exact fun n hn => h n (.inl hn)
    · exact lgt_all (fun n hn => h n (.inr hn)) d hd
theorem lgt_slice {t e : TypeId} {l r : List (DataW H)} (ht : Tryd.prog.underlying t = some (.slice e)) (h : Lgt t (.slice l r)) : l.length * Tryd.prog.bytesOf e ≤ reachBytes ∧ ∀ d ∈ l, Lgt e d := by
  unfold Lgt at h
  simp only [DataW.weights, ht, List.mem_cons, List.mem_append] at h
  have := h _ (.inl rfl)
  exact ⟨Nat.le_trans (Nat.mul_le_mul_right _ (Nat.le_add_right _ _)) this, lgt_all fun n hn => h n (.inr (.inl hn))⟩
theorem lgt_each {ts : List TypeId} {ds : List (DataW H)} (h : (DataW.weightsEach Tryd.prog ts ds).all (· ≤ reachBytes) = true) {i : Nat} {t : TypeId} {d : DataW H} (ht : ts[i]? = some t) (hd : ds[i]? = some d) : Lgt t d := fun n hn => by
  simpa using List.all_eq_true.1 h n (DataW.weights_mem_each ht hd n hn)
theorem lgt_struct {t : TypeId} {fs : Array Field} {ds : List (DataW H)} (ht : Tryd.prog.underlying t = some (.struct fs)) (h : Lgt t (.agg ds)) {i : Nat} {f : Field} {d : DataW H} (hf : fs[i]? = some f) (hd : ds[i]? = some d) : Lgt f.type d := fun n hn => by
  unfold Lgt at h
  simp only [DataW.weights, ht] at h
  refine h n (DataW.weights_mem_each (j := i) (t := f.type) (d := d) ?_ hd n hn)
  simp [hf]
theorem len_lgt {n b : Nat} (h : n * b ≤ reachBytes) (hb : 0 < b) : n ≤ 281474976710656 := by
  have h1 : n * 1 ≤ n * b := Nat.mul_le_mul_left _ hb
  unfold reachBytes at h
  omega
/-- Numbers in a slice. -/
theorem nums_in {t e : TypeId} {k : IntKind} (ht : Tryd.prog.underlying t = some (.slice e)) (he : Tryd.prog.underlying e = some (.int k)) (hs : Tryd.prog.cellsOf e = 1) (hby : 0 < Tryd.prog.bytesOf e) {fuel : Nat} {v : Value} {x : DataW H × List MemPlace}
    (h : DataW.trod enc Tryd.prog W 0 (fun _ => true) true fuel t [v] = some x) (hL : Lgt t x.1) : ∃ (a : Option Addr) (l : List Int) (cap : Nat), v = .slice a l.length cap ∧ l.length ≤ cap ∧ l.length ≤ 281474976710656 ∧ (∀ y ∈ l, (Lit.int k y).wf = true) ∧
      ∀ i, i < l.length → ∃ b off, a = some ⟨b, off, none⟩ ∧ b < W.heap.size ∧ W.cell? ⟨b, off + i, none⟩ = some (.int k (l.getD i 0)) := by
  rcases DataW.trod_slice ht h with ⟨hcs, _⟩ | ⟨a', len', cap', elems, rest, n, _, hcs, hx, _, hle, hmx, hlen, hel, _⟩
  · obtain rfl : v = .slice none 0 0 := by simpa using hcs
    exact ⟨none, [], 0, rfl, Nat.le_refl _, Nat.zero_le _, fun y hy => (by cases hy), fun i hi => (by simp at hi)⟩
  · obtain rfl : v = .slice (some a') len' cap' := by simpa using hcs
    rw [hs] at hel
    rw [hx] at hL
    have hlm := len_lgt (lgt_slice ht hL).1 hby
    rw [List.length_map, hlen] at hlm
    have hel' : ∀ i, i < len' → ∃ y : Int, W.cell? ((a'.add (i * 1)).add 0) = some (.int k y) ∧ (Lit.int k y).wf = true := by
      intro i hi
      have hE := hel i hi
      rw [List.getElem?_eq_getElem (by omega)] at hE
      obtain ⟨c, hc, ht⟩ := Option.bind_eq_some_iff.1 hE
      obtain ⟨y0, rfl, k0⟩ := cells_1 hc
      obtain ⟨y, hy, _, hw⟩ := DataW.trod_int he ht
      simp at hy
      exact ⟨y, by rw [k0, hy], hw⟩
    obtain ⟨l, rfl, hp⟩ := list_of (0 : Int) len' hel'
    refine ⟨some a', l, cap', rfl, hle, hlm, fun y hy => ?_, fun i hi => ?_⟩
    · obtain ⟨i, hi, rfl⟩ := List.mem_iff_getElem.1 hy
      have := (hp i hi).2
      rwa [List.getD_eq_getElem?_getD, List.getElem?_eq_getElem hi] at this
    · obtain ⟨b, off, spot⟩ := a'
      have k0' := (hp i hi).1
      have h00 := (hp 0 (by omega)).1
      have hspot : spot = none := by simpa [Addr.add] using World.cell?_spot h00
      subst hspot
      clear h00
      simp only [addr_add] at k0'
      rw [Nat.add_zero, Nat.mul_one] at k0'
      exact ⟨b, off, rfl, World.block_lt_of_cell? W _ k0', k0'⟩
/-- Structs of four cells in a slice. -/
theorem four_in {α : Type} (d : α) (f : α → List Value) {t e : TypeId} (ht : Tryd.prog.underlying t = some (.slice e)) (hs : Tryd.prog.cellsOf e = 4) (hby : 0 < Tryd.prog.bytesOf e) (Q : α → Prop)
    (hone : ∀ (n : Nat) (cs : List Value) (x : DataW H × List MemPlace), DataW.trod enc Tryd.prog W 0 (fun _ => true) true n e cs = some x → Lgt e x.1 → ∃ y : α, cs = f y ∧ Q y) {fuel : Nat} {v : Value} {x : DataW H × List MemPlace}
    (h : DataW.trod enc Tryd.prog W 0 (fun _ => true) true fuel t [v] = some x) (hL : Lgt t x.1) : ∃ (a : Option Addr) (l : List α) (cap : Nat), v = .slice a l.length cap ∧ l.length ≤ cap ∧ l.length ≤ 281474976710656 ∧
      ∀ i, i < l.length → ∃ b off, a = some ⟨b, off, none⟩ ∧ b < W.heap.size ∧ Q (l.getD i d) ∧ ∃ y0 y1 y2 y3, f (l.getD i d) = [y0, y1, y2, y3] ∧ W.cell? ⟨b, off + i * 4, none⟩ = some y0 ∧ W.cell? ⟨b, off + i * 4 + 1, none⟩ = some y1 ∧ W.cell? ⟨b, off + i * 4 + 2, none⟩ = some y2 ∧ W.cell? ⟨b, off + i * 4 + 3, none⟩ = some y3 := by
  rcases DataW.trod_slice ht h with ⟨hcs, _⟩ | ⟨a', len', cap', elems, rest, n, _, hcs, hx, _, hle, hmx, hlen, hel, _⟩
  · obtain rfl : v = .slice none 0 0 := by simpa using hcs
    exact ⟨none, [], 0, rfl, Nat.le_refl _, Nat.zero_le _, fun i hi => (by simp at hi)⟩
  · obtain rfl : v = .slice (some a') len' cap' := by simpa using hcs
    rw [hs] at hel
    rw [hx] at hL
    obtain ⟨hl1, hl2⟩ := lgt_slice ht hL
    have hlm := len_lgt hl1 hby
    rw [List.length_map, hlen] at hlm
    have hel' : ∀ i, i < len' → ∃ y : α, Q y ∧ ∃ y0 y1 y2 y3, f y = [y0, y1, y2, y3] ∧ W.cell? ((a'.add (i * 4)).add 0) = some y0 ∧ W.cell? ((a'.add (i * 4)).add 1) = some y1 ∧ W.cell? ((a'.add (i * 4)).add 2) = some y2 ∧ W.cell? ((a'.add (i * 4)).add 3) = some y3 := by
      intro i hi
      have hE := hel i hi
      rw [List.getElem?_eq_getElem (by omega)] at hE
      obtain ⟨c, hc, ht⟩ := Option.bind_eq_some_iff.1 hE
      obtain ⟨y0, y1, y2, y3, rfl, k0, k1, k2, k3⟩ := cells_4 hc
      obtain ⟨y, hy, hq⟩ := hone _ _ _ ht (hl2 _ (List.mem_map.2 ⟨_, List.getElem_mem (by omega), rfl⟩))
      exact ⟨y, hq, y0, y1, y2, y3, hy.symm, k0, k1, k2, k3⟩
    obtain ⟨l, rfl, hp⟩ := list_of d len' hel'
    refine ⟨some a', l, cap', rfl, hle, hlm, fun i hi => ?_⟩
    obtain ⟨b, off, spot⟩ := a'
    obtain ⟨_, _, _, _, _, _, h00, _⟩ := hp 0 (by omega)
    have hspot : spot = none := by simpa [Addr.add] using World.cell?_spot h00
    subst hspot
    obtain ⟨hq, y0, y1, y2, y3, hy, k0, k1, k2, k3⟩ := hp i hi
    simp only [addr_add] at k0 k1 k2 k3
    rw [Nat.add_zero] at k0
    exact ⟨b, off, rfl, World.block_lt_of_cell? W _ k0, hq, y0, y1, y2, y3, hy, k0, k1, k2, k3⟩
set_option maxRecDepth 100000 in
theorem ins_one (n : Nat) (cs : List Value) (x : DataW H × List MemPlace) (h : DataW.trod enc Tryd.prog W 0 (fun _ => true) true n 48 cs = some x) (_ : Lgt 48 x.1) : ∃ y : InsP, cs = insC y ∧ True := by
  obtain ⟨xs, m, _, _, hlen, hl, hel⟩ := DataW.trod_struct Tryd.underlying48 h
  have c48 : Tryd.prog.cellsOf 48 = 4 := by kernel_rfl
  have c46 : Tryd.prog.cellsOf 46 = 1 := by kernel_rfl
  have c3 : Tryd.prog.cellsOf 3 = 1 := by kernel_rfl
  have c2 : Tryd.prog.cellsOf 2 = 1 := by kernel_rfl
  rw [c48] at hlen
  match cs, hlen with
  | [y0, y1, y2, y3], _ =>
    match xs, hl with
    | [x0, x1, x2, x3], _ =>
      have e0 : DataW.trod enc Tryd.prog W 0 (fun _ => true) true m 46 (([y0, y1, y2, y3].drop 0).take (Tryd.prog.cellsOf 46)) = some x0 := hel 0 _ rfl
      have e1 : DataW.trod enc Tryd.prog W 0 (fun _ => true) true m 3 (([y0, y1, y2, y3].drop 1).take (Tryd.prog.cellsOf 3)) = some x1 := hel 1 _ rfl
      have e2 : DataW.trod enc Tryd.prog W 0 (fun _ => true) true m 3 (([y0, y1, y2, y3].drop 2).take (Tryd.prog.cellsOf 3)) = some x2 := hel 2 _ rfl
      have e3 : DataW.trod enc Tryd.prog W 0 (fun _ => true) true m 2 (([y0, y1, y2, y3].drop 3).take (Tryd.prog.cellsOf 2)) = some x3 := hel 3 _ rfl
      rw [c46] at e0
      rw [c3] at e1 e2
      rw [c2] at e3
      obtain ⟨z0, a0, _⟩ := DataW.trod_int Tryd.underlying46 e0
      obtain ⟨z1, a1, _⟩ := DataW.trod_int Tryd.underlying3 e1
      obtain ⟨z2, a2, _⟩ := DataW.trod_int Tryd.underlying3 e2
      obtain ⟨z3, a3, _⟩ := DataW.trod_int Tryd.underlying2 e3
      simp at a0 a1 a2 a3
      exact ⟨⟨z0, z1, z2, z3⟩, by rw [a0, a1, a2, a3]; rfl, trivial⟩
theorem i64_ints {a : Option Addr} {l : List Int} (h : ∀ i, i < l.length → ∃ b off, a = some ⟨b, off, none⟩ ∧ b < W.heap.size ∧ W.cell? ⟨b, off + i, none⟩ = some (.int .i64 (l.getD i 0))) : Ints W a l := fun i hi => by
  obtain ⟨b, off, h1, _, h2⟩ := h i hi
  exact ⟨b, off, h1, h2⟩
set_option maxRecDepth 100000 in
theorem code_one (n : Nat) (cs : List Value) (x : DataW H × List MemPlace) (h : DataW.trod enc Tryd.prog W 0 (fun _ => true) true n 51 cs = some x) (hL : Lgt 51 x.1) : ∃ y : CodeM, cs = codeC y ∧ CodeOk W y ∧ CodeW W.heap.size y := by
  obtain ⟨xs, m, _, hx, hlen, hl, hel⟩ := DataW.trod_struct Tryd.underlying51 h
  rw [hx] at hL
  have c51 : Tryd.prog.cellsOf 51 = 4 := by kernel_rfl
  have c48 : Tryd.prog.cellsOf 48 = 4 := by kernel_rfl
  have c9 : Tryd.prog.cellsOf 9 = 1 := by kernel_rfl
  have c3 : Tryd.prog.cellsOf 3 = 1 := by kernel_rfl
  have c49 : Tryd.prog.cellsOf 49 = 1 := by kernel_rfl
  have c23 : Tryd.prog.cellsOf 23 = 1 := by kernel_rfl
  have b48 : 0 < Tryd.prog.bytesOf 48 := of_decide_eq_true (by kernel_rfl)
  have b3 : 0 < Tryd.prog.bytesOf 3 := of_decide_eq_true (by kernel_rfl)
  rw [c51] at hlen
  match cs, hlen with
  | [y0, y1, y2, y3], _ =>
    match xs, hl with
    | [x0, x1, x2, x3], _ =>
      have e0 : DataW.trod enc Tryd.prog W 0 (fun _ => true) true m 9 (([y0, y1, y2, y3].drop 0).take (Tryd.prog.cellsOf 9)) = some x0 := hel 0 _ rfl
      have e1 : DataW.trod enc Tryd.prog W 0 (fun _ => true) true m 3 (([y0, y1, y2, y3].drop 1).take (Tryd.prog.cellsOf 3)) = some x1 := hel 1 _ rfl
      have e2 : DataW.trod enc Tryd.prog W 0 (fun _ => true) true m 49 (([y0, y1, y2, y3].drop 2).take (Tryd.prog.cellsOf 49)) = some x2 := hel 2 _ rfl
      have e3 : DataW.trod enc Tryd.prog W 0 (fun _ => true) true m 23 (([y0, y1, y2, y3].drop 3).take (Tryd.prog.cellsOf 23)) = some x3 := hel 3 _ rfl
      have l2 : Lgt 49 x2.1 := lgt_struct Tryd.underlying51 hL (i := 2) rfl rfl
      have l3 : Lgt 23 x3.1 := lgt_struct Tryd.underlying51 hL (i := 3) rfl rfl
      rw [c9] at e0
      rw [c3] at e1
      rw [c49] at e2
      rw [c23] at e3
      obtain ⟨s, a0, _, hs⟩ := DataW.trod_string Tryd.underlying9 e0
      obtain ⟨z1, a1, _⟩ := DataW.trod_int Tryd.underlying3 e1
      obtain ⟨ia, is, icap, a2, hi1, hi2, hi3⟩ := four_in default insC Tryd.underlying49 c48 b48 (fun _ => True) ins_one e2 l2
      obtain ⟨la, ls, lcap, a3, hl1, hl2, _, hl3⟩ := nums_in Tryd.underlying23 Tryd.underlying3 c3 b3 e3 l3
      simp at a0 a1
      refine ⟨⟨s, z1, ia, icap, is, la, lcap, ls⟩, by rw [a0, a1, a2, a3]; rfl, ⟨hs, fun i hi => ?_, i64_ints hl3, hi2, hl2⟩, fun a ha => ?_, hl1⟩
      · obtain ⟨b, off, h1, _, _, u0, u1, u2, u3, hu, k0, k1, k2, k3⟩ := hi3 i hi
        simp only [insC, List.cons.injEq, and_true] at hu
        obtain ⟨rfl, rfl, rfl, rfl⟩ := hu
        exact ⟨b, off, h1, k0, k1, k2, k3⟩
      · have ha' : nz is.length ia = some a := ha
        unfold nz at ha'
        split at ha'
        · cases ha'
        · obtain ⟨b, off, h1, h2, _⟩ := hi3 0 (by omega)
          rw [h1] at ha'
          obtain rfl := Option.some.inj ha'
          exact h2
theorem cds_in {a : Option Addr} {l : List CodeM} (h : ∀ i, i < l.length → ∃ b off, a = some ⟨b, off, none⟩ ∧ b < W.heap.size ∧ (CodeOk W (l.getD i default) ∧ CodeW W.heap.size (l.getD i default)) ∧ ∃ y0 y1 y2 y3, codeC (l.getD i default) = [y0, y1, y2, y3] ∧ W.cell? ⟨b, off + i * 4, none⟩ = some y0 ∧ W.cell? ⟨b, off + i * 4 + 1, none⟩ = some y1 ∧ W.cell? ⟨b, off + i * 4 + 2, none⟩ = some y2 ∧ W.cell? ⟨b, off + i * 4 + 3, none⟩ = some y3) : Cds W a l ∧ ∀ c ∈ l, CodeW W.heap.size c := by
  refine ⟨fun i hi => ?_, fun c hc => ?_⟩
  · obtain ⟨b, off, h1, _, ⟨hq, _⟩, u0, u1, u2, u3, hu, k0, k1, k2, k3⟩ := h i hi
    generalize l.getD i default = c at *
    obtain ⟨nm, lo, ia, icap, is, la, lcap, ls⟩ := c
    simp only [codeC, List.cons.injEq, and_true] at hu
    obtain ⟨rfl, rfl, rfl, rfl⟩ := hu
    exact ⟨b, off, h1, k0, k1, k2, k3, hq⟩
  · obtain ⟨i, hi, rfl⟩ := List.mem_iff_getElem.1 hc
    obtain ⟨b, off, h1, _, ⟨_, hq⟩, _⟩ := h i hi
    rwa [List.getD_eq_getElem?_getD, List.getElem?_eq_getElem hi] at hq
set_option maxRecDepth 100000 in
/-- A module. -/
theorem mod_in {base : Nat} {p : List MemPlace} {d : DataW H} {v : Value} (hv : Value.okWide Tryd.prog W .any base 27 v)
    (h : DataW.Trod enc Tryd.prog W 0 (fun _ => true) true 27 v d p) (hL : Lgt 27 d) : ∃ m : ModM, v = .agg m.cells ∧ ModOk W m ∧ ∀ c ∈ m.threads, CodeW W.heap.size c := by
  simp only [Value.okWide, Tryd.underlying27] at hv
  obtain ⟨cs, rfl, _⟩ := hv
  obtain ⟨fuel, h⟩ := h
  simp only [Value.cells] at h
  obtain ⟨l⟩ := cs
  obtain ⟨xs, m, _, hx, hlen, hl, hel⟩ := DataW.trod_struct Tryd.underlying27 h
  obtain rfl := (Prod.mk.inj hx).1
  have c27 : Tryd.prog.cellsOf 27 = 6 := by kernel_rfl
  have c22 : Tryd.prog.cellsOf 22 = 1 := by kernel_rfl
  have c23 : Tryd.prog.cellsOf 23 = 1 := by kernel_rfl
  have c25 : Tryd.prog.cellsOf 25 = 1 := by kernel_rfl
  have c51 : Tryd.prog.cellsOf 51 = 4 := by kernel_rfl
  have c3 : Tryd.prog.cellsOf 3 = 1 := by kernel_rfl
  have c2 : Tryd.prog.cellsOf 2 = 1 := by kernel_rfl
  have b51 : 0 < Tryd.prog.bytesOf 51 := of_decide_eq_true (by kernel_rfl)
  have b3 : 0 < Tryd.prog.bytesOf 3 := of_decide_eq_true (by kernel_rfl)
  have b2 : 0 < Tryd.prog.bytesOf 2 := of_decide_eq_true (by kernel_rfl)
  rw [c27] at hlen
  match l, hlen with
  | [y0, y1, y2, y3, y4, y5], _ =>
    match xs, hl with
    | [x0, x1, x2, x3, x4, x5], _ =>
      have e0 : DataW.trod enc Tryd.prog W 0 (fun _ => true) true m 22 (([y0, y1, y2, y3, y4, y5].drop 0).take (Tryd.prog.cellsOf 22)) = some x0 := hel 0 _ rfl
      have e1 : DataW.trod enc Tryd.prog W 0 (fun _ => true) true m 23 (([y0, y1, y2, y3, y4, y5].drop 1).take (Tryd.prog.cellsOf 23)) = some x1 := hel 1 _ rfl
      have e2 : DataW.trod enc Tryd.prog W 0 (fun _ => true) true m 23 (([y0, y1, y2, y3, y4, y5].drop 2).take (Tryd.prog.cellsOf 23)) = some x2 := hel 2 _ rfl
      have e3 : DataW.trod enc Tryd.prog W 0 (fun _ => true) true m 3 (([y0, y1, y2, y3, y4, y5].drop 3).take (Tryd.prog.cellsOf 3)) = some x3 := hel 3 _ rfl
      have e4 : DataW.trod enc Tryd.prog W 0 (fun _ => true) true m 3 (([y0, y1, y2, y3, y4, y5].drop 4).take (Tryd.prog.cellsOf 3)) = some x4 := hel 4 _ rfl
      have e5 : DataW.trod enc Tryd.prog W 0 (fun _ => true) true m 25 (([y0, y1, y2, y3, y4, y5].drop 5).take (Tryd.prog.cellsOf 25)) = some x5 := hel 5 _ rfl
      have l0 : Lgt 22 x0.1 := lgt_struct Tryd.underlying27 hL (i := 0) rfl rfl
      have l1 : Lgt 23 x1.1 := lgt_struct Tryd.underlying27 hL (i := 1) rfl rfl
      have l2 : Lgt 23 x2.1 := lgt_struct Tryd.underlying27 hL (i := 2) rfl rfl
      have l5 : Lgt 25 x5.1 := lgt_struct Tryd.underlying27 hL (i := 5) rfl rfl
      rw [c22] at e0
      rw [c23] at e1 e2
      rw [c3] at e3 e4
      rw [c25] at e5
      obtain ⟨va, vs, vcap, a0, _, v2, _, v3⟩ := nums_in Tryd.underlying22 Tryd.underlying2 c2 b2 (show DataW.trod enc Tryd.prog W 0 (fun _ => true) true m 22 [y0] = some x0 from e0) l0
      obtain ⟨aa, us, acap, a1, _, u2, _, u3⟩ := nums_in Tryd.underlying23 Tryd.underlying3 c3 b3 (show DataW.trod enc Tryd.prog W 0 (fun _ => true) true m 23 [y1] = some x1 from e1) l1
      obtain ⟨ca, ks, ccap, a2, _, w2, _, w3⟩ := nums_in Tryd.underlying23 Tryd.underlying3 c3 b3 (show DataW.trod enc Tryd.prog W 0 (fun _ => true) true m 23 [y2] = some x2 from e2) l2
      obtain ⟨mu, a3, _⟩ := DataW.trod_int Tryd.underlying3 e3
      obtain ⟨co, a4, _⟩ := DataW.trod_int Tryd.underlying3 e4
      obtain ⟨ta, ts, tcap, a5, _, t2, t3⟩ := four_in default codeC Tryd.underlying25 c51 b51 (fun y => CodeOk W y ∧ CodeW W.heap.size y) code_one (show DataW.trod enc Tryd.prog W 0 (fun _ => true) true m 25 [y5] = some x5 from e5) l5
      simp at a3 a4
      obtain ⟨g1, g2⟩ := cds_in t3
      exact ⟨⟨va, vcap, vs, aa, acap, us, ca, ccap, ks, mu, co, ta, tcap, ts⟩, by rw [a0, a1, a2, a3, a4, a5]; rfl, ⟨i64_ints v3, i64_ints u3, i64_ints w3, g1, v2, u2, w2, t2⟩, g2⟩
set_option maxRecDepth 100000 in
/-- Bytes. -/
theorem bytes_in {p : List MemPlace} {d : DataW H} {v : Value} (h : DataW.Trod enc Tryd.prog W 0 (fun _ => true) true 28 v d p) (hL : Lgt 28 d) {a : Option Addr} {len cap : Nat} (hv : v = .slice a len cap) : ∃ l : List Nat, l.length = len ∧ Bys W a l ∧ Smb l := by
  subst hv
  obtain ⟨fuel, h⟩ := h
  have c5 : Tryd.prog.cellsOf 5 = 1 := by kernel_rfl
  have b5 : 0 < Tryd.prog.bytesOf 5 := of_decide_eq_true (by kernel_rfl)
  obtain ⟨a', l, cap', e, _, _, hw, h3⟩ := nums_in Tryd.underlying28 Tryd.underlying5 c5 b5 (show DataW.trod enc Tryd.prog W 0 (fun _ => true) true fuel 28 [.slice a len cap] = some (d, p) from h) hL
  obtain ⟨rfl, rfl, rfl⟩ := Value.slice.inj e
  have hb : ∀ y ∈ l, 0 ≤ y ∧ y < 256 := fun y hy => by
    have := hw y hy
    simp only [Lit.wf, IntKind.min, IntKind.max, IntKind.signed, IntKind.bits] at this
    simp at this
    omega
  refine ⟨l.map Int.toNat, by simp, fun i hi => ?_, fun x hx => ?_⟩
  · rw [List.length_map] at hi
    obtain ⟨b, off, h1, _, h2⟩ := h3 i hi
    refine ⟨b, off, h1, ?_⟩
    rw [h2]
    have := hb (l.getD i 0) (by rw [List.getD_eq_getElem?_getD, List.getElem?_eq_getElem hi]; exact List.getElem_mem hi)
    congr 2
    simp only [List.getD_eq_getElem?_getD, List.getElem?_map, List.getElem?_eq_getElem hi, Option.map_some, Option.getD_some] at this ⊢
    omega
  · obtain ⟨y, hy, rfl⟩ := List.mem_map.1 hx
    have := hb y hy
    omega
end Go.Proofs.YtjbinejaagpleaaDoor
