/- What the syntax texts share, part 25. No condition. -/
import Derived.Deep.AppendLies
import Derived.OwnWalk
import Derived.Test.YtjmlmelcppbefaaGreatDoorT09
import Derived.Test.YtjmlmelcppbefaaGreatDoorT24
namespace Go.Proofs.YtjmlmelcppbefaaGreatDoor
open Go.RowKit Go.Maps
structure El (α : Type) where
 ty : TypeId
 sz : Nat
 L : (Nat → Prop) → World → List Value → α → Prop
 keep : ∀ {ok : Nat → Prop} {w w' : World} {cs : List Value} {x : α}, (∀ (b o : Nat) (v : Value), ok b → w.cellU ⟨b, o, none⟩ = some v → w'.cellU ⟨b, o, none⟩ = some v) → L ok w cs x → L ok w' cs x
 weak : ∀ {ok ok' : Nat → Prop} {w : World} {cs : List Value} {x : α}, (∀ b, ok b → ok' b) → L ok w cs x → L ok' w cs x
 cells : ∀ {ok : Nat → Prop} {w : World} {cs : List Value} {x : α}, L ok w cs x → cs.length = sz ∧ ∀ v ∈ cs, v.oneCell' = true
 bound : ∀ {ok : Nat → Prop} {w : World} {cs : List Value} {x : α}, L ok w cs x → L (fun c => ok c ∧ c < w.heap.size) w cs x
variable {α : Type}
structure Grow (E : El α) (B : Nat) (w : World) (v : Value) (l : List α) : Prop where
 own : ∃ cells : List (List Value), cells.length = l.length ∧ w.ownsRow B E.ty E.sz v l.length cells.flatten ∧
  ∀ (i : Nat) (cs : List Value) (x : α), cells[i]? = some cs → l[i]? = some x → E.L (fun c => (B ≤ c ∧ v.ownBlock ≠ some c) ∧ c < w.heap.size) w cs x
theorem Grow.nil (E : El α) (B : Nat) (w : World) : Grow E B w (.slice none 0 0) [] := ⟨[], rfl, World.ownsRow_nil _ _ _ _, fun i cs x h => by simp at h⟩
theorem Grow.keep {E : El α} {B : Nat} {w w' : World} {v : Value} {l : List α} (h : Grow E B w v l) (hk : ∀ c, c < w.heap.size → B ≤ c → w'.heap[c]? = w.heap[c]?) (hs : w.heap.size ≤ w'.heap.size) : Grow E B w' v l := by
 obtain ⟨cells, h1, h2, h3⟩ := h.own
 refine ⟨cells, h1, ⟨h2.1, ?_⟩, fun i cs x hc hx => ?_⟩
 ·rcases h2.2 with h4 | ⟨g, cap, cur, h4, h5, h6, h7⟩
  ·exact .inl h4
  ·exact .inr ⟨g, cap, cur, h4, h5, (hk g (Array.getElem?_eq_some_iff.1 h6).1 h5).trans h6, h7⟩
 ·refine E.weak (fun c hc => ⟨hc.1, Nat.lt_of_lt_of_le hc.2 hs⟩) (E.keep (fun b o v hb hv => ?_) (h3 i cs x hc hx))
  rw [← hv]
  simp [World.cellU, World.cell?, World.frozen?, hk b hb.2 hb.1.1]
theorem Grow.kp {E : El α} {B b sb : Nat} {w w' : World} {v : Value} {l : List α} (h : Grow E B w v l) (hk : Kp w w' b sb) (hb : b < B) (hs : sb < B) : Grow E B w' v l := h.keep (fun c hc hcB => hk.block c hc (by omega) (by omega)) hk.size
theorem Grow.below {E : El α} {B : Nat} {w w' : World} {v : Value} {l : List α} (h : Grow E B w v l) (hk : Below w.heap.size w w') : Grow E B w' v l := h.keep (fun c hc _ => hk.block c hc) hk.size
theorem Grow.drewN {E : El α} {B : Nat} {w : World} {v : Value} {l : List α} (h : Grow E B w v l) (n : Nat) : Grow E B (w.drewN n) v l := h.keep (fun _ _ _ => rfl) (Nat.le_refl _)
theorem Grow.form {E : El α} {B : Nat} {w : World} {v : Value} {l : List α} (h : Grow E B w v l) : ∃ (a : Option Addr) (cap : Nat), v = .slice a l.length cap ∧ Roomy l.length cap := by
 obtain ⟨cells, h1, h2, -⟩ := h.own
 rcases h2.2 with ⟨rfl, h4⟩ | ⟨g, cap, cur, rfl, -, -, h5, h6, -⟩
 ·exact ⟨none, 0, by rw [h4], by omega, by decide⟩
 ·exact ⟨_, cap, rfl, h5, h6⟩
theorem flatten_at {n : Nat} : ∀ (L : List (List Value)) (i t : Nat) (cs : List Value), (∀ c ∈ L, c.length = n) → L[i]? = some cs → t < n → L.flatten[i * n + t]? = cs[t]?
 | [], i, t, cs, _, h, _ => by simp at h
 | c :: L, 0, t, cs, hl, h, ht => by
  obtain rfl : c = cs := by simpa using h
  have := hl c (by simp)
  rw [List.flatten_cons, List.getElem?_append_left (by omega)]
  simp
 | c :: L, i + 1, t, cs, hl, h, ht => by
  have h1 := hl c (by simp)
  rw [List.flatten_cons, List.getElem?_append_right (by rw [h1, Nat.succ_mul]; omega), h1, show (i + 1) * n + t - n = i * n + t by rw [Nat.succ_mul]; omega]
  exact flatten_at L i t cs (fun d hd => hl d (by simp [hd])) (by simpa using h) ht
theorem Grow.at {E : El α} {B : Nat} {w : World} {a : Option Addr} {n cap : Nat} {l : List α} (h : Grow E B w (.slice a n cap) l) (j : Nat) (x : α) (hj : l[j]? = some x) :
  ∃ (b off : Nat) (cs : List Value), a = some ⟨b, off, none⟩ ∧ B ≤ b ∧ (∀ (t : Nat) (v : Value), cs[t]? = some v → w.cellU ⟨b, off + j * E.sz + t, none⟩ = some v) ∧ E.L (B ≤ ·) w cs x := by
 obtain ⟨cells, h1, h2, h3⟩ := h.own
 have hjl : j < l.length := (List.getElem?_eq_some_iff.1 hj).1
 obtain ⟨cs, hcs⟩ : ∃ cs, cells[j]? = some cs := ⟨_, List.getElem?_eq_getElem (by omega)⟩
 have hall : ∀ c ∈ cells, c.length = E.sz := fun c hc => by
  obtain ⟨i, hi, rfl⟩ := List.mem_iff_getElem.1 hc
  exact (E.cells (h3 i _ _ (List.getElem?_eq_getElem hi) (List.getElem?_eq_getElem (by omega)))).1
 have hL := h3 j cs x hcs hj
 rcases h2.2 with ⟨h4, h5⟩ | ⟨g, cap', cur, h4, h5, h6, -⟩
 ·omega
 ·cases h4
  refine ⟨g, 0, cs, rfl, h5, fun t v ht => ?_, E.weak (fun c hc => hc.1.1) hL⟩
  have htl : t < E.sz := by
   have := (List.getElem?_eq_some_iff.1 ht).1
   rw [(E.cells hL).1] at this
   exact this
  have := flatten_at cells j t cs hall hcs htl
  have h8 := h2.cells (g := g) rfl (j * E.sz + t) v (by rw [this]; exact ht)
  rw [Addr.add_mid] at h8
  refine World.cellU_mk (by simpa [Nat.add_assoc] using h8) ?_
  simp [World.frozen?, h6]
theorem wp_append_grow {o : Oper} {a : Act} {K : Act → World → Prop} {Q : Exit → Act → World → Prop} (E : El α) (s x : Operand) (t : TypeId)
  (ho : o.op = .call { callee := .builtin .append, args := #[s, x], argTypes := #[t, t] }) (i : TypeInfo) (z : Value) (bytes : Nat) (ht : Tryz.prog.underlying t = some (.slice E.ty)) (hi : Tryz.prog.info? E.ty = some i) (hz : i.zero = some z)
  (hsize : i.size = E.sz) (hby : i.bytes = bytes) (hzs : z.cells.size = E.sz) (hsz : 0 < E.sz) (hb4 : bytes ≤ 1024)
  (B : Nat) (w W : World) (v : Value) (l : List α) (hs : a.eval s = v) (hG : Hid (Grow E B w v l)) (cs : List Value) (e : α) (hL : Hid (E.L (fun c => B ≤ c ∧ v.ownBlock ≠ some c) w cs e)) (hW : W = w.alloc (.cells cs.toArray E.ty))
  (hx : a.eval x = .slice (some ⟨w.heap.size, 0, none⟩) 1 1) (hlen : l.length ≤ 10000000) (hB : B ≤ w.heap.size)
  (h : ∀ g cap w', Hid (Grow E B w' (.slice (some ⟨g, 0, none⟩) (l.length + 1) cap) (l ++ [e])) → Hid (Below B w w') → w.heap.size < w'.heap.size → K (a.put o.dst (.slice (some ⟨g, 0, none⟩) (l.length + 1) cap)) w') : o.wp Tryz.prog a W K Q := by
 subst hW
 obtain ⟨cells, h1, h2, h3⟩ := hG.out
 have hc := E.cells hL.out
 have hvl := h2.lt
 refine wp_append_lies (w.alloc (.cells cs.toArray E.ty)) s x t ho B E.ty i z E.sz bytes ht hi hz hsize hby hzs hsz v l.length cells.flatten hs (h2.alloc _) ⟨w.heap.size, 0, none⟩ 1 1 cs hx (by rw [hc.1, Nat.one_mul]) (fun j u hu => ?_) hc.2 (by decide) (by unfold maxLen; omega) ?_ (by simp; omega) _ rfl ?_
 ·have hn := World.alloc_heap_new w (.cells cs.toArray E.ty)
  rw [Addr.add_mid]
  simp only [World.cell?, hn]
  simpa using hu
 ·calc (l.length + 1) * bytes ≤ 10000001 * 1024 := Nat.mul_le_mul (by omega) hb4
   _ ≤ 140737488355328 := by decide
 ·intro g cap w' ho' hg' hl' hlt'
  have hsz2 : (w.alloc (.cells cs.toArray E.ty)).heap.size = w.heap.size + 1 := by simp
  have hwsz := hg'.size
  rw [hsz2] at hwsz hl'
  have hblk : ∀ c, c < w.heap.size → v.ownBlock ≠ some c → w'.heap[c]? = w.heap[c]? := fun c hc1 hc2 =>
   (hg'.block c (by omega) (fun e => hc2 e.symm)).trans ((World.grownBy_alloc w _ none).block c hc1 (by simp))
  refine h g cap w' (Lib.hid ⟨cells ++ [cs], by simp [h1], ?_, ?_⟩) (Lib.hid ⟨hg'.os.trans rfl, hg'.tape.trans rfl, hg'.output.trans rfl, by omega, fun k hk => hblk k (by omega) (fun e => by have := (hvl k e).1; omega)⟩) (by omega)
  ·simpa using ho'
  ·intro j ds y hd hy
   have hkeep : ∀ (d : List Value) (u : α), E.L (fun c => (B ≤ c ∧ v.ownBlock ≠ some c) ∧ c < w.heap.size) w d u → E.L (fun c => (B ≤ c ∧ (Value.slice (some ⟨g, 0, none⟩) (l.length + 1) cap).ownBlock ≠ some c) ∧ c < w'.heap.size) w' d u := fun d u hu =>
    E.weak (fun c hc => ⟨⟨hc.1.1, fun e => by
     have e2 : g = c := by simpa [Value.ownBlock] using e
     subst e2
     rcases hl' with h5 | h5
     ·exact hc.1.2 h5
     ·omega⟩, by omega⟩) (E.keep (fun b o v hb hv => by
      rw [← hv]
      simp [World.cellU, World.cell?, World.frozen?, hblk b hb.2 hb.1.2]) hu)
   rcases Nat.lt_or_ge j l.length with hj | hj
   ·rw [List.getElem?_append_left (by omega)] at hd hy
    exact hkeep _ _ (h3 j ds y hd hy)
   ·have hjl : j < l.length + 1 := by
     have := (List.getElem?_eq_some_iff.1 hy).1
     simpa using this
    obtain rfl : j = l.length := by omega
    have hd2 : ds = cs := by
     rw [List.getElem?_append_right (by omega), h1] at hd
     simpa using hd.symm
    have hy2 : y = e := by
     rw [List.getElem?_append_right (Nat.le_refl _)] at hy
     simpa using hy.symm
    subst hd2
    subst hy2
    refine hkeep _ _ (E.weak (fun c hc => hc) (E.bound hL.out))
theorem wpList_append_grow {ops : Array Oper} {rest : List Oper} {o : Oper} {a : Act} {Q : Exit → Act → World → Prop} (E : El α) (hgd : o.guard = none) (s x : Operand) (t : TypeId)
  (ho : o.op = .call { callee := .builtin .append, args := #[s, x], argTypes := #[t, t] }) (i : TypeInfo) (z : Value) (bytes : Nat) (ht : Tryz.prog.underlying t = some (.slice E.ty)) (hi : Tryz.prog.info? E.ty = some i) (hz : i.zero = some z)
  (hsize : i.size = E.sz) (hby : i.bytes = bytes) (hzs : z.cells.size = E.sz) (hsz : 0 < E.sz) (hb4 : bytes ≤ 1024)
  (B : Nat) (w W : World) (v : Value) (l : List α) (hs : a.eval s = v) (hG : Hid (Grow E B w v l)) (cs : List Value) (e : α) (hL : Hid (E.L (fun c => B ≤ c ∧ v.ownBlock ≠ some c) w cs e)) (hW : W = w.alloc (.cells cs.toArray E.ty))
  (hx : a.eval x = .slice (some ⟨w.heap.size, 0, none⟩) 1 1) (hlen : l.length ≤ 10000000) (hB : B ≤ w.heap.size)
  (h : ∀ g cap w', Hid (Grow E B w' (.slice (some ⟨g, 0, none⟩) (l.length + 1) cap) (l ++ [e])) → Hid (Below B w w') → w.heap.size < w'.heap.size → wpList Tryz.prog ops Q rest (a.put o.dst (.slice (some ⟨g, 0, none⟩) (l.length + 1) cap)) w') : wpList Tryz.prog ops Q (o :: rest) a W :=
 wpList_plain hgd fun _ hK => wp_append_grow E s x t ho i z bytes ht hi hz hsize hby hzs hsz hb4 B w W v l hs hG cs e hL hW hx hlen hB fun g cap w' h1 h2 h3 => hK _ _ (h g cap w' h1 h2 h3)
theorem step_append_grow {ops : Array Oper} {o : Oper} {a : Act} {K : Act → World → Prop} {Q : Exit → Act → World → Prop} {E0 : Prop} (E : El α) (hgd : o.guard = none) (s x : Operand) (t : TypeId)
  (ho : o.op = .call { callee := .builtin .append, args := #[s, x], argTypes := #[t, t] }) (i : TypeInfo) (z : Value) (bytes : Nat) (ht : Tryz.prog.underlying t = some (.slice E.ty)) (hi : Tryz.prog.info? E.ty = some i) (hz : i.zero = some z)
  (hsize : i.size = E.sz) (hby : i.bytes = bytes) (hzs : z.cells.size = E.sz) (hsz : 0 < E.sz) (hb4 : bytes ≤ 1024)
  (B : Nat) (w W : World) (v : Value) (l : List α) (hs : a.eval s = v) (hG : Hid (Grow E B w v l)) (cs : List Value) (e : α) (hL : Hid (E.L (fun c => B ≤ c ∧ v.ownBlock ≠ some c) w cs e)) (hW : W = w.alloc (.cells cs.toArray E.ty))
  (hx : a.eval x = .slice (some ⟨w.heap.size, 0, none⟩) 1 1) (hlen : l.length ≤ 10000000) (hB : B ≤ w.heap.size)
  (h : ∀ g cap w', Hid (Grow E B w' (.slice (some ⟨g, 0, none⟩) (l.length + 1) cap) (l ++ [e])) → Hid (Below B w w') → w.heap.size < w'.heap.size → K (a.put o.dst (.slice (some ⟨g, 0, none⟩) (l.length + 1) cap)) w') : if Region.wanted o (yielded ops a.tmps) = true then Oper.wp Tryz.prog o a W K Q else E0 := by
 have hw : Region.wanted o (yielded ops a.tmps) = true := by simp [Region.wanted, hgd]
 rw [if_pos hw]
 exact wp_append_grow E s x t ho i z bytes ht hi hz hsize hby hzs hsz hb4 B w W v l hs hG cs e hL hW hx hlen hB h
end Go.Proofs.YtjmlmelcppbefaaGreatDoor
namespace Go.Proofs.YtjmlmelcppbefaaGreatDoor
open Go.RowKit Go.Maps
mutual
theorem StL.bound {ok : Nat → Prop} {w : World} : ∀ {cs : List Value} {s : St}, StL ok w cs s → StL (fun c => ok c ∧ c < w.heap.size) w cs s
 | cs, .mk k l c s t x y body els id sl ot lo, h => by
  unfold StL at h ⊢
  obtain ⟨cx, cy, a, a', cap, cap', h1, h2, h3, h4, h5, h6, h7⟩ := h
  exact ⟨cx, cy, a, a', cap, cap', h1, h2.bound, h3.bound, h4, StsL.bound h5, h6, StsL.bound h7⟩
theorem StsL.bound {ok : Nat → Prop} {w : World} : ∀ {a : Option Addr} {i : Nat} {l : List St}, StsL ok w a i l → StsL (fun c => ok c ∧ c < w.heap.size) w a i l
 | _, _, [], _ => by unfold StsL; trivial
 | a, i, e :: r, h => by
  unfold StsL at h ⊢
  obtain ⟨⟨b, off, cs, h1, h2, h3, h4⟩, h5⟩ := h
  have hb : b < w.heap.size := by
   have hl := h4.cells.1
   exact World.block_lt_of_cellU w (h3 0 _ (List.getElem?_eq_getElem (by omega)))
  exact ⟨⟨b, off, cs, h1, ⟨h2, hb⟩, h3, StL.bound h4⟩, StsL.bound h5⟩
end
theorem DeL.bound {ok : Nat → Prop} {w : World} {cs : List Value} {d : De} (h : DeL ok w cs d) : DeL (fun c => ok c ∧ c < w.heap.size) w cs d := by
 obtain ⟨a, cap, h1, h2, h3⟩ := h
 exact ⟨a, cap, h1, h2, h3.bound⟩
theorem DeL.cells {ok : Nat → Prop} {w : World} {cs : List Value} {d : De} (h : DeL ok w cs d) : cs.length = 6 ∧ ∀ v ∈ cs, v.oneCell' = true := by
 obtain ⟨a, cap, rfl, -⟩ := h
 refine ⟨rfl, fun v hv => ?_⟩
 simp only [List.mem_cons, List.not_mem_nil, or_false] at hv
 rcases hv with rfl | rfl | rfl | rfl | rfl | rfl <;> rfl
def elSt : El St := ⟨64, 25, StL, fun h1 h2 => StL.keep h1 h2, fun h1 h2 => StL.weak h1 h2, fun h => h.cells, fun h => h.bound⟩
def elDe : El De := ⟨55, 6, DeL, fun h1 h2 => DeL.keep h1 h2, fun h1 h2 => DeL.weak h1 h2, fun h => h.cells, fun h => h.bound⟩
theorem Grow.sts {B : Nat} {w : World} {a : Option Addr} {n cap : Nat} {l : List St} (h : Grow elSt B w (.slice a n cap) l) : StsL (B ≤ ·) w a 0 l := by
 refine StsL.mk fun j hj => ?_
 obtain ⟨b, off, cs, h1, h2, h3, h4⟩ := h.at j (l.getD j default) (by rw [List.getD_eq_getElem?_getD, List.getElem?_eq_getElem hj]; rfl)
 exact ⟨b, off, cs, h1, h2, by simpa [elSt] using h3, h4⟩
theorem Grow.des {B : Nat} {w : World} {a : Option Addr} {n cap : Nat} {l : List De} (h : Grow elDe B w (.slice a n cap) l) : DesL (B ≤ ·) w a l := fun j hj => by
 obtain ⟨b, off, cs, h1, h2, h3, h4⟩ := h.at j (l.getD j default) (by rw [List.getD_eq_getElem?_getD, List.getElem?_eq_getElem hj]; rfl)
 exact ⟨b, off, cs, h1, h2, by simpa [elDe] using h3, h4⟩
theorem fold_set : ∀ (cs : List Value) (n : Nat) (Z : List Value), n + cs.length ≤ Z.length → List.foldl (fun (a : Array Value) (x : Value × Nat) => a.setIfInBounds x.2 x.1) Z.toArray (cs.zipIdx n) = (Z.take n ++ (cs ++ Z.drop (n + cs.length))).toArray
 | [], n, Z, _ => by simp
 | c :: cs, n, Z, h => by
  have hn : n < Z.length := by simp at h; omega
  have h2 := fold_set cs (n + 1) (Z.set n c) (by simp at h ⊢; omega)
  rw [List.zipIdx_cons, List.foldl_cons]
  simp only [List.setIfInBounds_toArray]
  rw [h2]
  congr 1
  have e1 : (Z.set n c).take (n + 1) = Z.take n ++ [c] := by
   rw [List.take_succ_eq_append_getElem (by simpa using hn)]
   simp [List.take_set_of_le]
  have e2 : (Z.set n c).drop (n + 1 + cs.length) = Z.drop (n + (c :: cs).length) := by
   rw [List.drop_set_of_lt (by omega)]
   congr 1
   simp
   omega
  rw [e1, e2]
  simp
theorem fold_cells (Z : Array Value) (cs : List Value) (h : Z.size = cs.length) : List.foldl (fun (a : Array Value) (x : Value × Nat) => a.setIfInBounds x.2 x.1) Z cs.zipIdx = cs.toArray := by
 have := fold_set cs 0 Z.toList (by simp [h])
 rw [List.drop_eq_nil_of_le (by simp [h])] at this
 simpa using this
def zSt : Array Value := #[.int .i64 0, .int .i64 0, .int .i64 0, .string ⟨#[]⟩, .string ⟨#[]⟩, .int .i64 0, .int .i64 0, .string ⟨#[]⟩, .int .i64 0, .bool false, .int .i64 0, .slice none 0 0, .int .i64 0, .int .i64 0, .string ⟨#[]⟩, .int .i64 0, .bool false, .int .i64 0, .slice none 0 0, .slice none 0 0, .slice none 0 0, .int .i64 0, .int .i64 0, .int .i64 0, .bool false]
theorem info_el {T : TypeId} {n : Nat} (h : (Tryz.prog.info? T).map (fun i => (i.zero.map (fun z => z.cells.size), i.size, decide (i.bytes ≤ 1024))) = some (some n, n, true)) : ∃ i z, Tryz.prog.info? T = some i ∧ i.zero = some z ∧ i.size = n ∧ z.cells.size = n ∧ i.bytes ≤ 1024 := by
 obtain ⟨i, hi, h2⟩ := Option.map_eq_some_iff.1 h
 simp only [Prod.mk.injEq, decide_eq_true_eq] at h2
 obtain ⟨h3, h4, h5⟩ := h2
 obtain ⟨z, hz, h6⟩ := Option.map_eq_some_iff.1 h3
 exact ⟨i, z, hi, hz, h4, h6, h5⟩
theorem infoSt : (Tryz.prog.info? 64).map (fun i => (i.zero.map (fun z => z.cells.size), i.size, decide (i.bytes ≤ 1024))) = some (some 25, 25, true) := by kernel_rfl
theorem infoDe : (Tryz.prog.info? 55).map (fun i => (i.zero.map (fun z => z.cells.size), i.size, decide (i.bytes ≤ 1024))) = some (some 6, 6, true) := by kernel_rfl
end Go.Proofs.YtjmlmelcppbefaaGreatDoor
namespace Go.Proofs.YtjmlmelcppbefaaGreatDoor
open Go.RowKit Go.Maps
theorem Kp.to {w w1 w2 : World} {a b B : Nat} (h : Kp w w1 a b) (h2 : Below B w1 w2) (hB : w.heap.size ≤ B) : Kp w w2 a b :=
 ⟨h2.os.trans h.os, h2.tape.trans h.tape, h2.output.trans h.output, Nat.le_trans h.size h2.size, fun k hk h3 h4 => (h2.block k (by omega)).trans (h.block k hk h3 h4)⟩
theorem Rw.to {w w1 w2 : World} {b k j : Nat} {S : Src} (h : Rw w b S k) (h1 : Rw w1 b S j) (hK : Kp w w1 b b) (h2 : Below w.heap.size w1 w2) : Rw w2 b S j :=
 h.fin h1 (hK.to h2 (Nat.le_refl _)) (h2.block b h.lt)
set_option maxRecDepth 100000 in
set_option maxHeartbeats 8000000 in
theorem block_step {b : Nat} {S : Src} {f : Nat} (hb0 : b ≠ 0) (hS : ∀ g, g ≤ f → CS b S g) : CB b S (f + 1) := by
 intro w k R h hO hkd hR
 rw [pB] at hR
 obtain ⟨i0, z0, hi0, hz0, hsz0, hzc0, hby0⟩ := info_el infoSt
 have hbw := h.lt
 have HH := Lib.hid h
 go_enter Tryz.func75, Tryz.ntmps75
 go_wp2_with fail
 rcases hx : want S.T sBlO k with _ | (j | ⟨u, j⟩)
 ·rw [hx] at hR
  cases hR
 ·rw [hx] at hR
  cases hR
  exact (want_any h sBlO hx).mono fun e W1 h1 => by
   obtain ⟨hk, rfl⟩ := h1
   exact ⟨rfl, hk, rfl⟩
 rw [hx, andT_ok] at hR
 refine (want_any h sBlO hx).mono ?_
 rintro e W1 ⟨hk1, rfl, h1⟩
 have HR := Lib.hid hR
 have HE := Lib.hid (And.intro h1 hk1)
 clear hR h1 hk1 hx h
 go_wp2_with fail
 go_loopg [3] f (fun x v wr => ∃ (g : Nat) (acc : List St) (i : Nat), x = g ∧ acc.length ≤ i ∧ g ≤ f ∧ Hid (pSs S.T g acc i = some R) ∧ Hid (Grow elSt w.heap.size wr v acc) ∧ Hid (Rw wr b S i ∧ Kp w wr b b))
 case atStart => exact ⟨f, [], j, rfl, by simp, Nat.le_refl _, HR, Lib.hid (Grow.nil _ _ _), HE⟩
 case round =>
  clear HR HE
  obtain ⟨g0, acc, i, hgk, hai, hgf, HR, HG, HE⟩ := hrel
  obtain ⟨g, rfl⟩ : ∃ g', g0 = g' + 1 := by
   cases g0 with
   | zero => exact absurd HR.out (by rw [pSs_zero]; simp)
   | succ g => exact ⟨g, rfl⟩
  subst hgk
  have hR := HR.out
  rw [pSs] at hR
  obtain ⟨a, cap, rfl, hcap⟩ := HG.out.form
  obtain ⟨h1, hK1⟩ := HE.out
  go_wp2_with fail
  refine (accept_any h1 sBlS).mono ?_
  rintro e W2 ⟨hk2, rfl, h2⟩
  have hK2 := hK1.trans hk2
  have HG2 := Lib.hid (HG.out.kp hk2 hbw hbw)
  have hs1 := hK1.size
  have hs2 := hk2.size
  obtain ⟨m, hm⟩ : ∃ m, isT S.T i sBlS = m := ⟨_, rfl⟩
  rw [hm] at hR h2
  rw [hm]
  clear hm hk2 h1 hK1 HE HG HR
  cases m
  ·rw [if_neg Bool.false_ne_true] at hR h2
   go_wp2_with fail
   have hO2 := hO.kp hK2 hb0
   have hkd2 := hkd.kp hK2 (Nat.le_refl _)
   rcases hx : pS S.T g i with _ | (j2 | ⟨st, j2⟩)
   ·rw [hx] at hR
    cases hR
   ·rw [hx] at hR
    cases hR
    refine (hS g (by omega) W2 i _ h2 hO2 hkd2 hx).mono ?_
    rintro e W3 ⟨hk3, rfl⟩
    exact ⟨rfl, hK2.trans hk3, rfl⟩
   ·rw [hx, andT_ok] at hR
    refine (hS g (by omega) W2 i _ h2 hO2 hkd2 hx).mono ?_
    rintro e W3 ⟨hk3, ⟨cs, rfl, hL⟩, h3⟩
    have hadv := (pS_adv S.T g).2.2 i st j2 h2.le hx
    have hmx := h2.mx
    have hK3 := hK2.trans hk3
    have hG3 := Lib.hid (HG2.out.kp hk3 hbw hbw)
    have hs3 := hk3.size
    have hl := hL.cells.1
    have hbk : (Value.slice a acc.length cap).ownBlock = none ∨ ∃ g, (Value.slice a acc.length cap).ownBlock = some g ∧ g < W2.heap.size := by
     obtain ⟨cells, -, h5, -⟩ := HG2.out.own
     rcases ho : (Value.slice a acc.length cap).ownBlock with _ | g
     ·exact .inl rfl
     ·exact .inr ⟨g, rfl, (h5.lt g ho).2⟩
    have HL := Lib.hid (show elSt.L (fun c => w.heap.size ≤ c ∧ (Value.slice a acc.length cap).ownBlock ≠ some c) W3 cs st from StL.weak (fun c hc => by
     have hc2 : W2.heap.size ≤ c := hc
     refine ⟨by omega, fun e => ?_⟩
     rcases hbk with h6 | ⟨g, h6, h7⟩
     ·rw [h6] at e
      cases e
     ·rw [h6] at e
      cases e
      omega) hL)
    have HE := Lib.hid (And.intro h3 hK3)
    have HR := Lib.hid hR
    have hst := fold_cells zSt cs (by rw [hl]; rfl)
    unfold zSt at hst
    clear hL h3 hK3 hk3 hR hx hbk HG2 h2 hK2 hO2 hkd2
    have ht53 : Tryz.prog.underlying 53 = some (.slice 64) := by kernel_rfl
    have hacc : acc.length ≤ 10000000 := by omega
    have hwB : w.heap.size ≤ W3.heap.size := by omega
    have HB := Lib.hid (And.intro hai hadv.1)
    go_wp2_with (at_builtin; refine wpList_append_grow elSt rfl (.tmp 13) (.tmp 16) 53 rfl i0 z0 _ ht53 hi0 hz0 hsz0 rfl hzc0 (by decide) hby0 w.heap.size W3 _ (.slice a acc.length cap) acc rfl hG3 cs st HL rfl rfl hacc hwB ?_; intro gb gcap W4 hG4 hW4 hlt4)
    go_roundg g
    case measure => omega
    case rel =>
     obtain ⟨h3, hK3⟩ := HE.out
     have hb4 : Below w.heap.size W3 W4 := hW4.out
     have := HB.out
     exact ⟨g, acc ++ [st], j2, rfl, by simp; omega, by omega, HR, hG4, Lib.hid (And.intro (HH.out.to h3 hK3 hb4) (hK3.to hb4 (Nat.le_refl _)))⟩
  ·rw [if_pos rfl] at hR h2
   cases hR
   go_wp2_with fail
   go_ret
   exact ⟨hK2, ⟨a, cap, rfl, hcap, HG2.out.sts⟩, h2⟩
end Go.Proofs.YtjmlmelcppbefaaGreatDoor
