/- The trees of a row's arguments, out of what the row says of them. No condition. -/
import Derived.Test.YtjmlmelcppbefaaGreatDoorT10
import Derived.Test.YtjmlmelcppbefaaGreatDoorT47
namespace Go.Proofs.YtjmlmelcppbefaaGreatDoor
open Go.ChangeShapes Go.WideShapes Go.ChangeAt Go.RowKit
theorem list_of {α : Type} (d : α) {P : Nat → α → Prop} : ∀ n : Nat, (∀ i, i < n → ∃ x, P i x) → ∃ l : List α, l.length = n ∧ ∀ i, i < n → P i (l.getD i d)
  | 0, _ => ⟨[], rfl, fun i h => absurd h (Nat.not_lt_zero i)⟩
  | n + 1, h => by
    obtain ⟨l, hl, hp⟩ := list_of d (P := P) n (fun i hi => h i (by omega))
    obtain ⟨x, hx⟩ := h n (by omega)
    refine ⟨l ++ [x], by simp [hl], fun i hi => ?_⟩
    by_cases hin : i < n
    · have := hp i hin
      rw [List.getD_eq_getElem?_getD] at this ⊢
      rwa [List.getElem?_append_left (by omega)]
    · obtain rfl : i = n := by omega
      rw [List.getD_eq_getElem?_getD, List.getElem?_append_right (by omega), hl]
      simpa using hx
theorem addr_add (b off k : Nat) : (⟨b, off, none⟩ : Addr).add k = ⟨b, off + k, none⟩ := by unfold Addr.add; split <;> simp_all
variable {H : Type} {enc : TypeId × Value → H} {W : World}
theorem none_mem {ps : List MemPlace} {xs : List (DataW H × List MemPlace)} {y : DataW H × List MemPlace} (hf : W.noneFrozen ps) (hp : ps = xs.flatMap (·.2)) (hy : y ∈ xs) : W.noneFrozen y.2 := fun b o h => hf b o (by rw [hp]; exact List.mem_flatMap.2 ⟨y, hy, h⟩)
theorem slice_of {α : Type} (d : α) (P : List Value → α → Prop) {t e k : Nat} (ht : Tryz.prog.underlying t = some (.slice e)) (hs : Tryz.prog.cellsOf e = k) (hk : 0 < k) {n : Nat} {v : Value} {x : DataW H × List MemPlace}
    (ih : ∀ m, m < n → ∀ (cs : List Value) (x : DataW H × List MemPlace), DataW.trod enc Tryz.prog W 0 (fun _ => true) true m e cs = some x → W.noneFrozen x.2 → ∃ y, P cs y) (hf : W.noneFrozen x.2) (h : DataW.trod enc Tryz.prog W 0 (fun _ => true) true n t [v] = some x) :
    ∃ (a : Option Addr) (l : List α) (cap : Nat), v = .slice a l.length cap ∧ Roomy l.length cap ∧ ∀ j, j < l.length → ∃ (b off : Nat) (cs : List Value), a = some ⟨b, off, none⟩ ∧ b < W.heap.size ∧ (∀ (i : Nat) (u : Value), cs[i]? = some u → W.cellU ⟨b, off + j * k + i, none⟩ = some u) ∧ P cs (l.getD j d) := by
  rcases DataW.trod_slice ht h with ⟨hcs, _⟩ | ⟨a', len', cap', elems, rest, m, hm, hcs, hx, _, hle, hmx, hlen, hel, _⟩
  · obtain rfl : v = .slice none 0 0 := by simpa using hcs
    exact ⟨none, [], 0, rfl, ⟨Nat.le_refl _, Nat.zero_le _⟩, fun j hj => by cases hj⟩
  · obtain rfl : v = .slice (some a') len' cap' := by simpa using hcs
    rw [hs] at hel
    have hel' : ∀ i, i < len' → ∃ y : α, ∃ cs : List Value, cs.length = k ∧ (∀ r, r < k → W.cell? ((a'.add (i * k)).add r) = cs[r]?) ∧ P cs y := by
      intro i hi
      have hE := hel i hi
      have hfi : W.noneFrozen (elems[i]'(by omega)).2 := fun b o h => hf b o (by rw [hx]; exact List.mem_append_right _ (List.mem_flatMap.2 ⟨_, List.mem_append_left _ (List.getElem_mem _), h⟩))
      rw [List.getElem?_eq_getElem (by omega)] at hE
      obtain ⟨c, hc, htr⟩ := Option.bind_eq_some_iff.1 hE
      obtain ⟨-, h1, h2⟩ := World.cells?_some hc
      obtain ⟨y, hy⟩ := ih m (by omega) _ _ htr hfi
      exact ⟨y, c, h1, h2, hy⟩
    obtain ⟨l, rfl, hp⟩ := list_of d len' hel'
    refine ⟨some a', l, cap', rfl, ⟨hle, hmx⟩, fun j hj => ?_⟩
    obtain ⟨b, off, spot⟩ := a'
    obtain ⟨cs0, hl0, hc0, _⟩ := hp 0 (by omega)
    have hspot : spot = none := by
      have h0 := hc0 0 hk
      rw [List.getElem?_eq_getElem (by omega)] at h0
      simpa [Addr.add] using World.cell?_spot h0
    subst hspot
    clear hc0
    obtain ⟨cs, h1, h2, h3⟩ := hp j hj
    simp only [addr_add] at h2
    have hb : b < W.heap.size := by
      have h0 := h2 0 hk
      rw [List.getElem?_eq_getElem (by omega)] at h0
      exact World.block_lt_of_cell? W _ h0
    refine ⟨b, off, cs, rfl, hb, fun i u hu => ?_, h3⟩
    have hi : i < k := by
      obtain ⟨hi, -⟩ := List.getElem?_eq_some_iff.1 hu
      omega
    refine World.cellU_mk (by rw [h2 i hi, hu]) (hf b _ ?_)
    rw [hx, hs]
    refine List.mem_append_left _ (List.mem_map.2 ⟨j * k + i, List.mem_range.2 ?_, by simp only [Nat.add_assoc]⟩)
    rw [hlen, Nat.add_mul]
    have : (j + 1) * k ≤ l.length * k := Nat.mul_le_mul_right k hj
    rw [Nat.add_mul, Nat.one_mul] at this
    omega
theorem nbs_mk : ∀ {l : List Ex}, (∀ j, j < l.length → (l.getD j zEx).nb) → Ex.nbs l
  | [], _ => by unfold Ex.nbs; trivial
  | x :: r, h => by
    unfold Ex.nbs
    exact ⟨h 0 (by simp), nbs_mk fun j hj => by have := h (j + 1) (by simpa using hj); simpa using this⟩
theorem snbs_mk : ∀ {l : List St}, (∀ j, j < l.length → (l.getD j default).nb) → St.nbs l
  | [], _ => by unfold St.nbs; trivial
  | x :: r, h => by
    unfold St.nbs
    exact ⟨h 0 (by simp), snbs_mk fun j hj => by have := h (j + 1) (by simpa using hj); simpa using this⟩
def ExIn (W : World) (cs : List Value) (e : Ex) : Prop := ExL (· < W.heap.size) W cs e ∧ e.nb
def StIn (W : World) (cs : List Value) (s : St) : Prop := StL (· < W.heap.size) W cs s ∧ s.nb
def DeIn (W : World) (cs : List Value) (d : De) : Prop := DeL (· < W.heap.size) W cs d ∧ d.nb
set_option maxRecDepth 100000 in
theorem ex_in : ∀ (N n : Nat) (cs : List Value) (x : DataW H × List MemPlace), n ≤ N → W.noneFrozen x.2 → DataW.trod enc Tryz.prog W 0 (fun _ => true) true n 46 cs = some x → ∃ e, ExIn W cs e
  | N, n, cs, x, hn, hf, h => by
    obtain ⟨xs, m, hm, hxx, hlen, hl, hel⟩ := DataW.trod_struct Tryz.underlying46 h
    have c46 : Tryz.prog.cellsOf 46 = 7 := by kernel_rfl
    have c42 : Tryz.prog.cellsOf 42 = 1 := by kernel_rfl
    have c2 : Tryz.prog.cellsOf 2 = 1 := by kernel_rfl
    have c9 : Tryz.prog.cellsOf 9 = 1 := by kernel_rfl
    have c3 : Tryz.prog.cellsOf 3 = 1 := by kernel_rfl
    have c4 : Tryz.prog.cellsOf 4 = 1 := by kernel_rfl
    have c43 : Tryz.prog.cellsOf 43 = 1 := by kernel_rfl
    have c44 : Tryz.prog.cellsOf 44 = 1 := by kernel_rfl
    rw [c46] at hlen
    match N, cs, hlen with
    | 0, _, _ => exact absurd hn (by omega)
    | N + 1, [y0, y1, y2, y3, y4, y5, y6], _ =>
      match xs, hl with
      | [x0, x1, x2, x3, x4, x5, x6], _ =>
        have e0 : DataW.trod enc Tryz.prog W 0 (fun _ => true) true m 42 (([y0, y1, y2, y3, y4, y5, y6].drop 0).take (Tryz.prog.cellsOf 42)) = some x0 := hel 0 _ rfl
        have e1 : DataW.trod enc Tryz.prog W 0 (fun _ => true) true m 2 (([y0, y1, y2, y3, y4, y5, y6].drop 1).take (Tryz.prog.cellsOf 2)) = some x1 := hel 1 _ rfl
        have e2 : DataW.trod enc Tryz.prog W 0 (fun _ => true) true m 9 (([y0, y1, y2, y3, y4, y5, y6].drop 2).take (Tryz.prog.cellsOf 9)) = some x2 := hel 2 _ rfl
        have e3 : DataW.trod enc Tryz.prog W 0 (fun _ => true) true m 3 (([y0, y1, y2, y3, y4, y5, y6].drop 3).take (Tryz.prog.cellsOf 3)) = some x3 := hel 3 _ rfl
        have e4 : DataW.trod enc Tryz.prog W 0 (fun _ => true) true m 4 (([y0, y1, y2, y3, y4, y5, y6].drop 4).take (Tryz.prog.cellsOf 4)) = some x4 := hel 4 _ rfl
        have e5 : DataW.trod enc Tryz.prog W 0 (fun _ => true) true m 43 (([y0, y1, y2, y3, y4, y5, y6].drop 5).take (Tryz.prog.cellsOf 43)) = some x5 := hel 5 _ rfl
        have e6 : DataW.trod enc Tryz.prog W 0 (fun _ => true) true m 44 (([y0, y1, y2, y3, y4, y5, y6].drop 6).take (Tryz.prog.cellsOf 44)) = some x6 := hel 6 _ rfl
        rw [c42] at e0
        rw [c2] at e1
        rw [c9] at e2
        rw [c3] at e3
        rw [c4] at e4
        rw [c43] at e5
        rw [c44] at e6
        obtain ⟨k, a0, -, -⟩ := DataW.trod_int Tryz.underlying42 e0
        obtain ⟨z, a1, -, -⟩ := DataW.trod_int Tryz.underlying2 e1
        obtain ⟨s, a2, -, hs⟩ := DataW.trod_string Tryz.underlying9 e2
        obtain ⟨sl, a3, -, -⟩ := DataW.trod_int Tryz.underlying3 e3
        obtain ⟨lo, a4, -⟩ := DataW.trod_bool Tryz.underlying4 e4
        obtain ⟨o, a5, -, -⟩ := DataW.trod_int Tryz.underlying43 e5
        simp at a0 a1 a2 a3 a4 a5
        obtain ⟨a, l, cap, a6, hroom, hels⟩ := slice_of zEx (ExIn W) Tryz.underlying44 c46 (by decide) (fun m' hm' cs' x' h' hf' => ex_in N m' cs' x' (by omega) hf' h') (none_mem hf (by rw [hxx]) (y := x6) (by simp)) (show DataW.trod enc Tryz.prog W 0 (fun _ => true) true m 44 [y6] = some x6 from e6)
        refine ⟨.mk k z s sl lo o l, ?_, ?_⟩
        · unfold ExL
          refine ⟨a, cap, by rw [a0, a1, a2, a3, a4, a5, a6], hroom, ExsL.mk fun j hj => ?_⟩
          obtain ⟨b, off, cs', h1, h2, h3, h4⟩ := hels j hj
          exact ⟨b, off, cs', h1, h2, fun t u hu => by rw [Nat.zero_add]; exact h3 t u hu, h4.1⟩
        · unfold Ex.nb
          exact ⟨hs, nbs_mk fun j hj => by obtain ⟨_, _, _, _, _, _, h4⟩ := hels j hj; exact h4.2⟩
  termination_by N => N
set_option maxRecDepth 100000 in
theorem st_in : ∀ (N n : Nat) (cs : List Value) (x : DataW H × List MemPlace), n ≤ N → W.noneFrozen x.2 → DataW.trod enc Tryz.prog W 0 (fun _ => true) true n 64 cs = some x → ∃ s, StIn W cs s
  | N, n, cs, x, hn, hf, h => by
    obtain ⟨xs, m, hm, hxx, hlen, hl, hel⟩ := DataW.trod_struct Tryz.underlying64 h
    have c64 : Tryz.prog.cellsOf 64 = 25 := by kernel_rfl
    have c62 : Tryz.prog.cellsOf 62 = 1 := by kernel_rfl
    have c25 : Tryz.prog.cellsOf 25 = 2 := by kernel_rfl
    have c9 : Tryz.prog.cellsOf 9 = 1 := by kernel_rfl
    have c46 : Tryz.prog.cellsOf 46 = 7 := by kernel_rfl
    have c53 : Tryz.prog.cellsOf 53 = 1 := by kernel_rfl
    have c3 : Tryz.prog.cellsOf 3 = 1 := by kernel_rfl
    have c4 : Tryz.prog.cellsOf 4 = 1 := by kernel_rfl
    rw [c64] at hlen
    match N, cs, hlen with
    | 0, _, _ => exact absurd hn (by omega)
    | N + 1, [y0, y1, y2, y3, y4, u0, u1, u2, u3, u4, u5, u6, v0, v1, v2, v3, v4, v5, v6, y7, y8, y9, y10, y11, y12], _ =>
      match xs, hl with
      | [x0, x1, x2, x3, x4, x5, x6, x7, x8, x9, x10, x11], _ =>
        generalize hcs : [y0, y1, y2, y3, y4, u0, u1, u2, u3, u4, u5, u6, v0, v1, v2, v3, v4, v5, v6, y7, y8, y9, y10, y11, y12] = cs at hel
        have e0 : DataW.trod enc Tryz.prog W 0 (fun _ => true) true m 62 ((cs.drop 0).take (Tryz.prog.cellsOf 62)) = some x0 := hel 0 _ rfl
        have e1 : DataW.trod enc Tryz.prog W 0 (fun _ => true) true m 25 ((cs.drop 1).take (Tryz.prog.cellsOf 25)) = some x1 := hel 1 _ rfl
        have e2 : DataW.trod enc Tryz.prog W 0 (fun _ => true) true m 9 ((cs.drop 3).take (Tryz.prog.cellsOf 9)) = some x2 := hel 2 _ rfl
        have e3 : DataW.trod enc Tryz.prog W 0 (fun _ => true) true m 9 ((cs.drop 4).take (Tryz.prog.cellsOf 9)) = some x3 := hel 3 _ rfl
        have e4 : DataW.trod enc Tryz.prog W 0 (fun _ => true) true m 46 ((cs.drop 5).take (Tryz.prog.cellsOf 46)) = some x4 := hel 4 _ rfl
        have e5 : DataW.trod enc Tryz.prog W 0 (fun _ => true) true m 46 ((cs.drop 12).take (Tryz.prog.cellsOf 46)) = some x5 := hel 5 _ rfl
        have e6 : DataW.trod enc Tryz.prog W 0 (fun _ => true) true m 53 ((cs.drop 19).take (Tryz.prog.cellsOf 53)) = some x6 := hel 6 _ rfl
        have e7 : DataW.trod enc Tryz.prog W 0 (fun _ => true) true m 53 ((cs.drop 20).take (Tryz.prog.cellsOf 53)) = some x7 := hel 7 _ rfl
        have e8 : DataW.trod enc Tryz.prog W 0 (fun _ => true) true m 3 ((cs.drop 21).take (Tryz.prog.cellsOf 3)) = some x8 := hel 8 _ rfl
        have e9 : DataW.trod enc Tryz.prog W 0 (fun _ => true) true m 3 ((cs.drop 22).take (Tryz.prog.cellsOf 3)) = some x9 := hel 9 _ rfl
        have e10 : DataW.trod enc Tryz.prog W 0 (fun _ => true) true m 3 ((cs.drop 23).take (Tryz.prog.cellsOf 3)) = some x10 := hel 10 _ rfl
        have e11 : DataW.trod enc Tryz.prog W 0 (fun _ => true) true m 4 ((cs.drop 24).take (Tryz.prog.cellsOf 4)) = some x11 := hel 11 _ rfl
        subst hcs
        rw [c62] at e0
        rw [c25] at e1
        rw [c9] at e2 e3
        rw [c46] at e4 e5
        rw [c53] at e6 e7
        rw [c3] at e8 e9 e10
        rw [c4] at e11
        obtain ⟨k, a0, -, -⟩ := DataW.trod_int Tryz.underlying62 e0
        obtain ⟨ps, q, -, -, -, pl, pel⟩ := DataW.trod_struct Tryz.underlying25 e1
        match ps, pl with
        | [p0, p1], _ =>
          have f0 : DataW.trod enc Tryz.prog W 0 (fun _ => true) true q 3 (([y1, y2].drop 0).take (Tryz.prog.cellsOf 3)) = some p0 := pel 0 _ rfl
          have f1 : DataW.trod enc Tryz.prog W 0 (fun _ => true) true q 3 (([y1, y2].drop 1).take (Tryz.prog.cellsOf 3)) = some p1 := pel 1 _ rfl
          rw [c3] at f0 f1
          obtain ⟨pl, b0, -, -⟩ := DataW.trod_int Tryz.underlying3 f0
          obtain ⟨pc, b1, -, -⟩ := DataW.trod_int Tryz.underlying3 f1
          obtain ⟨s, a2, -, hs⟩ := DataW.trod_string Tryz.underlying9 e2
          obtain ⟨t, a3, -, ht⟩ := DataW.trod_string Tryz.underlying9 e3
          obtain ⟨ex, hx⟩ := ex_in m m [u0, u1, u2, u3, u4, u5, u6] x4 (Nat.le_refl _) (none_mem hf (by rw [hxx]) (y := x4) (by simp)) e4
          obtain ⟨ey, hy⟩ := ex_in m m [v0, v1, v2, v3, v4, v5, v6] x5 (Nat.le_refl _) (none_mem hf (by rw [hxx]) (y := x5) (by simp)) e5
          obtain ⟨id, a8, -, -⟩ := DataW.trod_int Tryz.underlying3 e8
          obtain ⟨sl, a9, -, -⟩ := DataW.trod_int Tryz.underlying3 e9
          obtain ⟨ot, a10, -, -⟩ := DataW.trod_int Tryz.underlying3 e10
          obtain ⟨lo, a11, -⟩ := DataW.trod_bool Tryz.underlying4 e11
          simp at a0 b0 b1 a2 a3 a8 a9 a10 a11
          obtain ⟨ba, bl, bcap, a6, broom, bels⟩ := slice_of (default : St) (StIn W) Tryz.underlying53 c64 (by decide) (fun m' hm' cs' x' h' hf' => st_in N m' cs' x' (by omega) hf' h') (none_mem hf (by rw [hxx]) (y := x6) (by simp)) (show DataW.trod enc Tryz.prog W 0 (fun _ => true) true m 53 [y7] = some x6 from e6)
          obtain ⟨ca, cl, ccap, a7, croom, cels⟩ := slice_of (default : St) (StIn W) Tryz.underlying53 c64 (by decide) (fun m' hm' cs' x' h' hf' => st_in N m' cs' x' (by omega) hf' h') (none_mem hf (by rw [hxx]) (y := x7) (by simp)) (show DataW.trod enc Tryz.prog W 0 (fun _ => true) true m 53 [y8] = some x7 from e7)
          refine ⟨.mk k pl pc s t ex ey bl cl id sl ot lo, ?_, ?_⟩
          · unfold StL
            refine ⟨_, _, ba, ca, bcap, ccap, by rw [a0, b0, b1, a2, a3, a6, a7, a8, a9, a10, a11]; rfl, hx.1, hy.1, broom, StsL.mk fun j hj => ?_, croom, StsL.mk fun j hj => ?_⟩
            · obtain ⟨b, off, cs', h1, h2, h3, h4⟩ := bels j hj
              exact ⟨b, off, cs', h1, h2, fun t u hu => by rw [Nat.zero_add]; exact h3 t u hu, h4.1⟩
            · obtain ⟨b, off, cs', h1, h2, h3, h4⟩ := cels j hj
              exact ⟨b, off, cs', h1, h2, fun t u hu => by rw [Nat.zero_add]; exact h3 t u hu, h4.1⟩
          · unfold St.nb
            exact ⟨hs, ht, hx.2, hy.2, snbs_mk fun j hj => by obtain ⟨_, _, _, _, _, _, h4⟩ := bels j hj; exact h4.2, snbs_mk fun j hj => by obtain ⟨_, _, _, _, _, _, h4⟩ := cels j hj; exact h4.2⟩
  termination_by N => N
set_option maxRecDepth 100000 in
theorem de_in (n : Nat) (cs : List Value) (x : DataW H × List MemPlace) (hf : W.noneFrozen x.2) (h : DataW.trod enc Tryz.prog W 0 (fun _ => true) true n 55 cs = some x) : ∃ d, DeIn W cs d := by
  obtain ⟨xs, m, hm, hxx, hlen, hl, hel⟩ := DataW.trod_struct Tryz.underlying55 h
  have c55 : Tryz.prog.cellsOf 55 = 6 := by kernel_rfl
  have c64 : Tryz.prog.cellsOf 64 = 25 := by kernel_rfl
  have c52 : Tryz.prog.cellsOf 52 = 1 := by kernel_rfl
  have c25 : Tryz.prog.cellsOf 25 = 2 := by kernel_rfl
  have c9 : Tryz.prog.cellsOf 9 = 1 := by kernel_rfl
  have c2 : Tryz.prog.cellsOf 2 = 1 := by kernel_rfl
  have c3 : Tryz.prog.cellsOf 3 = 1 := by kernel_rfl
  have c53 : Tryz.prog.cellsOf 53 = 1 := by kernel_rfl
  rw [c55] at hlen
  match cs, hlen with
  | [y0, y1, y2, y3, y4, y5], _ =>
    match xs, hl with
    | [x0, x1, x2, x3, x4], _ =>
      have e0 : DataW.trod enc Tryz.prog W 0 (fun _ => true) true m 52 (([y0, y1, y2, y3, y4, y5].drop 0).take (Tryz.prog.cellsOf 52)) = some x0 := hel 0 _ rfl
      have e1 : DataW.trod enc Tryz.prog W 0 (fun _ => true) true m 25 (([y0, y1, y2, y3, y4, y5].drop 1).take (Tryz.prog.cellsOf 25)) = some x1 := hel 1 _ rfl
      have e2 : DataW.trod enc Tryz.prog W 0 (fun _ => true) true m 9 (([y0, y1, y2, y3, y4, y5].drop 3).take (Tryz.prog.cellsOf 9)) = some x2 := hel 2 _ rfl
      have e3 : DataW.trod enc Tryz.prog W 0 (fun _ => true) true m 2 (([y0, y1, y2, y3, y4, y5].drop 4).take (Tryz.prog.cellsOf 2)) = some x3 := hel 3 _ rfl
      have e4 : DataW.trod enc Tryz.prog W 0 (fun _ => true) true m 53 (([y0, y1, y2, y3, y4, y5].drop 5).take (Tryz.prog.cellsOf 53)) = some x4 := hel 4 _ rfl
      rw [c52] at e0
      rw [c25] at e1
      rw [c9] at e2
      rw [c2] at e3
      rw [c53] at e4
      obtain ⟨k, a0, -, -⟩ := DataW.trod_int Tryz.underlying52 e0
      obtain ⟨ps, q, -, -, -, pl, pel⟩ := DataW.trod_struct Tryz.underlying25 e1
      match ps, pl with
      | [p0, p1], _ =>
        have f0 : DataW.trod enc Tryz.prog W 0 (fun _ => true) true q 3 (([y1, y2].drop 0).take (Tryz.prog.cellsOf 3)) = some p0 := pel 0 _ rfl
        have f1 : DataW.trod enc Tryz.prog W 0 (fun _ => true) true q 3 (([y1, y2].drop 1).take (Tryz.prog.cellsOf 3)) = some p1 := pel 1 _ rfl
        rw [c3] at f0 f1
        obtain ⟨pl, b0, -, -⟩ := DataW.trod_int Tryz.underlying3 f0
        obtain ⟨pc, b1, -, -⟩ := DataW.trod_int Tryz.underlying3 f1
        obtain ⟨s, a2, -, hs⟩ := DataW.trod_string Tryz.underlying9 e2
        obtain ⟨z, a3, -, -⟩ := DataW.trod_int Tryz.underlying2 e3
        simp at a0 b0 b1 a2 a3
        obtain ⟨ba, bl, bcap, a5, broom, bels⟩ := slice_of (default : St) (StIn W) Tryz.underlying53 c64 (by decide) (fun m' _ cs' x' h' hf' => st_in m' m' cs' x' (Nat.le_refl _) hf' h') (none_mem hf (by rw [hxx]) (y := x4) (by simp)) (show DataW.trod enc Tryz.prog W 0 (fun _ => true) true m 53 [y5] = some x4 from e4)
        refine ⟨⟨k, pl, pc, s, z, bl⟩, ⟨ba, bcap, by rw [a0, b0, b1, a2, a3, a5], broom, StsL.mk fun j hj => ?_⟩, hs, snbs_mk fun j hj => ?_⟩
        · obtain ⟨b, off, cs', h1, h2, h3, h4⟩ := bels j hj
          exact ⟨b, off, cs', h1, h2, fun t u hu => by rw [Nat.zero_add]; exact h3 t u hu, h4.1⟩
        · obtain ⟨_, _, _, _, _, _, h4⟩ := bels j hj
          exact h4.2
theorem des_in {p : List MemPlace} {d : DataW H} {v : Value} (hf : W.noneFrozen p) (h : DataW.Trod enc Tryz.prog W 0 (fun _ => true) true 23 v d p) {a : Option Addr} {len cap : Nat} (hv : v = .slice a len cap) :
    ∃ l : List De, l.length = len ∧ Roomy len cap ∧ DesL (· < W.heap.size) W a l ∧ ∀ d ∈ l, d.nb := by
  subst hv
  obtain ⟨fuel, h⟩ := h
  have c55 : Tryz.prog.cellsOf 55 = 6 := by kernel_rfl
  obtain ⟨a', l, cap', e, hroom, hels⟩ := slice_of (default : De) (DeIn W) Tryz.underlying23 c55 (by decide) (fun m' _ cs' x' h' hf' => de_in m' cs' x' hf' h') hf (show DataW.trod enc Tryz.prog W 0 (fun _ => true) true fuel 23 [.slice a len cap] = some (d, p) from h)
  obtain ⟨rfl, rfl, rfl⟩ := Value.slice.inj e
  refine ⟨l, rfl, hroom, fun j hj => ?_, fun d hd => ?_⟩
  · obtain ⟨b, off, cs', h1, h2, h3, h4⟩ := hels j hj
    exact ⟨b, off, cs', h1, h2, h3, h4.1⟩
  · obtain ⟨j, hj, rfl⟩ := List.mem_iff_getElem.1 hd
    obtain ⟨_, _, _, _, _, _, h4⟩ := hels j hj
    rw [List.getD_eq_getElem?_getD, List.getElem?_eq_getElem hj] at h4
    exact h4.2
end Go.Proofs.YtjmlmelcppbefaaGreatDoor
