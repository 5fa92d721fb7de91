/- What lies in rows of its own lies. No condition. -/
import Derived.Test.YtjbinejaagpleaaDoorRcs
import Derived.Test.YtjbinejaagpleaaDoorChk
namespace Go.Proofs.YtjbinejaagpleaaDoor
open Go.RowKit

theorem flat4 {α : Type} (f : α → List Value) (d : α) (hf : ∀ x, (f x).length = 4) : ∀ (l : List α) (i t : Nat), i < l.length → t < 4 → (l.flatMap f)[i * 4 + t]? = (f (l.getD i d))[t]?
  | [], i, t, h, _ => by simp at h
  | x :: l, 0, t, _, ht => by
    rw [List.flatMap_cons, List.getElem?_append_left (by rw [hf]; omega)]
    simp
  | x :: l, i + 1, t, h, ht => by
    rw [List.flatMap_cons, List.getElem?_append_right (by rw [hf]; omega), hf, show (i + 1) * 4 + t - 4 = i * 4 + t by omega, flat4 f d hf l i t (by simpa using h) ht]
    simp
theorem ints_own {W : World} {B e n cap : Nat} {a : Option Addr} {l : List Int} (h : W.ownsRow B e 1 (.slice a n cap) l.length (i64s l)) : Ints W a l := by
  intro i hi
  obtain ⟨g, cap', hv, _, _⟩ := h.form (by omega)
  cases hv
  refine ⟨g, 0, rfl, ?_⟩
  have := h.cells (g := g) rfl i (.int .i64 (l.getD i 0)) (by simp [i64s, List.getD_eq_getElem?_getD, List.getElem?_eq_getElem hi])
  simpa [Addr.add_lit] using this
theorem inss_own {W : World} {B n cap : Nat} {a : Option Addr} {l : List InsP} (h : W.ownsRow B 48 4 (.slice a n cap) l.length (inss l)) : Inss W a l := by
  intro i hi
  obtain ⟨g, cap', hv, _, _⟩ := h.form (by omega)
  cases hv
  have hc : ∀ t v, t < 4 → (insC (l.getD i default))[t]? = some v → W.cell? ⟨g, 0 + i * 4 + t, none⟩ = some v := fun t v ht hv => by
    have := h.cells (g := g) rfl (i * 4 + t) v (by rw [inss, flat4 insC default (fun _ => rfl) l i t hi ht, hv])
    simpa [Addr.add_lit] using this
  exact ⟨g, 0, rfl, hc 0 _ (by decide) rfl, hc 1 _ (by decide) rfl, hc 2 _ (by decide) rfl, hc 3 _ (by decide) rfl⟩
theorem OwnC.ok {W : World} {B : Nat} {c : CodeM} (h : OwnC W B c) : CodeOk W c :=
  ⟨by have := h.nm; unfold maxLen; omega, inss_own h.ii, ints_own h.ll, by have := h.ib; omega, by have := h.lb; omega⟩
theorem cds_own {W : World} {B n cap : Nat} {a : Option Addr} {l : List CodeM} (h : W.ownsRow B 51 4 (.slice a n cap) l.length (l.flatMap codeC)) (hc : ∀ c ∈ l, OwnC W B c) : Cds W a l := by
  intro i hi
  obtain ⟨g, cap', hv, _, _⟩ := h.form (by omega)
  cases hv
  have hcl : ∀ t v, t < 4 → (codeC (l.getD i default))[t]? = some v → W.cell? ⟨g, 0 + i * 4 + t, none⟩ = some v := fun t v ht hv => by
    have := h.cells (g := g) rfl (i * 4 + t) v (by rw [flat4 codeC default (fun _ => rfl) l i t hi ht, hv])
    simpa [Addr.add_lit] using this
  exact ⟨g, 0, rfl, hcl 0 _ (by decide) rfl, hcl 1 _ (by decide) rfl, hcl 2 _ (by decide) rfl, hcl 3 _ (by decide) rfl, (hc _ (by rw [List.getD_eq_getElem?_getD, List.getElem?_eq_getElem hi]; exact List.getElem_mem hi)).ok⟩
/-- A module's lists lie in rows of their own. -/
structure OwnM (W : World) (B : Nat) (m : ModM) : Prop where
  vv : W.ownsRow B 2 1 (.slice m.va m.vars.length m.vcap) m.vars.length (i64s m.vars)
  av : W.ownsRow B 3 1 (.slice m.aa m.arrays.length m.acap) m.arrays.length (i64s m.arrays)
  cv : W.ownsRow B 3 1 (.slice m.ca m.chans.length m.ccap) m.chans.length (i64s m.chans)
  tv : W.ownsRow B 51 4 (.slice m.ta m.threads.length m.tcap) m.threads.length (m.threads.flatMap codeC)
  cs : ∀ c ∈ m.threads, OwnC W B c
  vb : m.vars.length ≤ 64
  ab : m.arrays.length ≤ 64
  cb : m.chans.length ≤ 64
  tb : m.threads.length ≤ 64
theorem OwnM.ok {W : World} {B : Nat} {m : ModM} (h : OwnM W B m) : ModOk W m :=
  ⟨ints_own h.vv, ints_own h.av, ints_own h.cv, cds_own h.tv h.cs, by have := h.vb; omega, by have := h.ab; omega, by have := h.cb; omega, by have := h.tb; omega⟩
theorem OwnM.below {W W' : World} {B : Nat} {m : ModM} (h : OwnM W B m) (hb : Below W.heap.size W W') : OwnM W' B m :=
  ⟨ownsRow_blw h.vv hb, ownsRow_blw h.av hb, ownsRow_blw h.cv hb, ownsRow_blw h.tv hb, fun c hc => (h.cs c hc).below hb, h.vb, h.ab, h.cb, h.tb⟩
theorem OwnM.base {W : World} {B B' : Nat} {m : ModM} (h : OwnM W B m) (hb : B' ≤ B) : OwnM W B' m :=
  ⟨ownsRow_base h.vv hb, ownsRow_base h.av hb, ownsRow_base h.cv hb, ownsRow_base h.tv hb, fun c hc => (h.cs c hc).base hb, h.vb, h.ab, h.cb, h.tb⟩
/-- A cell of a block below the rows is written. -/
theorem OwnM.set {W : World} {B p j : Nat} {u : Value} {m : ModM} (h : OwnM W B m) (hp : p < B) : OwnM (W.setCell ⟨p, j, none⟩ u) B m :=
  ⟨own_set1 h.vv hp, own_set1 h.av hp, own_set1 h.cv hp, own_set1 h.tv hp, fun c hc => ⟨own_set1 (h.cs c hc).ii hp, own_set1 (h.cs c hc).ll hp, (h.cs c hc).nm, (h.cs c hc).ib, (h.cs c hc).lb⟩, h.vb, h.ab, h.cb, h.tb⟩
end Go.Proofs.YtjbinejaagpleaaDoor
