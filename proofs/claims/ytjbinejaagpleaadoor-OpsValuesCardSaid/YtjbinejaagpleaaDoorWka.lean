/- The laws' common call: works: true. Asked: the tables of codes and of powers of ten. -/
import Derived.Test.YtjbinejaagpleaaDoorSom
import Derived.Test.YtjbinejaagpleaaDoorEnc
import Derived.Test.YtjbinejaagpleaaDoorDec
import Derived.Test.YtjbinejaagpleaaDoorRefC
import Derived.Test.YtjbinejaagpleaaDoorText
namespace Go.Proofs.YtjbinejaagpleaaDoor
open Go.RowKit

theorem num_any (n : Int) (w : World) : Calls Tryd.prog 9 #[.int .i64 n] w fun e w' => e = .returned (.int .i64 n) ∧ w = w' := by
  go_enter Tryd.func9, Tryd.ntmps9
  go_wp2
  go_ret
  exact ⟨rfl, rfl⟩
/-- Bytes in a row of their own lie. -/
theorem own_bytes {W : World} {B n : Nat} {v : Value} {L : List Nat} (h : W.ownsRow B 5 1 v n (u8s L)) (h0 : 0 < n) (hL : L.length = n) :
    ∃ g cap, v = .slice (some ⟨g, 0, none⟩) n cap ∧ B ≤ g ∧ g < W.heap.size ∧ n ≤ cap ∧ (∀ i, i < n → W.cell? ⟨g, 0 + i, none⟩ = some (.int .u8 ((L.getD i 0 : Nat) : Int))) ∧ ∃ cs, W.heap[g]? = some (.cells cs 5 (0, 0)) := by
  have hc := @World.ownsRow.cells _ _ _ _ _ _ _ h
  rcases h.2 with ⟨_, hn⟩ | ⟨g, cap, cur, rfl, hb, hg, hn, h5⟩
  · omega
  · refine ⟨g, cap, rfl, hb, (Array.getElem?_eq_some_iff.1 hg).1, hn, fun i hi => ?_, cur, hg⟩
    have := hc (g := g) rfl i (.int .u8 ((L.getD i 0 : Nat) : Int)) (by rw [u8s, List.getElem?_map, List.getElem?_eq_getElem (by omega), List.getD_eq_getElem?_getD, List.getElem?_eq_getElem (by omega)]; rfl)
    simpa [Addr.add_lit] using this
theorem OwnC.w {W : World} {B B' : Nat} {c : CodeM} (h : OwnC W B c) (hB : W.heap.size ≤ B') : CodeW B' c := by
  refine ⟨fun a ha => ?_, ?_⟩
  · replace ha : c.ia = some a := by
      unfold nz at ha
      split at ha
      · cases ha
      · exact ha
    rcases h.ii.2 with ⟨e, _⟩ | ⟨g, cap, cur, e, _, hg, _⟩
    · rw [ha] at e
      cases e
    · rw [ha] at e
      have : a = ⟨g, 0, none⟩ := by simpa using (Value.slice.inj e).1
      rw [this]
      exact Nat.lt_of_lt_of_le (Array.getElem?_eq_some_iff.1 hg).1 hB
  · rcases h.ll.2 with ⟨e, e0⟩ | ⟨g, cap, cur, e, _, hg, hn, _⟩
    · omega
    · have : c.lcap = cap := by simpa using (Value.slice.inj e).2.2
      omega
def bytesW : List Nat := sealB (modP someP)
theorem bytesW_len : bytesW.length = 36 := by kernel_rfl
theorem bytesW_6 : bytesW.getD 6 0 = 1 := by kernel_rfl
theorem bytesW_small : ∀ x ∈ bytesW, x < 256 := by
  have h : bytesW.all (· < 256) = true := by kernel_rfl
  intro x hx
  simpa using List.all_eq_true.1 h x hx
theorem someP_may : mMayP someP = true := by decide
theorem bytesW_sealed : sealed bytesW = true := sealed_seal (by rw [show (modP someP).length = 32 from by kernel_rfl]; omega)
theorem bytesW_rd : rdMod (bytesW.take (bytesW.length - 4)) = some someP := by
  unfold bytesW
  rw [seal_take]
  exact mod_fwd _ someP_may
theorem bytesW_set : sealed (bytesW.set 6 2) = false := sealed_set 6 2 (by rw [show (sealB (modP someP)).length = 36 from bytesW_len]; omega) (by omega) (by rw [show (sealB (modP someP)).getD 6 0 = 1 from bytesW_6]; omega) (by rw [show (sealB (modP someP)).getD 6 0 = 1 from bytesW_6]; omega)
end Go.Proofs.YtjbinejaagpleaaDoor
