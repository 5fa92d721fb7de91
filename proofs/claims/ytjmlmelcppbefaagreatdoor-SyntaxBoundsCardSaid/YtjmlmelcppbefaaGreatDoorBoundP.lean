/- The longest text, and one byte more, read: plain. No condition. -/
import Derived.Test.YtjmlmelcppbefaaGreatDoorU1
namespace Go.Proofs.YtjmlmelcppbefaaGreatDoor
open Go.RowKit

def kwMutex : ByteArray := ⟨#[109, 117, 116, 101, 120]⟩
def idM : ByteArray := ⟨#[109]⟩
def mutexB : List UInt8 := [109, 117, 116, 101, 120, 32, 109, 59]
theorem lx_mutex (n : Nat) : Lx (mutexB ++ List.replicate n 32) [tkK kwMutex, tkN idM, tkS sSemi] := by
  have h0 : Lx (List.replicate n 32) [] := .nil fun c hc => by rw [List.eq_of_mem_replicate hc]; decide
  have h2 := ((lx_semi h0)).wd (w := [109]) (u := tkN idM) (by simp) (by decide) (by kernel_rfl) rfl
  have h3 := (h2.bl (c := 32) (by decide)).wd (w := [109, 117, 116, 101, 120]) (u := tkK kwMutex) (by simp) (by decide) (by kernel_rfl) rfl
  simpa only [mutexB, List.cons_append, List.nil_append] using h3
theorem bounds_ok {s : ByteArray} {n : Nat} (hs : s.data.toList = mutexB ++ List.replicate n 32) (hz : s.size ≤ 65536) : (parseR s).2.2 = 0 ∧ (parseR s).1.length = 1 := by
  obtain ⟨T, hT, hm⟩ := (Lx.lexR (s := s) (by rw [hs]; exact lx_mutex n) hz)
  have hA := at_map hm
  have hlen : T.length = 3 := by
    have := congrArg List.length hm
    rw [List.length_map] at this
    rw [this]
    rfl
  obtain ⟨h1, h2, h3⟩ := AtT.cons (u := tkK kwMutex) hA
  obtain ⟨h4, h5, h6⟩ := h3.cons
  obtain ⟨h7, h8, _⟩ := h6.cons
  have e1 : deAt T 0 = 3 := by
    unfold deAt
    rw [show (fun k => decide (k ≠ 0) && isT T 0 (deW.getD k noB)) = fun k => decide (k ≠ 0) && ((decide ((3 : Int) = 3) || decide ((3 : Int) = 4)) && decide (kwMutex = deW.getD k noB)) from funext fun k => by rw [isT_of h1 h2]; rfl]
    decide +kernel
  have e2 : kindAt T (0 + 1) = 1 := by rw [kind_of h4 h5]; rfl
  have e4 : isT T (0 + 1 + 1) sSemi = true := by rw [isT_of h7 h8]; decide +kernel
  have hD : pD T 0 = some (.ok (mkDe 3 (plOf T 0) (T.getD (0 + 1) default).text 0 [], 3)) := by
    rw [pD, e1, if_neg (by decide), pName, if_pos e2, andT_ok, if_neg (by decide), if_neg (by decide), if_neg (by decide), want, e4, if_pos rfl, andT_ok]
    rfl
  have hDs : pDs T (T.length + 1) [] 0 = some (.ok ([mkDe 3 (plOf T 0) (T.getD (0 + 1) default).text 0 []], 3)) := by
    rw [pDs, if_pos (by omega), hD, andT_ok]
    rw [show ∀ acc i, pDs T T.length acc i = pDs T (2 + 1) acc i from fun _ _ => by rw [hlen], pDs, if_neg (by omega)]
    rfl
  unfold parseR
  rw [hT]
  simp only [if_true]
  rw [hDs]
  exact ⟨rfl, rfl⟩
theorem bounds_bad {s : ByteArray} (h : 65536 < s.size) : parseR s = ([], (0, 0), 3) := by
  have h2 : lexR s = ([], (0, 0), 3) := by unfold lexR; rw [if_pos h]
  unfold parseR
  rw [h2]
  rfl
end Go.Proofs.YtjmlmelcppbefaaGreatDoor
