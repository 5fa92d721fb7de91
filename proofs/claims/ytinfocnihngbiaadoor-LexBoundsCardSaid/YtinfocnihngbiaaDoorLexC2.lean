/- What Lex tells at the bounds: computed. No condition. -/
import Derived.Test.YtinfocnihngbiaaDoorLexC
import Derived.Test.YtinfocnihngbiaaDoorOneA
namespace Go.Proofs.YtinfocnihngbiaaDoor
open Go.RowKit

def sB1 : ByteArray := ⟨#[97, 98, 99, 100, 101, 102, 103, 104, 105, 106, 107, 108, 109, 110, 111, 112, 32, 50, 49, 52, 55, 52, 56, 51, 54, 52, 55]⟩
def sB2 : ByteArray := ⟨#[32, 97, 98, 99, 100, 101, 102, 103, 104, 105, 106, 107, 108, 109, 110, 111, 112, 113]⟩
def sB3 : ByteArray := ⟨#[50, 49, 52, 55, 52, 56, 51, 54, 52, 56]⟩
set_option maxRecDepth 100000 in
theorem lexB1 : lexR sB1 = ([⟨1, ⟨#[97, 98, 99, 100, 101, 102, 103, 104, 105, 106, 107, 108, 109, 110, 111, 112]⟩, 0, 1, 1⟩, ⟨2, ⟨#[50, 49, 52, 55, 52, 56, 51, 54, 52, 55]⟩, 2147483647, 1, 18⟩], (0, 0), 0) := lexR_of 40 (by decide) (by decide) (by kernel_rfl)
set_option maxRecDepth 100000 in
theorem lexB2 : lexR sB2 = ([], (1, 2), 111) := lexR_of 40 (by decide) (by decide) (by kernel_rfl)
set_option maxRecDepth 100000 in
theorem lexB3 : lexR sB3 = ([], (1, 1), 112) := lexR_of 40 (by decide) (by decide) (by kernel_rfl)
set_option maxRecDepth 100000 in
theorem lexK0 : lexR (⟨#[35, 10]⟩ ++ ⟨#[118, 97, 114]⟩) = ([⟨3, ⟨#[118, 97, 114]⟩, 0, 2, 1⟩], (0, 0), 0) := lexR_of 20 (by decide) (by decide) (by kernel_rfl)
set_option maxRecDepth 100000 in
theorem lexK1 : lexR (⟨#[35, 10]⟩ ++ ⟨#[97, 114, 114, 97, 121]⟩) = ([⟨3, ⟨#[97, 114, 114, 97, 121]⟩, 0, 2, 1⟩], (0, 0), 0) := lexR_of 20 (by decide) (by decide) (by kernel_rfl)
set_option maxRecDepth 100000 in
theorem lexK2 : lexR (⟨#[35, 10]⟩ ++ ⟨#[109, 117, 116, 101, 120]⟩) = ([⟨3, ⟨#[109, 117, 116, 101, 120]⟩, 0, 2, 1⟩], (0, 0), 0) := lexR_of 20 (by decide) (by decide) (by kernel_rfl)
set_option maxRecDepth 100000 in
theorem lexK3 : lexR (⟨#[35, 10]⟩ ++ ⟨#[99, 111, 110, 100]⟩) = ([⟨3, ⟨#[99, 111, 110, 100]⟩, 0, 2, 1⟩], (0, 0), 0) := lexR_of 20 (by decide) (by decide) (by kernel_rfl)
set_option maxRecDepth 100000 in
theorem lexK4 : lexR (⟨#[35, 10]⟩ ++ ⟨#[99, 104, 97, 110]⟩) = ([⟨3, ⟨#[99, 104, 97, 110]⟩, 0, 2, 1⟩], (0, 0), 0) := lexR_of 20 (by decide) (by decide) (by kernel_rfl)
set_option maxRecDepth 100000 in
theorem lexK5 : lexR (⟨#[35, 10]⟩ ++ ⟨#[116, 104, 114, 101, 97, 100]⟩) = ([⟨3, ⟨#[116, 104, 114, 101, 97, 100]⟩, 0, 2, 1⟩], (0, 0), 0) := lexR_of 20 (by decide) (by decide) (by kernel_rfl)
set_option maxRecDepth 100000 in
theorem lexK6 : lexR (⟨#[35, 10]⟩ ++ ⟨#[108, 101, 116]⟩) = ([⟨3, ⟨#[108, 101, 116]⟩, 0, 2, 1⟩], (0, 0), 0) := lexR_of 20 (by decide) (by decide) (by kernel_rfl)
set_option maxRecDepth 100000 in
theorem lexK7 : lexR (⟨#[35, 10]⟩ ++ ⟨#[105, 102]⟩) = ([⟨3, ⟨#[105, 102]⟩, 0, 2, 1⟩], (0, 0), 0) := lexR_of 20 (by decide) (by decide) (by kernel_rfl)
set_option maxRecDepth 100000 in
theorem lexK8 : lexR (⟨#[35, 10]⟩ ++ ⟨#[101, 108, 115, 101]⟩) = ([⟨3, ⟨#[101, 108, 115, 101]⟩, 0, 2, 1⟩], (0, 0), 0) := lexR_of 20 (by decide) (by decide) (by kernel_rfl)
set_option maxRecDepth 100000 in
theorem lexK9 : lexR (⟨#[35, 10]⟩ ++ ⟨#[119, 104, 105, 108, 101]⟩) = ([⟨3, ⟨#[119, 104, 105, 108, 101]⟩, 0, 2, 1⟩], (0, 0), 0) := lexR_of 20 (by decide) (by decide) (by kernel_rfl)
set_option maxRecDepth 100000 in
theorem lexK10 : lexR (⟨#[35, 10]⟩ ++ ⟨#[108, 111, 99, 107]⟩) = ([⟨3, ⟨#[108, 111, 99, 107]⟩, 0, 2, 1⟩], (0, 0), 0) := lexR_of 20 (by decide) (by decide) (by kernel_rfl)
set_option maxRecDepth 100000 in
theorem lexK11 : lexR (⟨#[35, 10]⟩ ++ ⟨#[117, 110, 108, 111, 99, 107]⟩) = ([⟨3, ⟨#[117, 110, 108, 111, 99, 107]⟩, 0, 2, 1⟩], (0, 0), 0) := lexR_of 20 (by decide) (by decide) (by kernel_rfl)
set_option maxRecDepth 100000 in
theorem lexK12 : lexR (⟨#[35, 10]⟩ ++ ⟨#[119, 97, 105, 116]⟩) = ([⟨3, ⟨#[119, 97, 105, 116]⟩, 0, 2, 1⟩], (0, 0), 0) := lexR_of 20 (by decide) (by decide) (by kernel_rfl)
set_option maxRecDepth 100000 in
theorem lexK13 : lexR (⟨#[35, 10]⟩ ++ ⟨#[115, 105, 103, 110, 97, 108]⟩) = ([⟨3, ⟨#[115, 105, 103, 110, 97, 108]⟩, 0, 2, 1⟩], (0, 0), 0) := lexR_of 20 (by decide) (by decide) (by kernel_rfl)
set_option maxRecDepth 100000 in
theorem lexK14 : lexR (⟨#[35, 10]⟩ ++ ⟨#[97, 108, 108]⟩) = ([⟨3, ⟨#[97, 108, 108]⟩, 0, 2, 1⟩], (0, 0), 0) := lexR_of 20 (by decide) (by decide) (by kernel_rfl)
set_option maxRecDepth 100000 in
theorem lexK15 : lexR (⟨#[35, 10]⟩ ++ ⟨#[115, 101, 110, 100]⟩) = ([⟨3, ⟨#[115, 101, 110, 100]⟩, 0, 2, 1⟩], (0, 0), 0) := lexR_of 20 (by decide) (by decide) (by kernel_rfl)
set_option maxRecDepth 100000 in
theorem lexK16 : lexR (⟨#[35, 10]⟩ ++ ⟨#[114, 101, 99, 118]⟩) = ([⟨3, ⟨#[114, 101, 99, 118]⟩, 0, 2, 1⟩], (0, 0), 0) := lexR_of 20 (by decide) (by decide) (by kernel_rfl)
set_option maxRecDepth 100000 in
theorem lexK17 : lexR (⟨#[35, 10]⟩ ++ ⟨#[115, 112, 97, 119, 110]⟩) = ([⟨3, ⟨#[115, 112, 97, 119, 110]⟩, 0, 2, 1⟩], (0, 0), 0) := lexR_of 20 (by decide) (by decide) (by kernel_rfl)
set_option maxRecDepth 100000 in
theorem lexK18 : lexR (⟨#[35, 10]⟩ ++ ⟨#[106, 111, 105, 110]⟩) = ([⟨3, ⟨#[106, 111, 105, 110]⟩, 0, 2, 1⟩], (0, 0), 0) := lexR_of 20 (by decide) (by decide) (by kernel_rfl)
set_option maxRecDepth 100000 in
theorem lexK19 : lexR (⟨#[35, 10]⟩ ++ ⟨#[112, 114, 105, 110, 116]⟩) = ([⟨3, ⟨#[112, 114, 105, 110, 116]⟩, 0, 2, 1⟩], (0, 0), 0) := lexR_of 20 (by decide) (by decide) (by kernel_rfl)
theorem kw_lex {k : Nat} (hk : k < 20) : lexR (⟨#[35, 10]⟩ ++ kwL.getD k ByteArray.empty) = ([⟨3, kwL.getD k ByteArray.empty, 0, 2, 1⟩], (0, 0), 0) := by
  have h : k = 0 ∨ k = 1 ∨ k = 2 ∨ k = 3 ∨ k = 4 ∨ k = 5 ∨ k = 6 ∨ k = 7 ∨ k = 8 ∨ k = 9 ∨ k = 10 ∨ k = 11 ∨ k = 12 ∨ k = 13 ∨ k = 14 ∨ k = 15 ∨ k = 16 ∨ k = 17 ∨ k = 18 ∨ k = 19 := by omega
  rcases h with rfl | rfl | rfl | rfl | rfl | rfl | rfl | rfl | rfl | rfl | rfl | rfl | rfl | rfl | rfl | rfl | rfl | rfl | rfl | rfl
  · exact lexK0
  · exact lexK1
  · exact lexK2
  · exact lexK3
  · exact lexK4
  · exact lexK5
  · exact lexK6
  · exact lexK7
  · exact lexK8
  · exact lexK9
  · exact lexK10
  · exact lexK11
  · exact lexK12
  · exact lexK13
  · exact lexK14
  · exact lexK15
  · exact lexK16
  · exact lexK17
  · exact lexK18
  · exact lexK19
/-- Nothing but blanks. -/
def bls (n : Nat) : ByteArray := ⟨(List.replicate n 32).toArray⟩
theorem bls_size (n : Nat) : (bls n).size = n := by
  show (List.replicate n (32 : UInt8)).toArray.size = n
  simp
theorem lexBl {n : Nat} (h : n ≤ 65536) : lexR (bls n) = ([], (0, 0), 0) := by
  unfold lexR
  rw [if_neg (by rw [bls_size]; omega)]
  have hl : (bls n).data.toList = List.replicate n 32 := rfl
  have hE : endOf isBl (bls n) 0 = n := by
    unfold endOf
    rw [hl, List.drop_zero, List.takeWhile_replicate]
    rw [if_pos (by decide)]
    simp
  refine lexA_end ?_
  rw [gap_stop (by rw [hE, bls_size]; omega), hE, bls_size]
  omega
theorem lexBl2 {n : Nat} (h : 65536 < n) : lexR (bls n) = ([], (0, 0), 3) := by
  unfold lexR
  rw [if_pos (by rw [bls_size]; exact h)]
end Go.Proofs.YtinfocnihngbiaaDoor
