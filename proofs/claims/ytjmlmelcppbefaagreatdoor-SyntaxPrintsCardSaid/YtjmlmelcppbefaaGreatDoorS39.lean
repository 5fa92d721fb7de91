/- Statements, declarations lie behind a call as they lay. No condition. -/
import Derived.Test.YtjmlmelcppbefaaGreatDoorT01
import Derived.Test.YtjmlmelcppbefaaGreatDoorT35
namespace Go.Proofs.YtjmlmelcppbefaaGreatDoor
open Go.RowKit Go.Maps
theorem StL.below {w w' : World} {cs : List Value} {s : St} (h : StL (fun _ => True) w cs s) (hb : Below w.heap.size w w') : StL (fun _ => True) w' cs s :=
 StL.keep (fun b o v _ hv => by rw [← hv]; simp [World.cell?, hb.block b (World.block_lt_of_cell? w _ hv)]) h
theorem DesL.below {w w' : World} {a : Option Addr} {l : List De} (h : DesL (fun _ => True) w a l) (hb : Below w.heap.size w w') : DesL (fun _ => True) w' a l :=
 h.keep (fun b o v _ hv => by rw [← hv]; simp [World.cell?, hb.block b (World.block_lt_of_cell? w _ hv)])
theorem size_at {l : List St} {i : Nat} {s : St} (h : l[i]? = some s) : SizeOf.sizeOf s < SizeOf.sizeOf l := List.sizeOf_lt_of_mem (List.mem_of_getElem? h)
theorem body_lt (k l c : Int) (s t : ByteArray) (x y : Ex) (b e : List St) (i sl o : Int) (lo : Bool) : SizeOf.sizeOf b < SizeOf.sizeOf (St.mk k l c s t x y b e i sl o lo) ∧ SizeOf.sizeOf e < SizeOf.sizeOf (St.mk k l c s t x y b e i sl o lo) := by
 simp only [St.mk.sizeOf_spec]
 omega
end Go.Proofs.YtjmlmelcppbefaaGreatDoor
