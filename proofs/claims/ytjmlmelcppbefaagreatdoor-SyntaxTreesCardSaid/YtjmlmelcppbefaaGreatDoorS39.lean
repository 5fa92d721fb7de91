/- Statements, declarations lie behind a call as they lay. No condition. -/
import Derived.Test.YtjmlmelcppbefaaGreatDoorT01
import Derived.Test.YtjmlmelcppbefaaGreatDoorT35
namespace Go.Proofs.YtjmlmelcppbefaaGreatDoor
open Go.RowKit Go.Maps
theorem StL.below {w w' : World} {cs : List Value} {s : St} (h : StL (fun _ => True) w cs s) (hb : Below w.heap.size w w') : StL (fun _ => True) w' cs s :=
 StL.keep (fun b o v _ hv => by rw [← hv]; simp [World.cell?, hb.block b (World.block_lt_of_cell? w _ hv)]) h
theorem DesL.below {w w' : World} {a : Option Addr} {l : List De} (h : DesL (fun _ => True) w a l) (hb : Below w.heap.size w w') : DesL (fun _ => True) w' a l :=
 h.keep (fun b o v _ hv => by rw [← hv]; simp [World.cell?, hb.block b (World.block_lt_of_cell? w _ hv)])
end Go.Proofs.YtjmlmelcppbefaaGreatDoor
