/- Texts laid together. No condition but what each law says. -/
import Derived.Test.YtgppcdfgdaggjaaGreatDoorR01
namespace Go
open Go.RowKit
def World.cellF(w:World)(a:Addr):Option Value:=
 match w.1[a.block]? with
 |some (.cells c _ (0,0))=>if a.spot.isSome then none else c[a.off]?
 |_=>none
theorem World.cellF_cell{w:World}{a:Addr}{v:Value}(h:w.cellF a=some v):w.cell? a=some v:=by
 unfold World.cellF at h
 unfold World.cell?
 split at h
 .rename_i he
  rw[he]
  exact h
 .cases h
theorem World.block_lt_of_cellF(w:World){a:Addr}{v:Value}(h:w.cellF a=some v):a.block<w.1.size:=World.block_lt_of_cell? w _ (World.cellF_cell h)
end Go
