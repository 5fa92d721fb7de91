/- Texts laid together. No condition but what each law says. -/
import Derived.Test.YtgppcdfgdaggjaaGreatDoorR46
import Derived.Test.YtgppcdfgdaggjaaGreatDoorR45
namespace Go.Proofs.YtgppcdfgdaggjaaGreatDoor
open Go.ChangeShapes Go.WideShapes Go.ChangeAt Go.RowKit
variable {W:World}
def Wm(w:World):Prop:=Wn w/\Tab w
theorem wm_of(h:laidMetH Tryz.prog laid7 W):Wm W:=by refine⟨wn_of h,?_⟩;rw[MakeChecks.laidMetH_plain _ _ _ (by kernel_rfl)]at h;exact Lib.tabIs_of_head gPow (t:=261) (e:=238) (n:=20) (by kernel_rfl) (by kernel_rfl) (by kernel_rfl) (by kernel_rfl) (by kernel_rfl) h.tail.tail
theorem plc_law2(s:ByteArray)(w:World)(H:Wm w):Calls Tryz.prog 8 #[.string s] w (Yes w):=plc_law s w H.1 H.2
end Go.Proofs.YtgppcdfgdaggjaaGreatDoor
