/- Texts laid together. No condition but what each law says. -/
import Derived.Test.YtgppcdfgdaggjaaGreatDoorR06
import Derived.Lib.SlicesS
set_option maxRecDepth 100000
set_option maxHeartbeats 2000000
namespace Go.Proofs.YtgppcdfgdaggjaaGreatDoor
open Go.RowKit Go.Maps
def isKw(t:List UInt8):Bool:=kwL.any fun s=>s.data.toList==t
def isSg(t:List UInt8):Bool:=sgL.any fun s=>s.data.toList==t
theorem lastOf_pos(g:List ByteArray)(t:List UInt8)(k:Nat)(C:k<=g.length):decide (0<lastOf g t k)=(g.take k).any fun s=>s.data.toList==t:=by
 induction k with
 |zero=>simp[lastOf]
 |succ k j=>
  have j:=j (by omega);rw[List.take_add_one,List.any_append,<-j];have w:k<g.length:=by omega
  rw[List.getElem?_eq_getElem w];have e:g.getD k ByteArray.empty=g[k]:=by rw[List.getD,List.getElem?_eq_getElem w];rfl
  have A:lastOf g t (k+1)=if (g.getD k ByteArray.empty).data.toList=t then (k:Int)+1 else lastOf g t k:=z
  rw[A,e];by_cases h:(g[k]).data.toList=t
  .rw[if_pos h,decide_eq_true (by omega)];simp[h]
  .rw[if_neg h];simp[h]
theorem kw_pos(t:List UInt8):decide (0<lastOf kwL t 20)=isKw t:=lastOf_pos kwL t 20 (by decide)
theorem sg_pos(t:List UInt8):decide (0<lastOf sgL t 20)=isSg t:=lastOf_pos sgL t 20 (by decide)
theorem keyword_any(s:ByteArray)(w:World)(F:s.size<=4294967296):Calls Tryz.prog 146 #[.string s] w fun e w'=>e= .returned (.bool (isKw s.data.toList))/\bL w w':=by
 obtain⟨R,j⟩:=eX (isKw s.data.toList);rw[j];go_in;go_wp2_with fail;apply (keywords_any w).mono;rintro e w1 ⟨g,rfl,C,G,_⟩;obtain⟨c,H,A,_⟩:=C.lookup_int law Tryz.underlying148 Tryz.underlying3 (zero3 _) (Go.WideMaps.keyOf_string_mk Tryz.underlying9 (s:=s) (Nat.le_trans F (by decide)));rw[lst_at]at A;have D:lastOf kwL s.data.toList 20=c:=by simpa using A
 have E:=kw_pos s.data.toList;rw[D]at E;clear A C D;rw[j]at E;clear j;go_wp2;go_ret;exact⟨z,G⟩
end Go.Proofs.YtgppcdfgdaggjaaGreatDoor
