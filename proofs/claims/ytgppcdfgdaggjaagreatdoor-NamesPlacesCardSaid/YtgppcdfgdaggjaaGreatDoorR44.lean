/- Texts laid together. No condition but what each law says. -/
import Derived.Test.YtgppcdfgdaggjaaGreatDoorR43
import Derived.Test.YtgppcdfgdaggjaaGreatDoorR38
import Derived.Lib.UnsafeStr
set_option maxRecDepth 100000
set_option maxHeartbeats 4000000
namespace Go.Proofs.YtgppcdfgdaggjaaGreatDoor
open Go.RowKit Go.Maps
variable {V w0:World}{a:Option Addr}
theorem string_nil(b:Nat)(w:World)(hbk:w.1[b]? =some (.cells #[.pointer none,.slice none 0 0] 131 (0,0))):
  Calls Tryz.prog 53 #[.pointer (some ⟨b,0,none⟩)] w fun e w'=>e= .returned (.string ⟨#[]⟩)/\Below w.1.size w w':=by
 have c1:w.drew.cell? ⟨b,1,none⟩=some (.slice none 0 0):=by have:w.drew.1[b]? =some (.cells #[.pointer none,.slice none 0 0] 131 (0,0)):=hbk;rw[Lib.cell_of_heap this];rfl
 have hSD:(Builtin.unsafeSliceData_ #[52] 179 #[.slice none 0 0]).run Tryz.prog w.drew= .ok (.pointer none) w.drew:=Lib.run_unsafeSliceData_nil _ _ _ _ _;have hUS:(Builtin.unsafeString_ #[179,3] 9 #[.pointer none,.int .i64 0]).run Tryz.prog w.drew= .ok (.string ⟨#[]⟩) w.drew:=Lib.run_unsafeString_none _ _ _ _ _;have mixed:Tryz.prog.follows .mixedOrders=true:=by kernel_rfl
 go_enter Tryz.func53,Tryz.ntmps53;go_wp2;go_region_o;all_goals (go_wp2;go_ret;exact⟨z,(Below.refl _ w).drew⟩)
theorem print_nil(hSh:Shs w0)(a:Option Addr)(cap:Nat)(hcap:cap<=9223372036854775807):
  Calls Tryz.prog 23 #[.slice a 0 cap] w0 fun e w'=>e= .returned (.tuple #[.string ⟨#[]⟩,.int .i64 0])/\Below w0.1.size w0 w':=by
 have hck:=check_any [] a cap w0 ⟨Nat.zero_le _,hcap⟩ hSh (fun j hj=>by cases hj) (fun d hd=>by cases hd);rw[show desR isName ([]:List De)=true from z,if_pos z,show ([]:List De).length=0 from z]at hck;go_enter Tryz.func23,Tryz.ntmps23;go_wp2_with fail;refine hck.mono ?_;rintro e W1 ⟨rfl,hb1⟩;have hb2:Below w0.1.size w0 (W1.alloc (.cells #[.pointer none,.slice none 0 0] 131)):=hb1.alloc hb1.size _;have hst:=string_nil W1.1.size (W1.alloc (.cells #[.pointer none,.slice none 0 0] 131)) (World.alloc_heap_new _ _);have HB:=Lib.hid hb2;clear hck hb2 hb1;go_wp2_with fail;generalize W1.alloc (.cells #[.pointer none,.slice none 0 0] 131)=W2 at *
 go_loopg [15] 0 (fun x iv wr=>x=0/\iv= .int .i64 0/\wr=W2);case atStart=>exact⟨z,z,z⟩
 case round=> obtain⟨rfl,rfl,rfl⟩:=hrel;go_wp2_with fail;refine hst.mono ?_;rintro e V3 ⟨rfl,hb3⟩;have hfin:=HB.o.trans (hb3.mono HB.o.size);clear hst hb3 HB;go_wp2_with fail;go_ret2;exact⟨z,hfin⟩
theorem deT_ne(d:De):deT d≠[]:=by
 unfold deT;repeat' split
 all_goals simp
theorem prT_ne{l:List De}(h:l≠[]):prT l≠[]:=by
 match l,h with
 |d::r,_=> intro e;have e2:deT d++prT r=[]:=e;exact deT_ne d (List.append_eq_nil_iff.1 e2).1
theorem print_read(hE:Env V)(hH:Shs V){l:List De}{cap:Nat}(hroom:Roomy l.length cap)(h:DesL (fun _=>True) V a l)(hR:desR isName l=true)(hlen:(prT l).length<=65536):
  Calls Tryz.prog 23 #[.slice a l.length cap] V fun e w'=>e= .returned (.tuple #[.string (bS (prT l)),.int .i64 0])/\Below V.1.size V w':=by
 by_cases hne:l=[]
 .subst hne;exact print_nil hH a cap hroom.2
 .have:=print_any hE hH l a cap hroom h (desR_nb hR) (by omega) (prT_ne hne);rw[hR,if_pos rfl,if_pos rfl]at this;exact this
end Go.Proofs.YtgppcdfgdaggjaaGreatDoor
