/- Texts laid together. No condition but what each law says. -/
import Derived.Test.YtgppcdfgdaggjaaGreatDoorR36
import Derived.Test.YtgppcdfgdaggjaaGreatDoorR27
import Derived.Lib.LaidTab
set_option maxRecDepth 100000
set_option maxHeartbeats 8000000
namespace Go.Proofs.YtgppcdfgdaggjaaGreatDoor
open Go.RowKit Go.Maps
variable {b d g i:Nat}{s t:ByteArray}{V W w w0:World}{a:Option Addr}{u1 u2 u3 u5 u7 u8 u9:Value}
theorem info95:(Tryz.prog.info? 129).map (·.size)=some 2:=by kernel_rfl
theorem under93:Tryz.prog.underlying 127=some (.pointer 129):=by kernel_rfl
theorem under221:Tryz.prog.underlying 266=some .unsafePointer:=by kernel_rfl
theorem lies97:liesAt Tryz.prog Tryz.prog.depth 131 (2/Tryz.prog.cellsOf 131) 0 129 1=true:=by kernel_rfl
theorem copy_used(b:Nat)(w:World)(h0:w.cell? ⟨b,0,none⟩=some (.pointer (some ⟨b,0,none⟩))):
  Calls Tryz.prog 157 #[.pointer (some ⟨b,0,none⟩)] w fun e w'=>e= .returned (.tuple #[])/\w'=w:=by
 obtain⟨j,hj,-⟩:=Option.map_eq_some_iff.1 info95;go_enter Tryz.func157,Tryz.ntmps157;go_wp2;rw[Lib.run_neq_ptr_same w _ under93 hj];go_wp2;go_end0;exact⟨z,z⟩
theorem copy_fresh(b:Nat)(w:World)(h0:w.cell? ⟨b,0,none⟩=some (.pointer none))(hsh:w.shape? b=some (131,2))(hfz:w.frozen? ⟨b,0,none⟩=false):
  Calls Tryz.prog 157 #[.pointer (some ⟨b,0,none⟩)] w fun e w'=>e= .returned (.tuple #[])/\w'=w.setCell ⟨b,0,none⟩ (.pointer (some ⟨b,0,none⟩)):=by
 obtain⟨j,hj,hjs⟩:=Option.map_eq_some_iff.1 info95;go_enter Tryz.func157,Tryz.ntmps157;go_wp2;rw[Lib.run_to_unsafe w ⟨b,0,none⟩ under93 under221 hj (by rw[hjs];decide) hsh (Nat.zero_lt_succ 1)];simp only[Result.andThen];rw[Oper.upon_value];go_wp2;rw[run_callFunc_extern Tryz.func177 (by kernel_rfl) (by kernel_rfl) (by kernel_rfl) (e:=Extern.AbiNoEscape.same) (by kernel_rfl)];rw[Lib.run_noEscape];simp only[Result.andThen];rw[Oper.upon_value];go_wp2;rw[Lib.run_from_unsafe w ⟨b,0,none⟩ under221 under93 hj hsh lies97];simp only[Result.andThen];rw[Oper.upon_value];go_wp2;go_end0;exact⟨z,z⟩
theorem copy_any(B b:Nat)(bs:List Value)(w:World)(h:Lib.IsBuilderF 131 5 B b bs w):
  Calls Tryz.prog 157 #[.pointer (some ⟨b,0,none⟩)] w fun e w'=>e= .returned (.tuple #[])/\(Lib.BuilderAtF 131 5 B b (.pointer (some ⟨b,0,none⟩)) bs w'/\Below B w w'/\Lib.OthersKept 5 (some b) w w'):=by
 rcases h with h|h
 .refine(copy_fresh b w h.cell0 h.shape h.frozen0).mono ?_;rintro e w' ⟨rfl,rfl⟩;exact⟨z,h.used _,(Below.refl B w).setCell (p:=⟨b,0,none⟩) h.1 _,(Lib.OthersKept.refl _ _ w).setCell ⟨b,0,none⟩ z _⟩
 .refine(copy_used b w h.cell0).mono ?_;rintro e w' ⟨rfl,rfl⟩;exact⟨z,h,Below.refl B _,Lib.OthersKept.refl _ _ _⟩
theorem infoByte5:(Tryz.prog.info? 5).map (fun i=> (i.zero,i.size,i.bytes))=some (some (.int .u8 0),1,1):=by kernel_rfl
theorem writeS_any(B b:Nat)(bs:List Value)(s:ByteArray)(w:World)(h:Lib.IsBuilderF 131 5 B b bs w)(hlen:bs.length+s.size<=140737488355328)(hBw:B<=w.1.size):
  Calls Tryz.prog 129 #[.pointer (some ⟨b,0,none⟩),.string s] w fun e w'=>e= .returned (.tuple #[.int .i64 s.size,.nilIface])/\(Lib.BuilderAtF 131 5 B b (.pointer (some ⟨b,0,none⟩)) (bs++Lib.strCells s) w'/\Below B w w'/\Lib.OthersKept 5 (some b) w w'):=by
 obtain⟨i0,hi,hz0,hz1,hz2⟩:=info_parts infoByte5;have t41:Tryz.prog.underlying 52=some (.slice 5):=by kernel_rfl
 have t9:Tryz.prog.underlying 9=some .string:=by kernel_rfl
 have hcp:=copy_any B b bs w h;go_enter Tryz.func129,Tryz.ntmps129;go_wp2_with fail;refine hcp.mono ?_;rintro e w1 ⟨rfl,h1,hb1,hk1⟩;obtain⟨hB,v,hbk,hown,hne⟩:=h1;have c0:w1.cell? ⟨b,0,none⟩=some (.pointer (some ⟨b,0,none⟩)):=by rw[Lib.cell_of_heap hbk];rfl
 have c1:w1.cell? ⟨b,1,none⟩=some v:=by rw[Lib.cell_of_heap hbk];rfl
 go_wp2_with (at_builtin;refine Lib.wpList_append_own_stringF _ z _ _ 52 9 z B 5 i0 t41 t9 hi hz0 hz1 hz2 _ _ _ z hown s z ?c3 ?c4 ?c5 ?_);case c3=>unfold maxLen;omega
 case c4=>omega
 case c5=>have:=hb1.size;omega
 intro v' w2 hown' hgrow _;have hlt:b<w1.1.size:=by
  rcases Nat.lt_or_ge b w1.1.size with h'|h'
  .exact h'
  .simp[Array.getElem?_eq_none h']at hbk
 have hb2:w2.1[b]? =some (.cells #[.pointer (some ⟨b,0,none⟩),v] 131 (0,0)):=by rw[hgrow.block b hlt (fun e=>hne e.symm)];exact hbk
 have d0:w2.cell? ⟨b,0,none⟩=some (.pointer (some ⟨b,0,none⟩)):=by rw[Lib.cell_of_heap hb2];rfl
 have d1:w2.cell? ⟨b,1,none⟩=some v:=by rw[Lib.cell_of_heap hb2];rfl
 have f1:w2.frozen? ⟨b,1,none⟩=false:=Lib.frozen_of_heap hb2 1;obtain⟨ao,n',cap,rfl⟩:∃ao n' cap,v'= .slice ao n' cap:=by
  rcases hown'.2 with ⟨hv,_⟩|⟨g,cap,cur,fz,hv,_⟩
  .exact⟨_,_,_,hv⟩
  .exact⟨_,_,_,hv⟩
 go_wp2;go_ret2;refine⟨z,?_,?_,(hk1.grown hgrow (Lib.ownsRowF_kind hown)).setCell ⟨b,1,none⟩ z _⟩
 .exact Lib.BuilderAtF.put (T:=131) (e:=5) hB hb2 (bs':=bs++Lib.strCells s) (by simpa [Lib.strCells_length]using hown') (by decide)
 .exact(hb1.grown hgrow (by have:=hb1.size;omega) (fun k hk=> (hown.lt k hk).1)).setCell (p:=⟨b,1,none⟩) hB _
theorem under148:Tryz.prog.underlying 179=some (.pointer 5):=by kernel_rfl
theorem cells5:Tryz.prog.cellsOf 5=1:=by kernel_rfl
theorem string_ne(B b:Nat)(l:List UInt8)(w:World)(h:Lib.IsBuilderF 131 5 B b (Lib.byteCells l) w)(h0:l≠[]):
  Calls Tryz.prog 53 #[.pointer (some ⟨b,0,none⟩)] w fun e w'=>e= .returned (.string ⟨l.toArray⟩)/\Below B w w':=by
 obtain⟨p,hAt⟩:∃p,Lib.BuilderAtF 131 5 B b p (Lib.byteCells l) w:=by
  rcases h with h|h
  .exact⟨_,h⟩
  .exact⟨_,h⟩
 obtain⟨hB,v,hbk,hown,hne⟩:=hAt;have hl0:l.length≠0:=by simpa using h0
 rw[Lib.byteCells_length]at hown;obtain⟨g,cap,cur,fz,rfl,hbg,hg,hfz,hnc,hcm,hcs,htake⟩:∃g cap cur fz,v= .slice (some ⟨g,0,none⟩) l.length cap/\B<=g/\w.1[g]? =some (.cells cur 5 fz)/\fz.2<=l.length*1/\l.length<=cap/\cap<=maxLen/\cur.size=cap*1/\cur.toList.take (l.length*1)=Lib.byteCells l:=by
  rcases hown.2 with ⟨_,hz⟩|⟨g,cap,cur,fz,hv,r⟩
  .exact absurd hz hl0
  .exact⟨g,cap,cur,fz,hv,r⟩
 have c1:w.drew.cell? ⟨b,1,none⟩=some (.slice (some ⟨g,0,none⟩) l.length cap):=by have:w.drew.1[b]? =some (.cells #[p,.slice (some ⟨g,0,none⟩) l.length cap] 131 (0,0)):=hbk;rw[Lib.cell_of_heap this];rfl
 have hSD:(Builtin.unsafeSliceData_ #[52] 179 #[.slice (some ⟨g,0,none⟩) l.length cap]).run Tryz.prog w.drew= .ok (.pointer (some ⟨g,0,none⟩)) w.drew:=
  Lib.run_unsafeSliceData_row _ _ _ _ _ _ (by omega)
 have hUS:(Builtin.unsafeString_ #[179,3] 9 #[.pointer (some ⟨g,0,none⟩),.int .i64 l.length]).run Tryz.prog w.drew= .ok (.string ⟨l.toArray⟩) (w.drew.freeze ⟨g,0,none⟩ l.length):=by refine Lib.run_unsafeString_row w.drew 179 3 9 5 under148 cells5 g cur.size (by have hg':w.drew.1[g]? =some (.cells cur 5 fz):=hg;simp[World.shape?,hg']) l h0 (by omega) (by unfold maxLen at hcm;omega) ?_;intro j x hx;have:=hown.cells (g:=g) z j (.int .u8 x.toNat) (by simp[Lib.byteCells,hx]);exact this
 have mixed:Tryz.prog.follows .mixedOrders=true:=by kernel_rfl
 go_enter Tryz.func53,Tryz.ntmps53;go_wp2;go_region_o;all_goals (go_wp2;go_ret;exact⟨z,Lib.below_freeze (Below.drew (Below.refl B w)) (p:=⟨g,0,none⟩) hbg _⟩)
def joinB(l:List ByteArray):List UInt8:=l.flatMap fun s=>s.data.toList
theorem joinB_take{l:List ByteArray}(h:l[i]? =some s):joinB (l.take (i+1))=joinB (l.take i)++s.data.toList:=by obtain⟨hi,rfl⟩:=List.getElem?_eq_some_iff.1 h;unfold joinB;rw[List.take_succ_eq_append_getElem hi,List.flatMap_append];simp
theorem joinB_le{l:List ByteArray}(h:l[i]? =some s):(joinB (l.take i)).length+s.size<=(joinB l).length:=by
 have h1:=joinB_take h;have h2:(joinB (l.take (i+1))).length<=(joinB l).length:=by
  conv=>rhs;rw[<-List.take_append_drop (i+1) l]
  unfold joinB;rw[List.flatMap_append,List.length_append];omega
 rw[h1,List.length_append]at h2;exact h2
theorem Blk.kept{w':World}{ty:Nat}{C:List Value}(h:Blk w g ty C)(hk:Lib.OthersKept 5 (some b) w w')(hgb:g≠b)(ht:ty≠5):Blk w' g ty C:=
 hk g _ h (by simpa using hgb) (fun c fz e=>by cases e;exact ht z)
structure Pr (B b:Nat) (W:World) (t:List UInt8):Prop where
 i:Lib.IsBuilderF 131 5 B b (Lib.byteCells t) W
 s:B<=W.1.size
def PutP(B b:Nat)(W:World)(t:List UInt8)(e:Ending)(w':World):Prop:=e= .returned (.tuple #[])/\Pr B b w' t/\Below B W w'/\Lib.OthersKept 5 (some b) W w'
theorem put_any{B:Nat}{t:List UInt8}(l:List ByteArray)(h:Pr B b W t)(hg:Blk W g 9 (l.map .string))(hgb:g≠b)(hlen:t.length+(joinB l).length<=140737488355328)(hl:l.length<=100):
  Calls Tryz.prog 89 #[.pointer (some ⟨b,0,none⟩),.slice (some ⟨g,0,none⟩) l.length l.length] W (PutP B b W (t++joinB l)):=by
 obtain⟨N,hN⟩:∃N,l.length=N:=⟨_,z⟩;rw[hN]at hl ⊢;have HN:=Lib.hid hN;have HE:=Lib.hid (And.intro h (And.intro (Below.refl B W) (And.intro (Lib.OthersKept.refl 5 (some b) W) hg)));have HE0:Hid (Pr B b W (t++joinB (l.take 0))/\Below B W W/\Lib.OthersKept 5 (some b) W W/\Blk W g 9 (l.map .string)):=Lib.hid (by refine⟨?_,HE.o.2⟩;have:joinB (l.take 0)=[]:=z;rw[this,List.append_nil];exact h)
 clear HE h hg hN;go_enter Tryz.func89,Tryz.ntmps89;go_wp2_with fail;go_loopg [8] N (fun x iv wr=>∃i:Nat,i<=N/\x=N-i/\iv= .int .i64 (i:Int)/\Hid (Pr B b wr (t++joinB (l.take i))/\Below B W wr/\Lib.OthersKept 5 (some b) W wr/\Blk wr g 9 (l.map .string)));case atStart=>exact⟨0,Nat.zero_le _,z,z,HE0⟩
 case round=>
  clear HE0;obtain⟨i,hi,rfl,rfl,HE⟩:=hrel;obtain⟨h1,hb1,hk1,hg1⟩:=HE.o;by_cases hiN:i<N
  .have hlt:(i:Int)< (N:Int):=by omega
   have hp0:(0:Int)<=(i:Int):=by omega
   obtain⟨s,hs⟩:∃s,l[i]? =some s:=⟨_,List.getElem?_eq_getElem (by rw[HN.o];exact hiN)⟩;have gi:=hg1.cell i;rw[List.getElem?_map,hs]at gi;simp only[Option.map_some]at gi;have hle:=joinB_le hs;have hcl:=writeS_any B b (Lib.byteCells (t++joinB (l.take i))) s wr h1.i (by rw[Lib.byteCells_length,List.length_append];omega) h1.s;have HS:=Lib.hid hs;clear h1 hb1 hk1 hg1 hs;go_wp2_with fail;refine hcl.mono ?_;rintro e w2 ⟨rfl,hb2,hbl2,hk2⟩;obtain⟨h1,hb1,hk1,hg1⟩:=HE.o;have hsz:=hbl2.size;have HE2:Hid (Pr B b w2 (t++joinB (l.take (i+1)))/\Below B W w2/\Lib.OthersKept 5 (some b) W w2/\Blk w2 g 9 (l.map .string)):=Lib.hid ⟨⟨.inr (by rw[joinB_take HS.o,<-List.append_assoc,Lib.byteCells_append,<-Lib.strCells_eq];exact hb2),Nat.le_trans h1.s hsz⟩,hb1.trans hbl2,hk1.trans hk2,hg1.kept hk2 hgb (by decide)⟩
   clear h1 hb1 hk1 hg1 hb2 hbl2 hk2 HE hcl gi;go_wp2_with fail;go_roundg (N- (i+1));case measure=>omega
   case rel=>exact⟨i+1,by omega,z,z,HE2⟩
  .obtain rfl:i=N:=by omega
   have hlt:¬ (i:Int)< (i:Int):=by omega
   have hfin:PutP B b W (t++joinB l) (.returned (.tuple #[])) wr:=by have:l.take i=l:=List.take_of_length_le (by rw[HN.o];exact Nat.le_refl _);rw[this]at h1;exact⟨z,h1,hb1,hk1⟩
   have HF:=Lib.hid hfin;clear h1 hb1 hk1 hg1 HE hfin;go_wp2_with fail;go_end0;exact HF.o
theorem put_def{B:Nat}{t:List UInt8}(l:List ByteArray)(h:Pr B b W t)(hg:Blk W g 9 (l.map .string))(hgb:g≠b)(hlen:t.length+(joinB l).length<=140737488355328)(hl:l.length<=100):
  CallsD Tryz.prog 89 #[.pointer (some ⟨b,0,none⟩),.slice (some ⟨g,0,none⟩) l.length l.length] .returning W (fun e u' w'=>u'= .returning/\PutP B b W (t++joinB l) e w'):=by
 obtain⟨N,hN⟩:∃N,l.length=N:=⟨_,z⟩;rw[hN]at hl ⊢;have HN:=Lib.hid hN;have HE:=Lib.hid (And.intro h (And.intro (Below.refl B W) (And.intro (Lib.OthersKept.refl 5 (some b) W) hg)));have HE0:Hid (Pr B b W (t++joinB (l.take 0))/\Below B W W/\Lib.OthersKept 5 (some b) W W/\Blk W g 9 (l.map .string)):=Lib.hid (by refine⟨?_,HE.o.2⟩;have:joinB (l.take 0)=[]:=z;rw[this,List.append_nil];exact h)
 clear HE h hg hN;refine callsD_of_wp Tryz.func89 z ?_;simp only[Tryz.ntmps89,List.size_toArray,List.length_cons,List.length_nil,Nat.reduceAdd,Nat.reduceSub,Array.replicate_succ,Array.replicate_zero,List.push_toArray,List.append_toArray,List.nil_append,List.cons_append];go_wp2_with fail;go_loopg [8] N (fun x iv wr=>∃i:Nat,i<=N/\x=N-i/\iv= .int .i64 (i:Int)/\Hid (Pr B b wr (t++joinB (l.take i))/\Below B W wr/\Lib.OthersKept 5 (some b) W wr/\Blk wr g 9 (l.map .string)));case atStart=>exact⟨0,Nat.zero_le _,z,z,HE0⟩
 case round=>
  clear HE0;obtain⟨i,hi,rfl,rfl,HE⟩:=hrel;obtain⟨h1,hb1,hk1,hg1⟩:=HE.o;by_cases hiN:i<N
  .have hlt:(i:Int)< (N:Int):=by omega
   have hp0:(0:Int)<=(i:Int):=by omega
   obtain⟨s,hs⟩:∃s,l[i]? =some s:=⟨_,List.getElem?_eq_getElem (by rw[HN.o];exact hiN)⟩;have gi:=hg1.cell i;rw[List.getElem?_map,hs]at gi;simp only[Option.map_some]at gi;have hle:=joinB_le hs;have hcl:=writeS_any B b (Lib.byteCells (t++joinB (l.take i))) s wr h1.i (by rw[Lib.byteCells_length,List.length_append];omega) h1.s;have HS:=Lib.hid hs;clear h1 hb1 hk1 hg1 hs;go_wp2_with fail;refine hcl.mono ?_;rintro e w2 ⟨rfl,hb2,hbl2,hk2⟩;obtain⟨h1,hb1,hk1,hg1⟩:=HE.o;have hsz:=hbl2.size;have HE2:Hid (Pr B b w2 (t++joinB (l.take (i+1)))/\Below B W w2/\Lib.OthersKept 5 (some b) W w2/\Blk w2 g 9 (l.map .string)):=Lib.hid ⟨⟨.inr (by rw[joinB_take HS.o,<-List.append_assoc,Lib.byteCells_append,<-Lib.strCells_eq];exact hb2),Nat.le_trans h1.s hsz⟩,hb1.trans hbl2,hk1.trans hk2,hg1.kept hk2 hgb (by decide)⟩
   clear h1 hb1 hk1 hg1 hb2 hbl2 hk2 HE hcl gi;go_wp2_with fail;go_roundg (N- (i+1));case measure=>omega
   case rel=>exact⟨i+1,by omega,z,z,HE2⟩
  .obtain rfl:i=N:=by omega
   have hlt:¬ (i:Int)< (i:Int):=by omega
   have hfin:PutP B b W (t++joinB l) (.returned (.tuple #[])) wr:=by have:l.take i=l:=List.take_of_length_le (by rw[HN.o];exact Nat.le_refl _);rw[this]at h1;exact⟨z,h1,hb1,hk1⟩
   have HF:=Lib.hid hfin;clear h1 hb1 hk1 hg1 HE hfin;go_wp2_with fail;go_end0;exact HF.o
theorem BuilderAtF.below{B:Nat}{p:Value}{bs:List Value}{w':World}(h:Lib.BuilderAtF 131 5 B b p bs w)(hb:Below w.1.size w w'):Lib.BuilderAtF 131 5 B b p bs w':=by have hlt:=h.lt;obtain⟨hB,v,hbk,hown,hne⟩:=h;exact⟨hB,v,(hb.block b hlt).trans hbk,hown.kept (row:=none) ⟨hb.os,hb.tape,hb.output,hb.size,fun k hk _=>hb.block k hk⟩ (by cases hv:v.ownBlock<;>simp),hne⟩
theorem Pr.below{B:Nat}{W':World}{t:List UInt8}(h:Pr B b W t)(hb:Below W.1.size W W'):Pr B b W' t:=
 ⟨h.i.elim (fun x=> .inl (BuilderAtF.below x hb)) (fun x=> .inr (BuilderAtF.below x hb)),Nat.le_trans h.s hb.size⟩
theorem Pr.lt{B:Nat}{t:List UInt8}(h:Pr B b W t):b<W.1.size:=h.i.elim (fun x=>x.lt) (fun x=>x.lt)
theorem kept_of_below{W':World}(hb:Below W.1.size W W')(b:Nat):Lib.OthersKept 5 (some b) W W':=fun k _o h _ _=> (hb.block k (Array.getElem?_eq_some_iff.1 h).1).trans h
structure Pw (B b:Nat) (W V:World) (t:List UInt8):Prop where
 p:Pr B b V t
 bl:Below B W V
 kp:Lib.OthersKept 5 (some b) W V
theorem Pw.put{B:Nat}{V':World}{t t':List UInt8}{e:Ending}(h:Pw B b W V t)(h2:PutP B b V t' e V'):Pw B b W V' t':=⟨h2.2.1,h.bl.trans h2.2.2.1,h.kp.trans h2.2.2.2⟩
theorem Pw.go{B:Nat}{V':World}{t t':List UInt8}(h:Pw B b W V t)(h2:Pw B b V V' t'):Pw B b W V' t':=⟨h2.p,h.bl.trans h2.bl,h.kp.trans h2.kp⟩
theorem Pw.below{B:Nat}{V':World}{t:List UInt8}(h:Pw B b W V t)(hb:Below V.1.size V V'):Pw B b W V' t:=⟨h.p.below hb,h.bl.trans (hb.mono h.p.s),h.kp.trans (kept_of_below hb b)⟩
theorem Pw.refl{B:Nat}{t:List UInt8}(h:Pr B b W t):Pw B b W W t:=⟨h,Below.refl _ _,Lib.OthersKept.refl _ _ _⟩
theorem Pw.alloc{B:Nat}{t:List UInt8}(h:Pw B b W V t)(o:Obj):Pw B b W (V.alloc o) t:=h.below ((Below.refl _ V).alloc (Nat.le_refl _) o)
theorem bind_mk(k n:Int)(s:ByteArray)(sl:Int)(lo:Bool)(o:Int)(args:List Ex):Ex.bind (.mk k n s sl lo o args)=if k=6 then rankOf o.toNat else if k=4∨k=5 then 6 else 7:=by unfold Ex.bind;rfl
theorem rankOf_any{cs:List Value}{k n:Int}{sl:Int}{lo:Bool}{o:Int}{args:List Ex}{ok:Nat->Prop}(hO:Ops W)(h:ExL ok W cs (.mk k n s sl lo o args))(ho:k=6->1<=o/\o<=11):
  Calls Tryz.prog 182 #[.agg cs.toArray] W fun e w'=>e= .returned (.int .i64 ((Ex.bind (.mk k n s sl lo o args):Nat):Int))/\Below W.1.size W w':=by
 unfold ExL at h;obtain⟨a,cap,rfl,hc,-⟩:=h;have hb0:Below W.1.size W (W.alloc (.cells #[.int .i64 k,.int .i64 n,.string s,.int .i64 sl,.bool lo,.int .i64 o,.slice a args.length cap] 58)):=(Below.refl _ W).alloc (Nat.le_refl _) _;have hz0:=Blk.new W 58 [.int .i64 k,.int .i64 n,.string s,.int .i64 sl,.bool lo,.int .i64 o,.slice a args.length cap];have hO1:=hO.below hb0;rw[bind_mk];rcases neOr k 6 with h6|h6
 .rw[if_neg h6];rcases neOr k 4 with h4|h4
  .rcases neOr k 5 with h5|h5
   .rw[if_neg (by rintro(h|h);exact h4 h;exact h5 h)];have e4:(k==4)=false:=by simpa using h4
    have e5:(k==5)=false:=by simpa using h5
    have e6:(k==6)=false:=by simpa using h6
    have HB:=Lib.hid hb0;clear hb0 hz0 hO1 hO;go_enter Tryz.func182,Tryz.ntmps182;go_wp2_with fail;go_ret;exact⟨z,HB.o⟩
   .subst h5;rw[if_pos (.inr rfl)];have HB:=Lib.hid hb0;clear hb0 hz0 hO1 hO h4 h6;go_enter Tryz.func182,Tryz.ntmps182;go_wp2_with fail;go_ret;exact⟨z,HB.o⟩
  .subst h4;rw[if_pos (.inl rfl)];have HB:=Lib.hid hb0;clear hb0 hz0 hO1 hO h6;go_enter Tryz.func182,Tryz.ntmps182;go_wp2_with fail;go_ret;exact⟨z,HB.o⟩
 .subst h6;rw[if_pos rfl];obtain⟨o1,o2⟩:=ho z;obtain⟨on,rfl⟩:∃on:Nat,o=(on:Int):=⟨o.toNat,by omega⟩;have hr:=hO1 (on*2+1) (by omega);have hrk:opC (on*2+1)= .int .i64 ((rankOf on:Nat):Int):=by unfold opC;rw[if_neg (by omega),show (on*2+1)/2=on by omega];rfl
  rw[hrk]at hr;have hp0:(0:Int)<=(on:Int):=by omega
  have hp1:(on:Int)<12:=by omega
  rw[show ((on:Int)).toNat=on by omega];have HB:=Lib.hid hb0;clear hb0 hz0 hO1 hO hrk;go_enter Tryz.func182,Tryz.ntmps182;go_wp2_with fail;go_ret;exact⟨z,HB.o⟩
def Tab(w:World):Prop:=Lib.TabIs Tryz.prog w "internal/strconv.uint64pow10" .u64 Lib.pow10Tab
theorem gPow:Tryz.prog.globalNamed "internal/strconv.uint64pow10"=some 2:=by kernel_rfl
theorem Tab.below{B:Nat}{w':World}(h:Tab w)(hb:Below B w w')(h0:2<B):Tab w':=var?_below hb gPow h0 h
theorem grow_below(w:World)(k:Nat)(os:Array Obj):Below w.1.size w (Sort.grow (w.drewN k) os):=
 ⟨z,z,z,by simp[Sort.grow,World.drewN],fun i hi=>by show (w.1++os)[i]? =_;rw[Array.getElem?_append_left hi]⟩
theorem exR_cases{k n:Int}{sl:Int}{lo:Bool}{o:Int}{args:List Ex}(h:exR isName (.mk k n s sl lo o args) (d+1)=true):
  (k=1/\args=[]/\0<=n/\n<=2147483647)∨(k=2/\args=[])∨((k=3∨k=4∨k=5)/\∃x,args=[x]/\exR isName x d=true)∨(k=6/\∃x y,args=[x,y]/\exR isName x d=true/\exR isName y d=true/\1<=o/\o<=11):=by
 rw[exR_eq]at h;simp only[Bool.and_eq_true,decide_eq_true_eq,Nat.add_sub_cancel]at h;obtain⟨-,-,-,-,hk,hl,ha⟩:=h;unfold kindOk at hk;unfold arity at hl;unfold exsR at ha;by_cases h1:k=1
 .subst h1;simp at hk hl;exact .inl ⟨rfl,hl,hk⟩
 .rw[if_neg h1]at hk;by_cases h6:k=6
  .subst h6;simp at hk hl;rcases args with _|⟨x,_|⟨y,_|⟨z,r⟩⟩⟩
   .simp at hl
   .simp at hl
   .simp at ha;exact .inr (.inr (.inr ⟨rfl,x,y,rfl,ha.1,ha.2,hk.1,hk.2⟩))
   .simp at hl
  .rw[if_neg h6]at hk hl;simp at hk;by_cases h2:k=2
   .subst h2;simp at hl;exact .inr (.inl ⟨rfl,hl⟩)
   .rw[if_neg (by rintro(h|h);exact h1 h;exact h2 h)]at hl;rcases args with _|⟨x,_|⟨y,r⟩⟩
    .simp at hl
    .simp at ha;exact .inr (.inr (.inl ⟨by omega,x,rfl,ha⟩))
    .simp at hl
theorem bind_ge{x:Ex}(h:exR isName x d=true):1<=x.bind:=by
 obtain⟨k,n,s,sl,lo,o,args⟩:=x;cases d with
 |zero=>
  rw[exR_eq]at h;simp at h
 |succ d=>
  rw[bind_mk];rcases exR_cases h with ⟨rfl,-⟩|⟨rfl,-⟩|⟨hk,-⟩|⟨rfl,x,y,-,-,-,h1,h2⟩
  .simp
  .simp
  .rcases hk with rfl|rfl|rfl<;>simp
  .rw[if_pos rfl];have:∀o,o<12->1<=o->1<=rankOf o:=by decide
   exact this _ (by omega) (by omega)
theorem exW_one{x:Ex}(h:exR isName x d=true):exW x 1=exT x:=by unfold exW par;rw[if_neg (by have:=bind_ge h;omega)]
theorem rangeB{o:Nat}{cs:List Value}(h:w0.rangeAt b o cs)(hb:Below w0.1.size w0 V):V.rangeAt b o cs:=fun j v hv=>by have:=h j v hv;rw[<-this];simp[World.cell?,hb.block b (World.block_lt_of_cell? w0 _ this)]
theorem put_new{B:Nat}{t:List UInt8}(l:List ByteArray)(h:Pw B b W V t)(hlen:t.length+(joinB l).length<=140737488355328)(hl:l.length<=100):
  Calls Tryz.prog 89 #[.pointer (some ⟨b,0,none⟩),.slice (some ⟨V.1.size,0,none⟩) l.length l.length] (V.alloc (.cells (l.map .string).toArray 9)) fun e w'=>e= .returned (.tuple #[])/\Pw B b W w' (t++joinB l):=
 (put_any l (h.alloc _).p (Blk.new V 9 (l.map .string)) (by have:=h.p.lt;omega) hlen hl).mono fun _ _ h2=>⟨h2.1,(h.alloc _).put h2⟩
def ExpOk(w0:World)(d:Nat):Prop:=∀ (x:Ex) (cs:List Value) (m b:Nat) (t:List UInt8) (W:World),exR isName x d=true->ExL (fun _=>True) w0 cs x->Below w0.1.size w0 W->Pr w0.1.size b W t->t.length+(exW x m).length<=140737488355328->
 Calls Tryz.prog 163 #[.pointer (some ⟨b,0,none⟩),.agg cs.toArray,.int .i64 (m:Int)] W fun e w'=>e= .returned (.tuple #[])/\Pw w0.1.size b W w' (t++exW x m)
theorem ex1{z rk:Nat}{t:List UInt8}{n:Int}{sl:Int}{lo:Bool}{o:Int}{cap:Nat}{_x _y:Ex}{ds:List Deferred}{R:Ending->World->Prop}(_hO:Ops w0)(hT:Tab w0)(h0:7<w0.1.size)(_ih:ExpOk w0 d)(hn:0<=n/\n<=2147483647)(hw:Below w0.1.size w0 W)(hp:Pr w0.1.size b W t)
  (hz:Blk W z 58 [.int .i64 1,.int .i64 n,.string s,.int .i64 sl,.bool lo,.int .i64 o,.slice a 0 cap])(_hzb:z≠b)(_hargs:ExsL (fun _=>True) w0 a 0 [])(hlen:t.length+(Lib.itoa n).length<=140737488355328)
  (hF0:∀ (tm:Array Value) (V:World),Pw w0.1.size b W V (t++Lib.itoa n)->Leaves Tryz.prog Tryz.f163 tm R ds .returning V){u10 u11 u12 u13 u14 u15 u16 u17 u18 u19 u20 u21 u22 u23 u24 u25 u26 u27 u28 u29 u30 u31 u32 u33 u34 u35 u36 u37 u38 u39 u40 u41 u42 u43 u44 u45 u46 u47 u48 u49 u50 u51 u52 u53 u54 u55 u56 u57 u58 u59 u60 u61 u62 u63 u64 u65 u66 u67 u68 u69 u70 u71 u72 u73 u74 u75 u76 u77 u78 u79 u80 u81 u82 u83 u84 u85 u86 u87 u88 u89 u90 u91 u92 u93 u94 u95 u96 u97 u98 u99 u100 u101 u102:Value}:
  Code.wp Tryz.prog (dropS 3 (Tryz.f163.body.getD .skip)) (bodyPostD Tryz.prog Tryz.f163 R) ⟨#[.pointer (some ⟨b,0,none⟩),u1,u2,u3,.pointer (some ⟨z,0,none⟩),u5,.int .i64 (rk:Int),u7,u8,u9,u10,u11,u12,u13,u14,u15,u16,u17,u18,u19,u20,u21,u22,u23,u24,u25,u26,u27,u28,u29,u30,u31,u32,u33,u34,u35,u36,u37,u38,u39,u40,u41,u42,u43,u44,u45,u46,u47,u48,u49,u50,u51,u52,u53,u54,u55,u56,u57,u58,u59,u60,u61,u62,u63,u64,u65,u66,u67,u68,u69,u70,u71,u72,u73,u74,u75,u76,u77,u78,u79,u80,u81,u82,u83,u84,u85,u86,u87,u88,u89,u90,u91,u92,u93,u94,u95,u96,u97,u98,u99,u100,u101,u102],ds⟩ W:=by
 obtain⟨d46,hu46,hr46⟩:=under46;conv in (dropS _ _)=>whnf
 have HF:=Lib.hid hF0;clear hF0;have HZ:=Lib.hid hz;have HP:=Lib.hid (Pw.refl hp);have c0:=hz.cell 0;have c1:=hz.cell 1;have c2:=hz.cell 2;have c5:=hz.cell 5;have c6:=hz.cell 6;simp only[List.getElem?_cons_succ,List.getElem?_cons_zero]at c0 c1 c2 c5 c6;have hcn:=Tryz.strconv_FormatInt_10 n (by omega) (by omega) W (Tab.below hT hw (by omega));clear hz hp;go_wp2_with fail;refine hcn.mono ?_;rintro e V1 ⟨rfl,k1,os1,rfl⟩;have hb1:=grow_below W k1 os1;have HP2:=HP.o.below hb1;clear HP hcn c0 c1 c2 c5 c6;generalize Sort.grow (W.drewN k1) os1=V1 at *;have HP:=Lib.hid HP2;clear HP2;have hcl:=put_new [⟨(Lib.itoa n).toArray⟩] HP.o (by have:=hlen;simp[joinB]at this ⊢;omega) (by simp);go_wp2_with fail
 refine hcl.mono ?_;rintro e V2 ⟨rfl,HPn⟩;have HP:=Lib.hid HPn;clear hcl HPn;go_wp2_with fail;refine HF.o _ _ ?_;have:=HP.o;simpa [joinB]using this
theorem ex2{z rk:Nat}{t:List UInt8}{n:Int}{sl:Int}{lo:Bool}{o:Int}{cap:Nat}{_x _y:Ex}{ds:List Deferred}{R:Ending->World->Prop}(_hO:Ops w0)(_hT:Tab w0)(_h0:7<w0.1.size)(_ih:ExpOk w0 d)(_hw:Below w0.1.size w0 W)(hp:Pr w0.1.size b W t)
  (hz:Blk W z 58 [.int .i64 2,.int .i64 n,.string s,.int .i64 sl,.bool lo,.int .i64 o,.slice a 0 cap])(_hzb:z≠b)(_hargs:ExsL (fun _=>True) w0 a 0 [])(hlen:t.length+(s.data.toList).length<=140737488355328)
  (hF0:∀ (tm:Array Value) (V:World),Pw w0.1.size b W V (t++s.data.toList)->Leaves Tryz.prog Tryz.f163 tm R ds .returning V){u10 u11 u12 u13 u14 u15 u16 u17 u18 u19 u20 u21 u22 u23 u24 u25 u26 u27 u28 u29 u30 u31 u32 u33 u34 u35 u36 u37 u38 u39 u40 u41 u42 u43 u44 u45 u46 u47 u48 u49 u50 u51 u52 u53 u54 u55 u56 u57 u58 u59 u60 u61 u62 u63 u64 u65 u66 u67 u68 u69 u70 u71 u72 u73 u74 u75 u76 u77 u78 u79 u80 u81 u82 u83 u84 u85 u86 u87 u88 u89 u90 u91 u92 u93 u94 u95 u96 u97 u98 u99 u100 u101 u102:Value}:
  Code.wp Tryz.prog (dropS 3 (Tryz.f163.body.getD .skip)) (bodyPostD Tryz.prog Tryz.f163 R) ⟨#[.pointer (some ⟨b,0,none⟩),u1,u2,u3,.pointer (some ⟨z,0,none⟩),u5,.int .i64 (rk:Int),u7,u8,u9,u10,u11,u12,u13,u14,u15,u16,u17,u18,u19,u20,u21,u22,u23,u24,u25,u26,u27,u28,u29,u30,u31,u32,u33,u34,u35,u36,u37,u38,u39,u40,u41,u42,u43,u44,u45,u46,u47,u48,u49,u50,u51,u52,u53,u54,u55,u56,u57,u58,u59,u60,u61,u62,u63,u64,u65,u66,u67,u68,u69,u70,u71,u72,u73,u74,u75,u76,u77,u78,u79,u80,u81,u82,u83,u84,u85,u86,u87,u88,u89,u90,u91,u92,u93,u94,u95,u96,u97,u98,u99,u100,u101,u102],ds⟩ W:=by
 obtain⟨d46,hu46,hr46⟩:=under46;conv in (dropS _ _)=>whnf
 have HF:=Lib.hid hF0;clear hF0;have HZ:=Lib.hid hz;have HP:=Lib.hid (Pw.refl hp);have c0:=hz.cell 0;have c1:=hz.cell 1;have c2:=hz.cell 2;have c5:=hz.cell 5;have c6:=hz.cell 6;simp only[List.getElem?_cons_succ,List.getElem?_cons_zero]at c0 c1 c2 c5 c6;clear hz hp;have hcl:=put_new [s] HP.o (by have:=hlen;simp[joinB]at this ⊢;omega) (by simp);go_wp2_with fail;refine hcl.mono ?_;rintro e V2 ⟨rfl,HPn⟩;have HP:=Lib.hid HPn;clear hcl HPn;go_wp2_with fail;refine HF.o _ _ ?_;have:=HP.o;simpa [joinB]using this
theorem ex3{z rk:Nat}{t:List UInt8}{n:Int}{sl:Int}{lo:Bool}{o:Int}{cap:Nat}{x _y:Ex}{ds:List Deferred}{R:Ending->World->Prop}(_hO:Ops w0)(_hT:Tab w0)(_h0:7<w0.1.size)(ih:ExpOk w0 d)(hx:exR isName x d=true)(hw:Below w0.1.size w0 W)(hp:Pr w0.1.size b W t)
  (hz:Blk W z 58 [.int .i64 3,.int .i64 n,.string s,.int .i64 sl,.bool lo,.int .i64 o,.slice a 1 cap])(hzb:z≠b)(hargs:ExsL (fun _=>True) w0 a 0 [x])(hlen:t.length+((s.data.toList++(91::(exT x++[93])))).length<=140737488355328)
  (hF0:∀ (tm:Array Value) (V:World),Pw w0.1.size b W V (t++(s.data.toList++(91::(exT x++[93]))))->Leaves Tryz.prog Tryz.f163 tm R ds .returning V){u10 u11 u12 u13 u14 u15 u16 u17 u18 u19 u20 u21 u22 u23 u24 u25 u26 u27 u28 u29 u30 u31 u32 u33 u34 u35 u36 u37 u38 u39 u40 u41 u42 u43 u44 u45 u46 u47 u48 u49 u50 u51 u52 u53 u54 u55 u56 u57 u58 u59 u60 u61 u62 u63 u64 u65 u66 u67 u68 u69 u70 u71 u72 u73 u74 u75 u76 u77 u78 u79 u80 u81 u82 u83 u84 u85 u86 u87 u88 u89 u90 u91 u92 u93 u94 u95 u96 u97 u98 u99 u100 u101 u102:Value}:
  Code.wp Tryz.prog (dropS 3 (Tryz.f163.body.getD .skip)) (bodyPostD Tryz.prog Tryz.f163 R) ⟨#[.pointer (some ⟨b,0,none⟩),u1,u2,u3,.pointer (some ⟨z,0,none⟩),u5,.int .i64 (rk:Int),u7,u8,u9,u10,u11,u12,u13,u14,u15,u16,u17,u18,u19,u20,u21,u22,u23,u24,u25,u26,u27,u28,u29,u30,u31,u32,u33,u34,u35,u36,u37,u38,u39,u40,u41,u42,u43,u44,u45,u46,u47,u48,u49,u50,u51,u52,u53,u54,u55,u56,u57,u58,u59,u60,u61,u62,u63,u64,u65,u66,u67,u68,u69,u70,u71,u72,u73,u74,u75,u76,u77,u78,u79,u80,u81,u82,u83,u84,u85,u86,u87,u88,u89,u90,u91,u92,u93,u94,u95,u96,u97,u98,u99,u100,u101,u102],ds⟩ W:=by
 obtain⟨d46,hu46,hr46⟩:=under46;conv in (dropS _ _)=>whnf
 have HF:=Lib.hid hF0;clear hF0;have HZ:=Lib.hid hz;have HP:=Lib.hid (Pw.refl hp);have c0:=hz.cell 0;have c1:=hz.cell 1;have c2:=hz.cell 2;have c5:=hz.cell 5;have c6:=hz.cell 6;simp only[List.getElem?_cons_succ,List.getElem?_cons_zero]at c0 c1 c2 c5 c6;clear hz hp;have e1:=exW_one hx;have hcl:=put_new [s,⟨#[91]⟩] HP.o (by have:=hlen;simp[joinB]at this ⊢;omega) (by simp);go_wp2_with fail;refine hcl.mono ?_;rintro e V1 ⟨rfl,HPn⟩;have HP:=Lib.hid HPn;clear hcl HPn c0 c1 c2 c5 c6;obtain⟨b2,off2,cs1,ea,hr,hL⟩:=XlAt.at (show XlAt w0 a _ from hargs) (j:=0) (by simp);have hz2:=HZ.o.kept HP.o.kp hzb (by decide);have c6:=hz2.cell 6;simp only[List.getElem?_cons_succ,List.getElem?_cons_zero]at c6
 rw[ea]at c6;have hV:=hw.trans HP.o.bl;have hr2:=rangeB hr hV;simp only[Nat.zero_mul,Nat.add_zero]at hr2;have hl7:=hL.cells.1;have hcl:=ih x cs1 1 b _ V1 hx hL hV HP.o.p (by have:=hlen;rw[e1];simp[joinB]at this ⊢;omega);rw[show ((1:Nat):Int)=1 from rfl]at hcl;have HRG:=Lib.hid (And.intro hr2 hl7);clear hr hL hz2 hV hr2 ea;go_wp2_with ((with_reducible show wpList _ _ _ (Oper.mk _ (.load 58 _) _ _ _ _::_) _ _);refine wpList_load_mid rfl 58 (.tmp 45) rfl b2 off2 rfl cs1 d46 HRG.o.1 hu46 hr46 (by rw[HRG.o.2];exact info46) ?_);refine hcl.mono ?_;rintro e V2 ⟨rfl,HPn⟩;have HP:=Lib.hid (HP.o.go HPn);clear hcl HPn c6 hl7 HRG
 have hcl:=put_new [⟨#[93]⟩] HP.o (by have:=hlen;rw[e1];simp[joinB]at this ⊢;omega) (by simp);go_wp2_with fail;refine hcl.mono ?_;rintro e V3 ⟨rfl,HPn⟩;have HP:=Lib.hid HPn;clear hcl HPn;go_wp2_with fail;refine HF.o _ _ ?_;have:=HP.o;rw[e1]at this;simpa [joinB]using this
theorem ex4{z rk:Nat}{t:List UInt8}{n:Int}{sl:Int}{lo:Bool}{o:Int}{cap:Nat}{x _y:Ex}{ds:List Deferred}{R:Ending->World->Prop}(_hO:Ops w0)(_hT:Tab w0)(_h0:7<w0.1.size)(ih:ExpOk w0 d)(hx:exR isName x d=true)(hw:Below w0.1.size w0 W)(hp:Pr w0.1.size b W t)
  (hz:Blk W z 58 [.int .i64 4,.int .i64 n,.string s,.int .i64 sl,.bool lo,.int .i64 o,.slice a 1 cap])(hzb:z≠b)(hargs:ExsL (fun _=>True) w0 a 0 [x])(hlen:t.length+((45::exW x 6)).length<=140737488355328)
  (hF0:∀ (tm:Array Value) (V:World),Pw w0.1.size b W V (t++(45::exW x 6))->Leaves Tryz.prog Tryz.f163 tm R ds .returning V){u10 u11 u12 u13 u14 u15 u16 u17 u18 u19 u20 u21 u22 u23 u24 u25 u26 u27 u28 u29 u30 u31 u32 u33 u34 u35 u36 u37 u38 u39 u40 u41 u42 u43 u44 u45 u46 u47 u48 u49 u50 u51 u52 u53 u54 u55 u56 u57 u58 u59 u60 u61 u62 u63 u64 u65 u66 u67 u68 u69 u70 u71 u72 u73 u74 u75 u76 u77 u78 u79 u80 u81 u82 u83 u84 u85 u86 u87 u88 u89 u90 u91 u92 u93 u94 u95 u96 u97 u98 u99 u100 u101 u102:Value}:
  Code.wp Tryz.prog (dropS 3 (Tryz.f163.body.getD .skip)) (bodyPostD Tryz.prog Tryz.f163 R) ⟨#[.pointer (some ⟨b,0,none⟩),u1,u2,u3,.pointer (some ⟨z,0,none⟩),u5,.int .i64 (rk:Int),u7,u8,u9,u10,u11,u12,u13,u14,u15,u16,u17,u18,u19,u20,u21,u22,u23,u24,u25,u26,u27,u28,u29,u30,u31,u32,u33,u34,u35,u36,u37,u38,u39,u40,u41,u42,u43,u44,u45,u46,u47,u48,u49,u50,u51,u52,u53,u54,u55,u56,u57,u58,u59,u60,u61,u62,u63,u64,u65,u66,u67,u68,u69,u70,u71,u72,u73,u74,u75,u76,u77,u78,u79,u80,u81,u82,u83,u84,u85,u86,u87,u88,u89,u90,u91,u92,u93,u94,u95,u96,u97,u98,u99,u100,u101,u102],ds⟩ W:=by
 obtain⟨d46,hu46,hr46⟩:=under46;conv in (dropS _ _)=>whnf
 have HF:=Lib.hid hF0;clear hF0;have HZ:=Lib.hid hz;have HP:=Lib.hid (Pw.refl hp);have c0:=hz.cell 0;have c1:=hz.cell 1;have c2:=hz.cell 2;have c5:=hz.cell 5;have c6:=hz.cell 6;simp only[List.getElem?_cons_succ,List.getElem?_cons_zero]at c0 c1 c2 c5 c6;clear hz hp;have hcl:=put_new [⟨#[45]⟩] HP.o (by have:=hlen;simp[joinB]at this ⊢;omega) (by simp);go_wp2_with fail;refine hcl.mono ?_;rintro e V1 ⟨rfl,HPn⟩;have HP:=Lib.hid HPn;clear hcl HPn c0 c1 c2 c5 c6;obtain⟨b2,off2,cs1,ea,hr,hL⟩:=XlAt.at (show XlAt w0 a _ from hargs) (j:=0) (by simp);have hz2:=HZ.o.kept HP.o.kp hzb (by decide);have c6:=hz2.cell 6;simp only[List.getElem?_cons_succ,List.getElem?_cons_zero]at c6;rw[ea]at c6
 have hV:=hw.trans HP.o.bl;have hr2:=rangeB hr hV;simp only[Nat.zero_mul,Nat.add_zero]at hr2;have hl7:=hL.cells.1;have hcl:=ih x cs1 6 b _ V1 hx hL hV HP.o.p (by have:=hlen;simp[joinB]at this ⊢;omega);rw[show ((6:Nat):Int)=6 from rfl]at hcl;have HRG:=Lib.hid (And.intro hr2 hl7);clear hr hL hz2 hV hr2 ea;go_wp2_with ((with_reducible show wpList _ _ _ (Oper.mk _ (.load 58 _) _ _ _ _::_) _ _);refine wpList_load_mid rfl 58 (.tmp 59) rfl b2 off2 rfl cs1 d46 HRG.o.1 hu46 hr46 (by rw[HRG.o.2];exact info46) ?_);refine hcl.mono ?_;rintro e V2 ⟨rfl,HPn⟩;have HP:=Lib.hid (HP.o.go HPn);clear hcl HPn c6 hl7 HRG;go_wp2_with fail;refine HF.o _ _ ?_;have:=HP.o;simpa [joinB]using this
theorem ex5{z rk:Nat}{t:List UInt8}{n:Int}{sl:Int}{lo:Bool}{o:Int}{cap:Nat}{x _y:Ex}{ds:List Deferred}{R:Ending->World->Prop}(_hO:Ops w0)(_hT:Tab w0)(_h0:7<w0.1.size)(ih:ExpOk w0 d)(hx:exR isName x d=true)(hw:Below w0.1.size w0 W)(hp:Pr w0.1.size b W t)
  (hz:Blk W z 58 [.int .i64 5,.int .i64 n,.string s,.int .i64 sl,.bool lo,.int .i64 o,.slice a 1 cap])(hzb:z≠b)(hargs:ExsL (fun _=>True) w0 a 0 [x])(hlen:t.length+((33::exW x 6)).length<=140737488355328)
  (hF0:∀ (tm:Array Value) (V:World),Pw w0.1.size b W V (t++(33::exW x 6))->Leaves Tryz.prog Tryz.f163 tm R ds .returning V){u10 u11 u12 u13 u14 u15 u16 u17 u18 u19 u20 u21 u22 u23 u24 u25 u26 u27 u28 u29 u30 u31 u32 u33 u34 u35 u36 u37 u38 u39 u40 u41 u42 u43 u44 u45 u46 u47 u48 u49 u50 u51 u52 u53 u54 u55 u56 u57 u58 u59 u60 u61 u62 u63 u64 u65 u66 u67 u68 u69 u70 u71 u72 u73 u74 u75 u76 u77 u78 u79 u80 u81 u82 u83 u84 u85 u86 u87 u88 u89 u90 u91 u92 u93 u94 u95 u96 u97 u98 u99 u100 u101 u102:Value}:
  Code.wp Tryz.prog (dropS 3 (Tryz.f163.body.getD .skip)) (bodyPostD Tryz.prog Tryz.f163 R) ⟨#[.pointer (some ⟨b,0,none⟩),u1,u2,u3,.pointer (some ⟨z,0,none⟩),u5,.int .i64 (rk:Int),u7,u8,u9,u10,u11,u12,u13,u14,u15,u16,u17,u18,u19,u20,u21,u22,u23,u24,u25,u26,u27,u28,u29,u30,u31,u32,u33,u34,u35,u36,u37,u38,u39,u40,u41,u42,u43,u44,u45,u46,u47,u48,u49,u50,u51,u52,u53,u54,u55,u56,u57,u58,u59,u60,u61,u62,u63,u64,u65,u66,u67,u68,u69,u70,u71,u72,u73,u74,u75,u76,u77,u78,u79,u80,u81,u82,u83,u84,u85,u86,u87,u88,u89,u90,u91,u92,u93,u94,u95,u96,u97,u98,u99,u100,u101,u102],ds⟩ W:=by
 obtain⟨d46,hu46,hr46⟩:=under46;conv in (dropS _ _)=>whnf
 have HF:=Lib.hid hF0;clear hF0;have HZ:=Lib.hid hz;have HP:=Lib.hid (Pw.refl hp);have c0:=hz.cell 0;have c1:=hz.cell 1;have c2:=hz.cell 2;have c5:=hz.cell 5;have c6:=hz.cell 6;simp only[List.getElem?_cons_succ,List.getElem?_cons_zero]at c0 c1 c2 c5 c6;clear hz hp;have hcl:=put_new [⟨#[33]⟩] HP.o (by have:=hlen;simp[joinB]at this ⊢;omega) (by simp);go_wp2_with fail;refine hcl.mono ?_;rintro e V1 ⟨rfl,HPn⟩;have HP:=Lib.hid HPn;clear hcl HPn c0 c1 c2 c5 c6;obtain⟨b2,off2,cs1,ea,hr,hL⟩:=XlAt.at (show XlAt w0 a _ from hargs) (j:=0) (by simp);have hz2:=HZ.o.kept HP.o.kp hzb (by decide);have c6:=hz2.cell 6;simp only[List.getElem?_cons_succ,List.getElem?_cons_zero]at c6;rw[ea]at c6
 have hV:=hw.trans HP.o.bl;have hr2:=rangeB hr hV;simp only[Nat.zero_mul,Nat.add_zero]at hr2;have hl7:=hL.cells.1;have hcl:=ih x cs1 6 b _ V1 hx hL hV HP.o.p (by have:=hlen;simp[joinB]at this ⊢;omega);rw[show ((6:Nat):Int)=6 from rfl]at hcl;have HRG:=Lib.hid (And.intro hr2 hl7);clear hr hL hz2 hV hr2 ea;go_wp2_with ((with_reducible show wpList _ _ _ (Oper.mk _ (.load 58 _) _ _ _ _::_) _ _);refine wpList_load_mid rfl 58 (.tmp 70) rfl b2 off2 rfl cs1 d46 HRG.o.1 hu46 hr46 (by rw[HRG.o.2];exact info46) ?_);refine hcl.mono ?_;rintro e V2 ⟨rfl,HPn⟩;have HP:=Lib.hid (HP.o.go HPn);clear hcl HPn c6 hl7 HRG;go_wp2_with fail;refine HF.o _ _ ?_;have:=HP.o;simpa [joinB]using this
theorem ex6{z rk:Nat}{t:List UInt8}{n:Int}{sl:Int}{lo:Bool}{o:Int}{cap:Nat}{x y:Ex}{ds:List Deferred}{R:Ending->World->Prop}(hO:Ops w0)(_hT:Tab w0)(_h0:7<w0.1.size)(ih:ExpOk w0 d)(hx:exR isName x d=true)(hy:exR isName y d=true)(hon:∃on:Nat,o=(on:Int)/\on<12)(hrkb:rk<=5)(hw:Below w0.1.size w0 W)(hp:Pr w0.1.size b W t)
  (hz:Blk W z 58 [.int .i64 6,.int .i64 n,.string s,.int .i64 sl,.bool lo,.int .i64 o,.slice a 2 cap])(hzb:z≠b)(hargs:ExsL (fun _=>True) w0 a 0 [x,y])(hlen:t.length+((exW x (if rk=3 then 4 else rk)++(32::((opS.getD o.toNat noB).data.toList++(32::exW y (rk+1)))))).length<=140737488355328)
  (hF0:∀ (tm:Array Value) (V:World),Pw w0.1.size b W V (t++(exW x (if rk=3 then 4 else rk)++(32::((opS.getD o.toNat noB).data.toList++(32::exW y (rk+1))))))->Leaves Tryz.prog Tryz.f163 tm R ds .returning V){u10 u11 u12 u13 u14 u15 u16 u17 u18 u19 u20 u21 u22 u23 u24 u25 u26 u27 u28 u29 u30 u31 u32 u33 u34 u35 u36 u37 u38 u39 u40 u41 u42 u43 u44 u45 u46 u47 u48 u49 u50 u51 u52 u53 u54 u55 u56 u57 u58 u59 u60 u61 u62 u63 u64 u65 u66 u67 u68 u69 u70 u71 u72 u73 u74 u75 u76 u77 u78 u79 u80 u81 u82 u83 u84 u85 u86 u87 u88 u89 u90 u91 u92 u93 u94 u95 u96 u97 u98 u99 u100 u101 u102:Value}:
  Code.wp Tryz.prog (dropS 3 (Tryz.f163.body.getD .skip)) (bodyPostD Tryz.prog Tryz.f163 R) ⟨#[.pointer (some ⟨b,0,none⟩),u1,u2,u3,.pointer (some ⟨z,0,none⟩),u5,.int .i64 (rk:Int),u7,u8,u9,u10,u11,u12,u13,u14,u15,u16,u17,u18,u19,u20,u21,u22,u23,u24,u25,u26,u27,u28,u29,u30,u31,u32,u33,u34,u35,u36,u37,u38,u39,u40,u41,u42,u43,u44,u45,u46,u47,u48,u49,u50,u51,u52,u53,u54,u55,u56,u57,u58,u59,u60,u61,u62,u63,u64,u65,u66,u67,u68,u69,u70,u71,u72,u73,u74,u75,u76,u77,u78,u79,u80,u81,u82,u83,u84,u85,u86,u87,u88,u89,u90,u91,u92,u93,u94,u95,u96,u97,u98,u99,u100,u101,u102],ds⟩ W:=by
 obtain⟨d46,hu46,hr46⟩:=under46;conv in (dropS _ _)=>whnf
 have HF:=Lib.hid hF0;clear hF0;have HZ:=Lib.hid hz;have HP:=Lib.hid (Pw.refl hp);have c0:=hz.cell 0;have c1:=hz.cell 1;have c2:=hz.cell 2;have c5:=hz.cell 5;have c6:=hz.cell 6;simp only[List.getElem?_cons_succ,List.getElem?_cons_zero]at c0 c1 c2 c5 c6;clear hz hp;obtain⟨on,rfl,hon⟩:=hon;rw[show ((on:Int)).toNat=on by omega]at HF hlen;have hp0:(0:Int)<=(on:Int):=by omega
 have hp1:(on:Int)<12:=by omega
 rcases neOr rk 3 with h3|h3
 .skip;rw[if_neg h3]at HF hlen;have h3i:((rk:Int)==3)=false:=by rw[beq_eq_false_iff_ne];omega
  clear c1 c2 c5 c6;obtain⟨b2,off2,cs1,ea,hr,hL⟩:=XlAt.at (show XlAt w0 a _ from hargs) (j:=0) (by simp);have hz2:=HZ.o.kept HP.o.kp hzb (by decide);have c6:=hz2.cell 6;simp only[List.getElem?_cons_succ,List.getElem?_cons_zero]at c6;rw[ea]at c6;have hV:=hw.trans HP.o.bl;have hr2:=rangeB hr hV;simp only[Nat.zero_mul,Nat.add_zero]at hr2;have hl7:=hL.cells.1;have hcl:=ih x cs1 rk b _ W hx hL hV HP.o.p (by have:=hlen;simp at this ⊢;omega);skip;have HRG:=Lib.hid (And.intro hr2 hl7);clear hr hL hz2 hV hr2 ea
  go_wp2_with ((with_reducible show wpList _ _ _ (Oper.mk _ (.load 58 _) _ _ _ _::_) _ _);refine wpList_load_mid rfl 58 (.tmp 83) rfl b2 off2 rfl cs1 d46 HRG.o.1 hu46 hr46 (by rw[HRG.o.2];exact info46) ?_);refine hcl.mono ?_;rintro e V1 ⟨rfl,HPn⟩;have HP:=Lib.hid (HP.o.go HPn);clear hcl HPn c6 hl7 HRG;have hz2:=HZ.o.kept HP.o.kp hzb (by decide);have c5:=hz2.cell 5;have hr0:=(hO.below (hw.trans HP.o.bl)) (on*2) (by omega);have hrk0:opC (on*2)= .string (opS.getD on noB):=by unfold opC;rw[if_pos (by omega),show on*2/2=on by omega]
  rw[hrk0]at hr0;simp only[List.getElem?_cons_succ,List.getElem?_cons_zero]at c5;clear hz2 hrk0;obtain⟨ops,hops⟩:∃ops,opS.getD on noB=ops:=⟨_,rfl⟩;rw[hops]at hr0 HF hlen;clear hops;have hcl:=put_new [⟨#[32]⟩,ops,⟨#[32]⟩] HP.o (by have:=hlen;simp[joinB]at this ⊢;omega) (by simp);go_wp2_with fail;refine hcl.mono ?_;rintro e V2 ⟨rfl,HPn⟩;have HP:=Lib.hid HPn;clear hcl HPn hr0 c5;obtain⟨b2,off2,cs1,ea,hr,hL⟩:=XlAt.at (show XlAt w0 a _ from hargs) (j:=1) (by simp);have hz2:=HZ.o.kept HP.o.kp hzb (by decide);have c6:=hz2.cell 6;simp only[List.getElem?_cons_succ,List.getElem?_cons_zero]at c6;rw[ea]at c6;have hV:=hw.trans HP.o.bl;have hr2:=rangeB hr hV;simp only[Nat.one_mul]at hr2
  have hl7:=hL.cells.1;have hcl:=ih y cs1 (rk+1) b _ V2 hy hL hV HP.o.p (by have:=hlen;simp[joinB]at this ⊢;omega);rw[show (((rk+1:Nat)):Int)=(rk:Int)+1 by omega]at hcl;have HRG:=Lib.hid (And.intro hr2 hl7);clear hr hL hz2 hV hr2 ea;go_wp2_with ((with_reducible show wpList _ _ _ (Oper.mk _ (.load 58 _) _ _ _ _::_) _ _);refine wpList_load_mid rfl 58 (.tmp 98) rfl b2 (off2+7) rfl cs1 d46 HRG.o.1 hu46 hr46 (by rw[HRG.o.2];exact info46) ?_);refine hcl.mono ?_;rintro e V3 ⟨rfl,HPn⟩;have HP:=Lib.hid (HP.o.go HPn);clear hcl HPn c6 hl7 HRG;go_wp2_with fail;refine HF.o _ _ ?_;have:=HP.o;simpa [joinB]using this
 .skip;subst h3;rw[if_pos rfl]at HF hlen;clear c1 c2 c5 c6;obtain⟨b2,off2,cs1,ea,hr,hL⟩:=XlAt.at (show XlAt w0 a _ from hargs) (j:=0) (by simp);have hz2:=HZ.o.kept HP.o.kp hzb (by decide);have c6:=hz2.cell 6;simp only[List.getElem?_cons_succ,List.getElem?_cons_zero]at c6;rw[ea]at c6;have hV:=hw.trans HP.o.bl;have hr2:=rangeB hr hV;simp only[Nat.zero_mul,Nat.add_zero]at hr2;have hl7:=hL.cells.1;have hcl:=ih x cs1 4 b _ W hx hL hV HP.o.p (by have:=hlen;simp at this ⊢;omega);rw[show ((4:Nat):Int)=4 from rfl]at hcl;have HRG:=Lib.hid (And.intro hr2 hl7);clear hr hL hz2 hV hr2 ea
  go_wp2_with ((with_reducible show wpList _ _ _ (Oper.mk _ (.load 58 _) _ _ _ _::_) _ _);refine wpList_load_mid rfl 58 (.tmp 83) rfl b2 off2 rfl cs1 d46 HRG.o.1 hu46 hr46 (by rw[HRG.o.2];exact info46) ?_);refine hcl.mono ?_;rintro e V1 ⟨rfl,HPn⟩;have HP:=Lib.hid (HP.o.go HPn);clear hcl HPn c6 hl7 HRG;have hz2:=HZ.o.kept HP.o.kp hzb (by decide);have c5:=hz2.cell 5;have hr0:=(hO.below (hw.trans HP.o.bl)) (on*2) (by omega);have hrk0:opC (on*2)= .string (opS.getD on noB):=by unfold opC;rw[if_pos (by omega),show on*2/2=on by omega]
  rw[hrk0]at hr0;simp only[List.getElem?_cons_succ,List.getElem?_cons_zero]at c5;clear hz2 hrk0;obtain⟨ops,hops⟩:∃ops,opS.getD on noB=ops:=⟨_,rfl⟩;rw[hops]at hr0 HF hlen;clear hops;have hcl:=put_new [⟨#[32]⟩,ops,⟨#[32]⟩] HP.o (by have:=hlen;simp[joinB]at this ⊢;omega) (by simp);go_wp2_with fail;refine hcl.mono ?_;rintro e V2 ⟨rfl,HPn⟩;have HP:=Lib.hid HPn;clear hcl HPn hr0 c5;obtain⟨b2,off2,cs1,ea,hr,hL⟩:=XlAt.at (show XlAt w0 a _ from hargs) (j:=1) (by simp);have hz2:=HZ.o.kept HP.o.kp hzb (by decide);have c6:=hz2.cell 6;simp only[List.getElem?_cons_succ,List.getElem?_cons_zero]at c6;rw[ea]at c6;have hV:=hw.trans HP.o.bl;have hr2:=rangeB hr hV;simp only[Nat.one_mul]at hr2
  have hl7:=hL.cells.1;have hcl:=ih y cs1 (3+1) b _ V2 hy hL hV HP.o.p (by have:=hlen;simp[joinB]at this ⊢;omega);rw[show ((3+1:Nat):Int)=4 from rfl]at hcl;have HRG:=Lib.hid (And.intro hr2 hl7);clear hr hL hz2 hV hr2 ea;go_wp2_with ((with_reducible show wpList _ _ _ (Oper.mk _ (.load 58 _) _ _ _ _::_) _ _);refine wpList_load_mid rfl 58 (.tmp 98) rfl b2 (off2+7) rfl cs1 d46 HRG.o.1 hu46 hr46 (by rw[HRG.o.2];exact info46) ?_);refine hcl.mono ?_;rintro e V3 ⟨rfl,HPn⟩;have HP:=Lib.hid (HP.o.go HPn);clear hcl HPn c6 hl7 HRG;go_wp2_with fail;refine HF.o _ _ ?_;have:=HP.o;simpa [joinB]using this
theorem rankOf_le5(o:Nat):rankOf o<=5:=by
 by_cases h:o<12
 .have:∀o,o<12->rankOf o<=5:=by decide
  exact this o h
 .have:rankOf o=0:=by unfold rankOf;rw[List.getD_eq_getElem?_getD,List.getElem?_eq_none (by simp[opR];omega)];rfl
  omega
theorem ex_sw{z:Nat}{t:List UInt8}{k n:Int}{sl:Int}{lo:Bool}{o:Int}{args:List Ex}{cap:Nat}{ds:List Deferred}{R:Ending->World->Prop}(hO:Ops w0)(hT:Tab w0)(h0:7<w0.1.size)(ih:ExpOk w0 d)
  (hR:exR isName (.mk k n s sl lo o args) (d+1)=true)(hw:Below w0.1.size w0 W)(hp:Pr w0.1.size b W t)(hz:Blk W z 58 [.int .i64 k,.int .i64 n,.string s,.int .i64 sl,.bool lo,.int .i64 o,.slice a args.length cap])(hzb:z≠b)(hargs:ExsL (fun _=>True) w0 a 0 args)
  (hlen:t.length+(exT (.mk k n s sl lo o args)).length<=140737488355328)(HF:∀ (tm:Array Value) (V:World),Pw w0.1.size b W V (t++exT (.mk k n s sl lo o args))->Leaves Tryz.prog Tryz.f163 tm R ds .returning V)
  {u10 u11 u12 u13 u14 u15 u16 u17 u18 u19 u20 u21 u22 u23 u24 u25 u26 u27 u28 u29 u30 u31 u32 u33 u34 u35 u36 u37 u38 u39 u40 u41 u42 u43 u44 u45 u46 u47 u48 u49 u50 u51 u52 u53 u54 u55 u56 u57 u58 u59 u60 u61 u62 u63 u64 u65 u66 u67 u68 u69 u70 u71 u72 u73 u74 u75 u76 u77 u78 u79 u80 u81 u82 u83 u84 u85 u86 u87 u88 u89 u90 u91 u92 u93 u94 u95 u96 u97 u98 u99 u100 u101 u102:Value}:
  Code.wp Tryz.prog (dropS 3 (Tryz.f163.body.getD .skip)) (bodyPostD Tryz.prog Tryz.f163 R) ⟨#[.pointer (some ⟨b,0,none⟩),u1,u2,u3,.pointer (some ⟨z,0,none⟩),u5,.int .i64 ((Ex.bind (.mk k n s sl lo o args):Nat):Int),u7,u8,u9,u10,u11,u12,u13,u14,u15,u16,u17,u18,u19,u20,u21,u22,u23,u24,u25,u26,u27,u28,u29,u30,u31,u32,u33,u34,u35,u36,u37,u38,u39,u40,u41,u42,u43,u44,u45,u46,u47,u48,u49,u50,u51,u52,u53,u54,u55,u56,u57,u58,u59,u60,u61,u62,u63,u64,u65,u66,u67,u68,u69,u70,u71,u72,u73,u74,u75,u76,u77,u78,u79,u80,u81,u82,u83,u84,u85,u86,u87,u88,u89,u90,u91,u92,u93,u94,u95,u96,u97,u98,u99,u100,u101,u102],ds⟩ W:=by
 rcases exR_cases hR with ⟨rfl,rfl,hn⟩|⟨rfl,rfl⟩|⟨hk,x,rfl,hx⟩|⟨rfl,x,y,rfl,hx,hy,o1,o2⟩
 .have e:exT (.mk 1 n s sl lo o [])=Lib.itoa n:=by simp[exT]
  rw[e]at hlen HF;exact ex1 (_x:=zEx) (_y:=zEx) hO hT h0 ih hn hw hp hz hzb hargs hlen HF
 .have e:exT (.mk 2 n s sl lo o [])=s.data.toList:=by simp[exT]
  rw[e]at hlen HF;exact ex2 (_x:=zEx) (_y:=zEx) hO hT h0 ih hw hp hz hzb hargs hlen HF
 .rcases hk with rfl|rfl|rfl
  .have e:exT (.mk 3 n s sl lo o [x])=s.data.toList++(91::(exT x++[93])):=by simp[exT]
   rw[e]at hlen HF;exact ex3 (_y:=zEx) hO hT h0 ih hx hw hp hz hzb hargs hlen HF
  .have e:exT (.mk 4 n s sl lo o [x])=45::exW x 6:=by simp[exT,exW]
   rw[e]at hlen HF;exact ex4 (_y:=zEx) hO hT h0 ih hx hw hp hz hzb hargs hlen HF
  .have e:exT (.mk 5 n s sl lo o [x])=33::exW x 6:=by simp[exT,exW]
   rw[e]at hlen HF;exact ex5 (_y:=zEx) hO hT h0 ih hx hw hp hz hzb hargs hlen HF
 .have hb6:Ex.bind (.mk 6 n s sl lo o [x,y])=rankOf o.toNat:=by rw[bind_mk,if_pos rfl]
  have e:exT (.mk 6 n s sl lo o [x,y])=exW x (if rankOf o.toNat=3 then 4 else rankOf o.toNat)++(32::((opS.getD o.toNat noB).data.toList++(32::exW y (rankOf o.toNat+1)))):=by simp[exT,exW]
  rw[e]at hlen HF;rw[hb6];exact ex6 hO hT h0 ih hx hy ⟨o.toNat,by omega,by omega⟩ (rankOf_le5 _) hw hp hz hzb hargs hlen HF
theorem prex_step(hO:Ops w0)(hT:Tab w0)(h0:7<w0.1.size)(ih:ExpOk w0 d):ExpOk w0 (d+1):=by
 intro x cs m b t W hR hL hw hp hlen;obtain⟨k,n,s,sl,lo,o,args⟩:=x;have ho6:k=6->1<=o/\o<=11:=fun e=>by
  rcases exR_cases hR with ⟨rfl,-⟩|⟨rfl,-⟩|⟨hk,-⟩|⟨-,x,y,-,-,-,h1,h2⟩
  .cases e
  .cases e
  .rcases hk with rfl|rfl|rfl<;>cases e
  .exact⟨h1,h2⟩
 have hL2:=hL;unfold ExL at hL;obtain⟨a,cap,rfl,hroom,hargs⟩:=hL;obtain⟨rk,hrk⟩:∃rk,Ex.bind (.mk k n s sl lo o args)=rk:=⟨_,rfl⟩;have hW1:Below W.1.size W (W.alloc (.cells #[.int .i64 k,.int .i64 n,.string s,.int .i64 sl,.bool lo,.int .i64 o,.slice a args.length cap] 58)):=(Below.refl _ W).alloc (Nat.le_refl _) _;have hz0:=Blk.new W 58 [.int .i64 k,.int .i64 n,.string s,.int .i64 sl,.bool lo,.int .i64 o,.slice a args.length cap];have hP1:=(Pw.refl hp).below hW1;have hw1:=hw.trans (hW1.mono hp.s);have hcr:=rankOf_any (W:=W.alloc (.cells #[.int .i64 k,.int .i64 n,.string s,.int .i64 sl,.bool lo,.int .i64 o,.slice a args.length cap] 58)) (hO.below hw1) (hL2.below hw1) ho6;rw[hrk]at hcr
 have hzb:W.1.size≠b:=by have:=hp.lt;omega
 obtain⟨z,hzz⟩:∃z,W.1.size=z:=⟨_,rfl⟩;have HA:=Lib.hid (And.intro hP1 (And.intro hw1 hz0));have HRK:=Lib.hid hrk;have HLEN:=Lib.hid hlen;clear hW1 hz0 hP1 hw1 hp hw hL2 hlen hrk;go_enter_defers Tryz.func163,Tryz.ntmps163;refine wp_seq_k fun K hK=>?_;have HK:=Lib.hid hK;clear hK;go_wp2_with fail;refine HK.o _ _ ?_;clear HK K;refine wp_seq_k fun K hK=>?_;have HK:=Lib.hid hK;clear hK;go_wp2_with fail;refine hcr.mono ?_;rintro e W2 ⟨rfl,hb2⟩;obtain⟨hP1,hw1,hz0⟩:=HA.o;rw[hzz]at hz0 hzb;have hP2:=hP1.below hb2;have hw2:=hw1.trans (hb2.mono hw1.size);have hz2:=hz0.below hb2;have HB:=Lib.hid (And.intro hP2 (And.intro hw2 hz2));clear HA hcr hP1 hw1 hz0 hb2 hP2 hw2 hz2;go_wp2_with fail
 refine HK.o _ _ ?_;clear HK K;refine wp_seq_k fun K hK=>?_;have HK:=Lib.hid hK;clear hK;have hlen:=HLEN.o;unfold exW par at hlen;rw[HRK.o]at hlen;by_cases hlt:rk<m
 .rw[if_pos hlt]at hlen;have hli:(rk:Int)< (m:Int):=by omega
  have hex:exW (.mk k n s sl lo o args) m=40::(exT (.mk k n s sl lo o args)++[41]):=by unfold exW par;rw[HRK.o,if_pos hlt]
  have hcl:=put_new [⟨#[40]⟩] (Pw.refl HB.o.1.p) (by simp[joinB]at hlen ⊢;omega) (by simp);go_wp2_with fail;refine hcl.mono ?_;rintro e W3 ⟨rfl,hP3⟩;obtain⟨hP2,hw2,hz2⟩:=HB.o;have hz3:=hz2.kept hP3.kp hzb (by decide);have hw3:=hw2.trans hP3.bl;have hPt:=hP2.go hP3;have hgb:W3.1.size≠b:=by have:=hP3.p.lt;omega
  have hg4:=Blk.new W3 9 [.string ⟨#[41]⟩];have hz4:=hz3.alloc (.cells #[.string ⟨#[41]⟩] 9);have hP4:=hPt.alloc (.cells #[.string ⟨#[41]⟩] 9);have hw4:Below w0.1.size w0 (W3.alloc (.cells #[.string ⟨#[41]⟩] 9)):=hw3.alloc hw3.size _;have HC:=Lib.hid (And.intro hg4 (And.intro hz4 (And.intro hP4 hw4)));clear hcl hP2 hw2 hz2 HB hz3 hw3 hPt hP3 hg4 hz4 hP4 hw4;go_wp2_with fail;refine HK.o _ _ ?_;clear HK K;obtain⟨hg4,hz4,hP4,hw4⟩:=HC.o;obtain⟨g,hgg⟩:∃g,W3.1.size=g:=⟨_,rfl⟩;rw[hgg]at hgb hg4 ⊢;change Blk (W3.alloc (.cells #[.string ⟨#[41]⟩] 9)) g 9 [.string ⟨#[41]⟩]at hg4;generalize W3.alloc (.cells #[.string ⟨#[41]⟩] 9)=W4 at *;rw[<-HRK.o]
  refine ex_sw hO hT h0 ih hR hw4 hP4.p hz4 hzb hargs (by simp[joinB]at hlen ⊢;omega) (fun tm V hV=>?_);refine leaves_cons (f:=89) (args:= #[.pointer (some ⟨b,0,none⟩),.slice (some ⟨g,0,none⟩) 1 1]) (by simp) (by simp[go_sem]) ?_;refine(put_def [⟨#[41]⟩] hV.p (hg4.kept hV.kp hgb (by decide)) hgb (by simp[joinB]at hlen ⊢;omega) (by simp)).mono ?_;rintro e u' V2 ⟨rfl,rfl,hV2⟩;refine⟨.tuple #[],?_,rfl,?_⟩
  .simp[results,Tryz.f163]
  .rw[hex];have hfin:=hP4.go ⟨hV2.1,hV.bl.trans hV2.2.1,hV.kp.trans hV2.2.2⟩;simpa [joinB]using hfin
 .rw[if_neg hlt]at hlen;have hli:¬ (rk:Int)< (m:Int):=by omega
  have hex:exW (.mk k n s sl lo o args) m=exT (.mk k n s sl lo o args):=by unfold exW par;rw[HRK.o,if_neg hlt]
  obtain⟨hP2,hw2,hz2⟩:=HB.o;go_wp2_with fail;refine HK.o _ _ ?_;clear HK K;rw[<-HRK.o];refine ex_sw hO hT h0 ih hR hw2 hP2.p hz2 hzb hargs hlen (fun tm V hV=>?_);refine⟨.tuple #[],?_,rfl,?_⟩
  .simp[results,Tryz.f163]
  .rw[hex];exact hP2.go hV
theorem prex_all(hO:Ops w0)(hT:Tab w0)(h0:7<w0.1.size):∀d,ExpOk w0 d
 |0=>fun x _ _ _ _ _ h=>by
  obtain⟨k,n,s,sl,lo,o,args⟩:=x
  rw[exR_eq]at h
  simp at h
 |d+1=>prex_step hO hT h0 (prex_all hO hT h0 d)
structure Stz (w0 V:World) (z:Nat) (s:St):Prop where
 cs:∃cs:List Value,Blk V z 60 cs/\cs.length=25/\StL (fun _=>True) w0 cs s
theorem Stz.parts{z:Nat}{k l c:Int}{x y:Ex}{body els:List St}{id sl ot:Int}{lo:Bool}(h:Stz w0 V z (.mk k l c s t x y body els id sl ot lo)):
  V.cell? ⟨z,0,none⟩=some (.int .i64 k)/\V.cell? ⟨z,3,none⟩=some (.string s)/\V.cell? ⟨z,4,none⟩=some (.string t)/\(∃cx:List Value,V.rangeAt z 5 cx/\cx.length=7/\ExL (fun _=>True) w0 cx x)/\
   (∃cy:List Value,V.rangeAt z 12 cy/\cy.length=7/\ExL (fun _=>True) w0 cy y)/\(∃a cap,V.cell? ⟨z,19,none⟩=some (.slice a body.length cap)/\SlAt w0 a cap body)/\∃a cap,V.cell? ⟨z,20,none⟩=some (.slice a els.length cap)/\SlAt w0 a cap els:=by
 obtain⟨cs,hb,-,h2⟩:=h.cs;have h1:=hb.whole;unfold StL at h2;obtain⟨cx,cy,a,a',cap,cap',rfl,hx,hy,h3,h4,h5,h6⟩:=h2;have lx:=hx.cells.1;have ly:=hy.cells.1;have g:∀ (i:Nat) (v:Value),(Value.int .i64 k:: .int .i64 l:: .int .i64 c:: .string s:: .string t::(cx++(cy++[.slice a body.length cap,.slice a' els.length cap',.int .i64 id,.int .i64 sl,.int .i64 ot,.bool lo])))[i]? =some v->V.cell? ⟨z,i,none⟩=some v:=fun i v hv=>by have:=h1 i v hv;rwa [Nat.zero_add]at this
 refine⟨g 0 _ rfl,g 3 _ rfl,g 4 _ rfl,⟨cx,fun j v hv=>?_,lx,hx⟩,⟨cy,fun j v hv=>?_,ly,hy⟩,⟨a,cap,?_,h3,h4⟩,a',cap',?_,h5,h6⟩
 .have hj:j<7:=by have:=(List.getElem?_eq_some_iff.1 hv).1;omega
  refine g (5+j) v ?_;rw[show 5+j=j+5 by omega];simp only[List.getElem?_cons_succ];rw[List.getElem?_append_left (by omega)];exact hv
 .have hj:j<7:=by have:=(List.getElem?_eq_some_iff.1 hv).1;omega
  refine g (12+j) v ?_;rw[show 12+j=(7+j)+5 by omega];simp only[List.getElem?_cons_succ];rw[List.getElem?_append_right (by omega),lx,Nat.add_sub_cancel_left,List.getElem?_append_left (by omega)];exact hv
 .refine g 19 _ ?_;simp only[List.getElem?_cons_succ];rw[List.getElem?_append_right (by omega),lx,List.getElem?_append_right (by omega),ly];rfl
 .refine g 20 _ ?_;simp only[List.getElem?_cons_succ];rw[List.getElem?_append_right (by omega),lx,List.getElem?_append_right (by omega),ly];rfl
theorem Stz.kept{V':World}{z:Nat}{s:St}(h:Stz w0 V z s)(hk:Lib.OthersKept 5 (some b) V V')(hzb:z≠b):Stz w0 V' z s:=by obtain⟨cs,h1,h2,h3⟩:=h.cs;exact⟨cs,h1.kept hk hzb (by decide),h2,h3⟩
structure Env (w0:World):Prop where
 o:Ops w0
 t:Tab w0
 s:7<w0.1.size
theorem Env.ex(h:Env w0)(d:Nat):ExpOk w0 d:=prex_all h.o h.t h.s d
theorem last_any(hE:Env w0)(x:Ex)(cs:List Value)(b:Nat)(t:List UInt8)(W:World)(hx:exR isName x 24=true)(hL:ExL (fun _=>True) w0 cs x)(hw:Below w0.1.size w0 W)(hp:Pr w0.1.size b W t)(hlen:t.length+(exT x++[59]).length<=140737488355328):
  Calls Tryz.prog 162 #[.pointer (some ⟨b,0,none⟩),.agg cs.toArray] W fun e w'=>e= .returned (.tuple #[])/\Pw w0.1.size b W w' (t++(exT x++[59])):=by
 have e1:=exW_one hx;have hL2:=hL;obtain⟨k,n,s,sl,lo,o,args⟩:=x;unfold ExL at hL;obtain⟨a,cap,rfl,hroom,hargs⟩:=hL;have hW1:Below W.1.size W (W.alloc (.cells #[.int .i64 k,.int .i64 n,.string s,.int .i64 sl,.bool lo,.int .i64 o,.slice a args.length cap] 58)):=(Below.refl _ W).alloc (Nat.le_refl _) _;have hP1:=(Pw.refl hp).below hW1;have hw1:=hw.trans (hW1.mono hp.s);have hcl:=hE.ex 24 (.mk k n s sl lo o args) _ 1 b t _ hx hL2 hw1 hP1.p (by rw[e1];simp at hlen ⊢;omega);rw[e1,show ((1:Nat):Int)=1 from rfl]at hcl;have HA:=Lib.hid (And.intro hP1 hlen);clear hW1 hP1 hw1 hL2 hargs hp hx e1 hlen;go_enter Tryz.func162,Tryz.ntmps162;go_wp2_with fail;refine hcl.mono ?_;rintro e W2 ⟨rfl,hP2⟩
 have hP3:=HA.o.1.go hP2;have hlen:=HA.o.2;have hc2:=put_new [⟨#[59]⟩] hP3 (by simp[joinB]at hlen ⊢;omega) (by simp);clear HA hcl hP2;go_wp2_with fail;refine hc2.mono ?_;rintro e W4 ⟨rfl,hP4⟩;go_wp2_with fail;go_end0;refine⟨z,?_⟩;simpa [joinB]using hP4
def StmOk(w0:World)(d:Nat):Prop:=∀ (s:St) (cs:List Value) (ind b:Nat) (t:List UInt8) (W:World),stR isName s d=true->ind<=d+1->StL (fun _=>True) w0 cs s->Below w0.1.size w0 W->Pr w0.1.size b W t->t.length+(stT s ind).length<=140737488355328->
 Calls Tryz.prog 131 #[.pointer (some ⟨b,0,none⟩),.agg cs.toArray,.int .i64 (ind:Int)] W fun e w'=>e= .returned (.tuple #[])/\Pw w0.1.size b W w' (t++stT s ind)
def PbOk(w0:World)(d:Nat):Prop:=∀ (l:List St) (a:Option Addr) (cap ind b:Nat) (t:List UInt8) (W:World),stsR isName l d=true->(ind<=d/\d<=25)->SlAt w0 a cap l->Below w0.1.size w0 W->Pr w0.1.size b W t->t.length+(blockT l ind).length<=140737488355328->
 Calls Tryz.prog 90 #[.pointer (some ⟨b,0,none⟩),.slice a l.length cap,.int .i64 (ind:Int)] W fun e w'=>e= .returned (.tuple #[])/\Pw w0.1.size b W w' (t++blockT l ind)
end Go.Proofs.YtgppcdfgdaggjaaGreatDoor
