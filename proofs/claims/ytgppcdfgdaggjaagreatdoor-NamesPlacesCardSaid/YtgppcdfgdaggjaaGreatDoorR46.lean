/- Texts laid together. No condition but what each law says. -/
import Derived.Test.YtgppcdfgdaggjaaGreatDoorR36
import Derived.Test.YtgppcdfgdaggjaaGreatDoorRows
import Derived.ProofKit
import Derived.LaidMore
import Derived.Lay
import Derived.LaidOnce
import Derived.OpenShut
import Derived.Carry
import Derived.Stop.Joined
import Derived.Stop.LaidErr
namespace Go.Proofs.YtgppcdfgdaggjaaGreatDoor
open Go.ChangeShapes Go.WideShapes Go.ChangeAt Go.RowKit
variable {W:World}
theorem own:ownKnob Tryz.prog.godebug=none:=by kernel_rfl
def laid7:List (String×DataW Unit):=[("math/bits.deBruijn32tab",Rows.laid_math_bits_deBruijn32tab),("math/bits.deBruijn64tab",Rows.laid_math_bits_deBruijn64tab),("internal/strconv.uint64pow10",Rows.laid_internal_strconv_uint64pow10),("strconv.ErrRange",Rows.laid_strconv_ErrRange),("strconv.ErrSyntax",Rows.laid_strconv_ErrSyntax),("warp/syntax.shapes",Rows.laid_warp_syntax_shapes),("warp/syntax.opers",Rows.laid_warp_syntax_opers)]
theorem gR:Tryz.prog.globalNamed "strconv.ErrRange"=some 7:=by kernel_rfl
theorem gRType:(Tryz.prog.globals[7]?).map (·.type)=some 212:=by kernel_rfl
theorem cells290:Tryz.prog.cellsOf 290=1:=by kernel_rfl
theorem cells9:Tryz.prog.cellsOf 9=1:=by kernel_rfl
theorem star: "*"++ "errors.errorString"= "*errors.errorString":=by decide
theorem row288(u:TypeId)(h:Tryz.prog.typeName? 3 u=some "*errors.errorString"):u=288:=
 typeName_ptr_named (nm:= "errors.errorString") (by rw[star];kernel_rfl) (by kernel_rfl) (by decide) u (by rw[star];exact h)
theorem gOpers:Tryz.prog.globalNamed "warp/syntax.opers"=some 0:=by kernel_rfl
theorem tOpers:∃t e,(Tryz.prog.globals[0]?).map (·.type)=some t/\Tryz.prog.underlying t=some (.array 12 e)/\Tryz.prog.cellsOf e=2/\Tryz.prog.cellsOf t=24/\∃f0 f1:Field,Tryz.prog.underlying e=some (.struct #[f0,f1])/\f0.offset=0/\f1.offset=1/\Tryz.prog.cellsOf f0.type=1/\Tryz.prog.cellsOf f1.type=1/\Tryz.prog.underlying f0.type=some .string/\Tryz.prog.underlying f1.type=some (.int .i64):=
 ⟨223,222,by kernel_rfl,Tryz.underlying223,by kernel_rfl,by kernel_rfl,_,_,Tryz.underlying222,z,z,by kernel_rfl,by kernel_rfl,Tryz.underlying9,Tryz.underlying3⟩
theorem opers_list{H:Type}:Rows.laid_warp_syntax_opers (H:=H)= .agg ((List.range 12).map fun c=> .agg [.lit (.string (opS.getD c noB).data.toList),.lit (.int .i64 ((opR.getD c 0:Nat):Int))]):=by kernel_rfl
theorem ops_of{rest:List (String×DataW Unit)}(h:laidMet Tryz.prog (("warp/syntax.opers",Rows.laid_warp_syntax_opers)::rest) W):Ops W:=by
 obtain⟨ps,⟨g',t',cs,fuel,p,q,hg',ht',hvar,hd,_,_⟩,_⟩:=h;obtain rfl:=Option.some.inj (gOpers.symm.trans hg');obtain⟨t,e,h1,h2,h3,h4,f0,f1,h5,o0,o1,c0,c1,u0,u1⟩:=tOpers;obtain rfl:=Option.some.inj (h1.symm.trans ht');obtain⟨xs,m,_,hx,hlen,hn,hel⟩:=DataW.trod_array h2 hd;rw[h4]at hlen;rw[opers_list]at hx;have hxs:=DataW.agg.inj (Prod.mk.inj hx).1;have hcell:=fun i=>World.var?_cell hg' hvar i;have key:∀c,c<12->W.cell? ⟨0,c*2,none⟩=some (.string (opS.getD c noB))/\W.cell? ⟨0,c*2+1,none⟩=some (.int .i64 ((opR.getD c 0:Nat):Int)):=by
  intro c hc;have hE:=hel c hc;rw[List.getElem?_eq_getElem (by omega),h3]at hE;have hd1:(xs[c]'(by omega)).1= .agg [.lit (.string (opS.getD c noB).data.toList),.lit (.int .i64 ((opR.getD c 0:Nat):Int))]:=by have:=congrArg (fun l=>l[c]?) hxs;simp only[List.getElem?_map,List.getElem?_range hc,List.getElem?_eq_getElem (show c<xs.length by omega),Option.map_some,Option.some.injEq]at this;exact this.symm
  obtain⟨ys,m2,_,hy,hyl,hyn,hye⟩:=DataW.trod_struct h5 hE;rw[hy]at hd1;have e0:=hye 0 f0 rfl;have e1:=hye 1 f1 rfl;rw[o0,c0]at e0;rw[o1,c1]at e1;match ys,hyn with
  | [y0,y1],_=>
   have hp:=DataW.agg.inj hd1;simp only[List.map_cons,List.map_nil,List.cons.injEq,and_true]at hp;obtain⟨s,a0,b0,_⟩:=DataW.trod_string u0 (show DataW.trod _ Tryz.prog W 0 _ _ m2 f0.type _=some y0 from e0);obtain⟨z,a1,b1,_⟩:=DataW.trod_int u1 (show DataW.trod _ Tryz.prog W 0 _ _ m2 f1.type _=some y1 from e1);rw[b0,b1]at hp;simp only[DataW.lit.injEq,Lit.string.injEq,Lit.int.injEq,true_and]at hp;obtain⟨p1,p2⟩:=hp;have es:s=opS.getD c noB:=by generalize opS.getD c noB=s' at *;obtain⟨⟨l⟩⟩:=s;obtain⟨⟨l'⟩⟩:=s';simp only at p1;rw[p1]
   have k0:cs.toList[c*2]? =some (.string s):=by have:=congrArg (fun l=>l[0]?) a0;simpa [List.getElem?_take,List.getElem?_drop]using this
   have k1:cs.toList[c*2+1]? =some (.int .i64 z):=by have:=congrArg (fun l=>l[0]?) a1;simpa [List.getElem?_take,List.getElem?_drop]using this
   rw[Array.getElem?_toList]at k0 k1;rw[hcell,hcell,k0,k1,es,p2];exact⟨rfl,rfl⟩
 intro j hj;unfold opC;split
 .next hm=>
  have:=(key (j/2) (by omega)).1;rw[show j/2*2=j by omega]at this;exact this
 .next hm=>
  have:=(key (j/2) (by omega)).2;rw[show j/2*2+1=j by omega]at this;exact this
theorem gShapes:Tryz.prog.globalNamed "warp/syntax.shapes"=some 1:=by kernel_rfl
theorem tShapes:∃t e,(Tryz.prog.globals[1]?).map (·.type)=some t/\Tryz.prog.underlying t=some (.array 16 e)/\Tryz.prog.cellsOf e=6/\Tryz.prog.cellsOf t=96/\∃f0 f1 f2 f3 f4 f5:Field,Tryz.prog.underlying e=some (.struct #[f0,f1,f2,f3,f4,f5])/\(f0.offset=0/\f1.offset=1/\f2.offset=2/\f3.offset=3/\f4.offset=4/\f5.offset=5)/\(f0.type=4/\f1.type=4/\f2.type=4/\f3.type=4/\f4.type=4/\f5.type=4):=
 ⟨255,254,by kernel_rfl,Tryz.underlying255,by kernel_rfl,by kernel_rfl,_,_,_,_,_,_,Tryz.underlying254,⟨z,z,z,z,z,z⟩,z,z,z,z,z,z⟩
theorem cells4:Tryz.prog.cellsOf 4=1:=by kernel_rfl
def shB(k:Nat):List Bool:=if k=0 then [false,false,false,false,false,false] else [nName k,nWith k,nExpr k,decide ((k:Int)=3),decide ((k:Int)=4)||decide ((k:Int)=5),decide ((k:Int)=4)]
theorem shapes_list{H:Type}:Rows.laid_warp_syntax_shapes (H:=H)= .agg ((List.range 16).map fun c=> .agg ((shB c).map fun b=> .lit (.bool b))):=by kernel_rfl
theorem shs_of{rest:List (String×DataW Unit)}(h:laidMet Tryz.prog (("warp/syntax.shapes",Rows.laid_warp_syntax_shapes)::rest) W):Shs W:=by
 obtain⟨ps,⟨g',t',cs,fuel,p,q,hg',ht',hvar,hd,_,_⟩,_⟩:=h;obtain rfl:=Option.some.inj (gShapes.symm.trans hg');obtain⟨t,e,h1,h2,h3,h4,f0,f1,f2,f3,f4,f5,h5,⟨o0,o1,o2,o3,o4,o5⟩,t0,t1,t2,t3,t4,t5⟩:=tShapes;obtain rfl:=Option.some.inj (h1.symm.trans ht');obtain⟨xs,m,_,hx,hlen,hn,hel⟩:=DataW.trod_array h2 hd;rw[h4]at hlen;rw[shapes_list]at hx;have hxs:=DataW.agg.inj (Prod.mk.inj hx).1;have hcell:=fun i=>World.var?_cell hg' hvar i;intro c hc0 hc j v hv;have hE:=hel c hc;rw[List.getElem?_eq_getElem (by omega),h3]at hE;have hd1:(xs[c]'(by omega)).1= .agg ((shB c).map fun b=> .lit (.bool b)):=by have:=congrArg (fun l=>l[c]?) hxs;simp only[List.getElem?_map,List.getElem?_range hc,List.getElem?_eq_getElem (show c<xs.length by omega),Option.map_some,Option.some.injEq]at this;exact this.symm
 unfold shB at hd1;rw[if_neg (by omega)]at hd1;obtain⟨ys,m2,_,hy,hyl,hyn,hye⟩:=DataW.trod_struct h5 hE;rw[hy]at hd1;have e0:=hye 0 f0 z;have e1:=hye 1 f1 z;have e2:=hye 2 f2 z;have e3:=hye 3 f3 z;have e4:=hye 4 f4 z;have e5:=hye 5 f5 z;rw[o0,t0,cells4]at e0;rw[o1,t1,cells4]at e1;rw[o2,t2,cells4]at e2;rw[o3,t3,cells4]at e3;rw[o4,t4,cells4]at e4;rw[o5,t5,cells4]at e5;match ys,hyn with
 | [y0,y1,y2,y3,y4,y5],_=>
  have hp:=DataW.agg.inj hd1;simp only[List.map_cons,List.map_nil,List.cons.injEq,and_true]at hp;obtain⟨b0,a0,r0⟩:=DataW.trod_bool Tryz.underlying4 (show DataW.trod _ Tryz.prog W 0 _ _ m2 4 _=some y0 from e0);obtain⟨b1,a1,r1⟩:=DataW.trod_bool Tryz.underlying4 (show DataW.trod _ Tryz.prog W 0 _ _ m2 4 _=some y1 from e1);obtain⟨b2,a2,r2⟩:=DataW.trod_bool Tryz.underlying4 (show DataW.trod _ Tryz.prog W 0 _ _ m2 4 _=some y2 from e2);obtain⟨b3,a3,r3⟩:=DataW.trod_bool Tryz.underlying4 (show DataW.trod _ Tryz.prog W 0 _ _ m2 4 _=some y3 from e3);obtain⟨b4,a4,r4⟩:=DataW.trod_bool Tryz.underlying4 (show DataW.trod _ Tryz.prog W 0 _ _ m2 4 _=some y4 from e4)
  obtain⟨b5,a5,r5⟩:=DataW.trod_bool Tryz.underlying4 (show DataW.trod _ Tryz.prog W 0 _ _ m2 4 _=some y5 from e5);rw[r0,r1,r2,r3,r4,r5]at hp;simp only[DataW.lit.injEq,Lit.bool.injEq]at hp;obtain⟨p0,p1,p2,p3,p4,p5⟩:=hp;have key:∀ (i:Nat) (b:Bool),((cs.toList.drop (c*6)).take 6|>.drop i).take 1=[Value.bool b]->cs[c*6+i]? =some (.bool b):=by intro i b hb;have:=congrArg (fun l=>l[0]?) hb;rw[<-Array.getElem?_toList];simp only[List.getElem?_take,List.getElem?_drop]at this;exact(by simpa using this:i<6/\_).2
  rcases j with _|_|_|_|_|_|j;all_goals simp only[shC,List.getElem?_cons_zero,List.getElem?_cons_succ,List.getElem?_nil,Option.some.injEq,reduceCtorEq]at hv
  .rw[hcell,key 0 _ a0,p0,hv]
  .rw[hcell,key 1 _ a1,p1,hv]
  .rw[hcell,key 2 _ a2,p2,hv]
  .rw[hcell,key 3 _ a3,p3,hv]
  .rw[hcell,key 4 _ a4,p4,hv]
  .rw[hcell,key 5 _ a5,p5,hv]
theorem wn_of(h:laidMetH Tryz.prog laid7 W):Wn W:=by
 rw[MakeChecks.laidMetH_plain _ _ _ (by kernel_rfl)]at h;have h2:=h.tail.tail;obtain⟨a,s,hv,hc,_,_⟩:=laid_sentinel h2.tail gR gRType Tryz.underlying212 row288 Tryz.underlying288 Tryz.underlying290 z z Tryz.underlying9 cells290 cells9;have hg:W.cell? ⟨7,0,none⟩=some (.iface 288 (.pointer (some a))):=by simpa using World.var?_cell gR hv 0
 have h7:=World.block_lt_of_cell? W _ hg;exact⟨ops_of h2.tail.tail.tail.tail,shs_of h2.tail.tail.tail,h7,_,_,hg⟩
end Go.Proofs.YtgppcdfgdaggjaaGreatDoor
