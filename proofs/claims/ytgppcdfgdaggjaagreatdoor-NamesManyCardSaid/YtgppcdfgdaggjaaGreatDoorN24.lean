/- Texts laid together. No condition but what each law says. -/
import Derived.Test.YtgppcdfgdaggjaaGreatDoorN23
import Derived.Test.YtgppcdfgdaggjaaGreatDoorRows
import Derived.ProofKit
import Derived.LaidMore
import Derived.Lay
import Derived.LaidOnce
import Derived.OpenShut
import Derived.Carry
import Derived.Stop.Joined
import Derived.Stop.LaidErr
set_option maxRecDepth 100000
namespace Go.Proofs.YtgppcdfgdaggjaaGreatDoor
open Go.ChangeShapes Go.WideShapes Go.ChangeAt Go.RowKit Go.Proofs.Tryz
open List renaming range→GU,getElem?_drop→IT,getElem?_eq_getElem→FC,getElem?_map→HZ,getElem?_range→IN,getElem?_take→IA,map_nil→IP
open Go.DataW.agg renaming inj→IW
open Go.DataW renaming trod→IB,trod_bool→Ii
open Option.some renaming inj→GH,injEq→HE
open Go.World renaming var?_cell→Jg
variable {W:World}{v:Value}{a:Option Addr}
theorem own:ownKnob prog.godebug=none:=by kernel_rfl
def fA:List (String×DataW Unit):=[("math/bits.deBruijn32tab",Rows.laid_math_bits_deBruijn32tab),("math/bits.deBruijn64tab",Rows.laid_math_bits_deBruijn64tab),("internal/strconv.uint64pow10",Rows.laid_internal_strconv_uint64pow10),("strconv.ErrRange",Rows.laid_strconv_ErrRange),("strconv.ErrSyntax",Rows.laid_strconv_ErrSyntax),("warp/syntax.shapes",Rows.laid_warp_syntax_shapes),("warp/syntax.opers",Rows.laid_warp_syntax_opers)]
theorem gR:prog.globalNamed "strconv.ErrRange"=some 7:=by kernel_rfl
theorem ye:(prog.globals[7]?).map (·.type)=some 212:=by kernel_rfl
theorem sm:prog.cellsOf 290=1:=by kernel_rfl
theorem yu:prog.cellsOf 9=1:=by kernel_rfl
theorem Al: "*"++ "errors.errorString"= "*errors.errorString":=by decide
theorem zC(u:TypeId)(h:prog.typeName? 3 u=some "*errors.errorString"):u=288:=
 typeName_ptr_named (nm:= "errors.errorString") (by rw[Al];kernel_rfl) (by kernel_rfl) (by decide) u (by rw[Al];exact h)
theorem zz:prog.globalNamed "warp/syntax.opers"=some 0:=by kernel_rfl
theorem yb:∃t e,(prog.globals[0]?).map (·.type)=some t/\prog.underlying t=some (.array 12 e)/\prog.cellsOf e=2/\prog.cellsOf t=24/\∃g j:Field,prog.underlying e=some (.struct #[g,j])/\g.offset=0/\j.offset=1/\prog.cellsOf g.type=1/\prog.cellsOf j.type=1/\prog.underlying g.type=some .string/\prog.underlying j.type=some (.int .i64):=
 ⟨223,222,by kernel_rfl,underlying223,by kernel_rfl,by kernel_rfl,_,_,underlying222,z,z,by kernel_rfl,by kernel_rfl,underlying9,underlying3⟩
theorem pk{H:Type}:Rows.laid_warp_syntax_opers (H:=H)= .agg ((GU 12).map fun c=> .agg [.lit (.string (hN.getD c aq).data.toList),.lit (.int .i64 ((xv.getD c 0:Nat):Int))]):=by kernel_rfl
theorem zf{a2:List (String×DataW Unit)}(h:laidMet prog (("warp/syntax.opers",Rows.laid_warp_syntax_opers)::a2) W):hR W:=by
 let ⟨ps,⟨g',t',cs,a7,p,q,J,V,a5,hd,_,_⟩,_⟩:=h
 obtain rfl:=GH (zz.symm.trans J);let ⟨t,e,h1,h2,h3,h4,A,E,h5,o0,o1,c0,c1,u0,u1⟩:=yb
 obtain rfl:=GH (h1.symm.trans V);let ⟨xs,m,_,U,Y,hn,Z⟩:=DataW.trod_array h2 hd
 rw[h4]at Y;rw[pk]at U;have a3:=IW (Prod.mk.inj U).1;have G:=fun i=>Jg J a5 i;have S:∀c,c<12->W.cell? (ad 0 (c*2))=some (.string (hN.getD c aq))/\W.cell? (ad 0 (c*2+1))=some (I ((xv.getD c 0:Nat):Int)):=by
  intro c K;have R:=Z c K;rw[FC (by omega),h3]at R;have N:(xs[c]'(by omega)).1= .agg [.lit (.string (hN.getD c aq).data.toList),.lit (.int .i64 ((xv.getD c 0:Nat):Int))]:=by have:=congrArg (fun l=>l[c]?) a3;simp only[HZ,IN K,FC (show c<xs.length by omega),Option.map_some,HE]at this;exact this.symm
  let ⟨ys,C,_,hy,a6,a4,w⟩:=DataW.trod_struct h5 R
  rw[hy]at N;have D:=w 0 A rfl;have M:=w 1 E rfl;rw[o0,c0]at D;rw[o1,c1]at M;match ys,a4 with
  | [y0,y1],_=>
   have g:=IW N;simp only[List.map_cons,IP,List.cons.injEq,and_true]at g;let ⟨s,X,b0,_⟩:=DataW.trod_string u0 (show IB _ prog W 0 _ _ C A.type _=some y0 from D)
   let ⟨z,a1,b1,_⟩:=DataW.trod_int u1 (show IB _ prog W 0 _ _ C E.type _=some y1 from M)
   rw[b0,b1]at g;simp only[DataW.lit.injEq,Lit.string.injEq,Lit.int.injEq,true_and]at g;let ⟨Q,p2⟩:=g
   have es:s=hN.getD c aq:=by
    generalize hN.getD c aq=s' at *;let ⟨⟨l⟩⟩:=s
    let ⟨⟨l'⟩⟩:=s'
    simp only at Q;rw[Q]
   have F:cs.toList[c*2]? =some (.string s):=by have:=congrArg (fun l=>l[0]?) X;simpa [IA,IT]using this
   have H:cs.toList[c*2+1]? =some (I z):=by have:=congrArg (fun l=>l[0]?) a1;simpa [IA,IT]using this
   rw[Array.getElem?_toList]at F H;rw[G,G,F,H,es,p2];exact⟨rfl,rfl⟩
 intro j hj;unfold AR;split
 .next hm=>
  have:=(S (j/2) (by omega)).1;rw[show j/2*2=j by omega]at this;exact this
 .next hm=>
  have:=(S (j/2) (by omega)).2;rw[show j/2*2+1=j by omega]at this;exact this
theorem wX:prog.globalNamed "warp/syntax.shapes"=some 1:=by kernel_rfl
theorem xg:∃t e,(prog.globals[1]?).map (·.type)=some t/\prog.underlying t=some (.array 16 e)/\prog.cellsOf e=6/\prog.cellsOf t=96/\∃A D g j w C:Field,prog.underlying e=some (.struct #[A,D,g,j,w,C])/\(A.offset=0/\D.offset=1/\g.offset=2/\j.offset=3/\w.offset=4/\C.offset=5)/\(A.type=4/\D.type=4/\g.type=4/\j.type=4/\w.type=4/\C.type=4):=
 ⟨255,254,by kernel_rfl,underlying255,by kernel_rfl,by kernel_rfl,_,_,_,_,_,_,underlying254,⟨z,z,z,z,z,z⟩,z,z,z,z,z,z⟩
theorem iM:prog.cellsOf 4=1:=by kernel_rfl
def BD(k:Nat):List Bool:=if k=0 then [false,false,false,false,false,false] else [ov k,nu k,jn k,decide ((k:Int)=3),decide ((k:Int)=4)||decide ((k:Int)=5),decide ((k:Int)=4)]
theorem nG{H:Type}:Rows.laid_warp_syntax_shapes (H:=H)= .agg ((GU 16).map fun c=> .agg ((BD c).map fun b=> .lit (.bool b))):=by kernel_rfl
theorem zo{a9:List (String×DataW Unit)}(h:laidMet prog (("warp/syntax.shapes",Rows.laid_warp_syntax_shapes)::a9) W):oA W:=by
 let ⟨ps,⟨g',t',cs,c9,p,q,J,Y,b7,hd,_,_⟩,_⟩:=h
 obtain rfl:=GH (wX.symm.trans J);let ⟨t,e,h1,h2,h3,h4,X,f1,f2,f3,f4,Z,h5,⟨o0,o1,o2,o3,o4,o5⟩,a6,t1,t2,t3,t4,t5⟩:=xg
 obtain rfl:=GH (h1.symm.trans Y);let ⟨xs,m,_,S,a7,hn,a8⟩:=DataW.trod_array h2 hd
 rw[h4]at a7;rw[nG]at S;have b6:=IW (Prod.mk.inj S).1;have C:=fun i=>Jg J b7 i;intro c c8 K j v g;have Q:=a8 c K;rw[FC (by omega),h3]at Q;have E:(xs[c]'(by omega)).1= .agg ((BD c).map fun b=> .lit (.bool b)):=by have:=congrArg (fun l=>l[c]?) b6;simp only[HZ,IN K,FC (show c<xs.length by omega),Option.map_some,HE]at this;exact this.symm
 unfold BD at E;rw[am (by omega)]at E;let ⟨ys,A,_,hy,b9,b8,w⟩:=DataW.trod_struct h5 Q
 rw[hy]at E;have H:=w 0 X z;have N:=w 1 f1 z;have U:=w 2 f2 z;have G:=w 3 f3 z;have M:=w 4 f4 z;have R:=w 5 Z z;rw[o0,a6,iM]at H;rw[o1,t1,iM]at N;rw[o2,t2,iM]at U;rw[o3,t3,iM]at G;rw[o4,t4,iM]at M;rw[o5,t5,iM]at R;match ys,b8 with
 | [y0,y1,y2,y3,y4,y5],_=>
  have F:=IW E;simp only[List.map_cons,IP,List.cons.injEq,and_true]at F;let ⟨b0,a0,r0⟩:=Ii underlying4 (show IB _ prog W 0 _ _ A 4 _=some y0 from H)
  let ⟨b1,a1,r1⟩:=Ii underlying4 (show IB _ prog W 0 _ _ A 4 _=some y1 from N)
  let ⟨b2,a2,r2⟩:=Ii underlying4 (show IB _ prog W 0 _ _ A 4 _=some y2 from U)
  let ⟨b3,a3,r3⟩:=Ii underlying4 (show IB _ prog W 0 _ _ A 4 _=some y3 from G)
  let ⟨b4,a4,r4⟩:=Ii underlying4 (show IB _ prog W 0 _ _ A 4 _=some y4 from M)
  let ⟨b5,V,r5⟩:=Ii underlying4 (show IB _ prog W 0 _ _ A 4 _=some y5 from R)
  rw[r0,r1,r2,r3,r4,r5]at F;simp only[DataW.lit.injEq,Lit.bool.injEq]at F;let ⟨p0,p1,p2,p3,p4,p5⟩:=F
  have D:∀ (i:Nat) (b:Bool),((cs.toList.drop (c*6)).take 6|>.drop i).take 1=[Value.bool b]->cs[c*6+i]? =some (.bool b):=by intro i b hb;have:=congrArg (fun l=>l[0]?) hb;rw[<-Array.getElem?_toList];simp only[IA,IT]at this;exact(by simpa using this:i<6/\_).2
  rcases j with _|_|_|_|_|_|j;all_goals simp only[Bl,List.getElem?_cons_zero,List.getElem?_cons_succ,List.getElem?_nil,HE,reduceCtorEq]at g
  .rw[C,D 0 _ a0,p0,g]
  .rw[C,D 1 _ a1,p1,g]
  .rw[C,D 2 _ a2,p2,g]
  .rw[C,D 3 _ a3,p3,g]
  .rw[C,D 4 _ a4,p4,g]
  .rw[C,D 5 _ V,p5,g]
theorem rU(h:laidMetH prog fA W):Wn W:=by
 rw[MakeChecks.laidMetH_plain _ _ _ (by kernel_rfl)]at h;have g:=h.tail.tail;let ⟨a,s,w,C,_,_⟩:=laid_sentinel g.tail gR ye underlying212 zC underlying288 underlying290 z z underlying9 sm yu
 have j:W.cell? (ad 7 0)=some (.iface 288 (.pointer (some a))):=by simpa using Jg gR w 0
 have A:=World.block_lt_of_cell? W _ j;exact⟨zf g.tail.tail.tail.tail,zo g.tail.tail.tail,A,_,_,j⟩
theorem xr:laidOutB prog=true:=by kernel_rfl
theorem zr{w:Addr}{c:List Value}(g:W.cells? 0 w 1=some c):∃j,c=[j]/\W.cell? (w.add 0)=some j:=by
 unfold World.cells? at g;split at g
 .simp only[List.range_succ,List.range_zero,List.nil_append,List.mapM_cons,List.mapM_nil,Option.bind_eq_bind,Option.bind_eq_some_iff,Option.pure_def,HE]at g;obtain⟨j,A,_,rfl,rfl⟩:=g;exact⟨j,z,A⟩
 .cases g
theorem wM{H:Type}{enc:TypeId×Value->H}{t e:TypeId}{k:IntKind}(D:prog.underlying t=some (.slice e))(U:prog.underlying e=some (.int k))(Q:prog.cellsOf e=1){p:List MemPlace}{d:DataW H}
  (h:DataW.Trod enc prog W 0 (fun _=>true) true t v d p){len cap:Nat}(R:v= .slice a len cap):∀j,j<len->∃g C,∃x:Int,a=some ⟨g,C,none⟩/\W.cell? ⟨g,C+j,none⟩=some (.int k x)/\(Lit.int k x).wf=true:=by
 subst R;obtain⟨a3,h⟩:=h;rcases DataW.trod_slice D h with ⟨w,_⟩|⟨G,a2,a4,a1,a0,n,_,w,_,_,_,_,Z,J,_⟩
 .simp only[Value.cells]at w;simp at w;obtain⟨_,rfl,_⟩:=w;intro j hj;omega
 .simp only[Value.cells]at w;simp at w;obtain⟨rfl,rfl,rfl⟩:=w;rw[Q]at J;have M:∀i,i<len->∃x:Int,W.cell? ((G.add (i*1)).add 0)=some (.int k x)/\(Lit.int k x).wf=true:=by intro i F;have K:=J i F;rw[FC (by omega)]at K;obtain⟨c,X,D⟩:=Option.bind_eq_some_iff.1 K;obtain⟨y0,rfl,A⟩:=zr X;obtain⟨x,N,_,E⟩:=DataW.trod_int U D;simp at N;exact⟨x,by rw[A,N],E⟩
  intro i F;obtain⟨b,C,V⟩:=G;obtain⟨_,Y,_⟩:=M 0 (by omega);have S:V=none:=by simpa [Addr.add]using World.cell?_spot Y
  subst S;obtain⟨x,A,E⟩:=M i F;simp only[Addr.add_mid]at A;rw[Nat.add_zero,Nat.mul_one]at A;exact⟨b,C,x,z,A,E⟩
end Go.Proofs.YtgppcdfgdaggjaaGreatDoor
