/- Texts laid together. No condition but what each law says. -/
import Derived.Test.YtgppcdfgdaggjaaGreatDoorR35
import Derived.Test.YtgppcdfgdaggjaaGreatDoorR24
set_option maxRecDepth 100000
set_option maxHeartbeats 8000000
namespace Go.Proofs.YtgppcdfgdaggjaaGreatDoor
open Go.RowKit Go.Maps
variable {W w:World}{u0 u1 u2 u3 u4 v v0 v1 v2 v3 v4 v5 v6 v7 v8 v9:Value}{a0 a1:Option Addr}{g j k n0 n5 n6:Nat}{l2 l3:List Value}{s:ByteArray}
theorem ptext_any(nmf:ByteArray->Bool)(s:ByteArray)(w:World)(hE:ErrR w)(hO:Ops w)(d0:∀ (W:World) (a:Option Addr) (cap:Nat),bL w W->Roomy (parseR s).1.length cap->DesL (fun _=>True) W a (parseR s).1->Calls Tryz.prog 34 #[.slice a (parseR s).1.length cap] W fun e w'=>e= .returned (I (if desR nmf (parseR s).1=true then 0 else 2))/\bL W w'):
  Calls Tryz.prog 10 #[.string s] w (FOk w (textR (fun l=>if desR nmf l=true then findR l else (zPg,(0,0),2)) s)):=by
 obtain⟨i3,z3,f8,f4,f6⟩:=zero30;obtain⟨i2,z2,d8,d5,e1⟩:=zero32;obtain⟨h0,e4,d1⟩:=under30;obtain⟨g7,e6,d6⟩:=under32a;have g4:Tryz.prog.follows .mixedOrders=true:=by kernel_rfl
 obtain⟨R,g⟩:=eX (textR (fun l=>if desR nmf l=true then findR l else (zPg,(0,0),2)) s);rw[g];unfold textR at g;have N:=O g;have c9:=O d0;have b8:=O (And.intro hE hO);clear g d0 hE hO;go_in;refine wk fun KK U=>?_;go_wp2_with (first
  | (with_reducible refine aa 2 (.alloc 30) ?_;refine wpList_alloc_blk f8 f4 f6 z z w.1.size z ?_;intro W1 k1 b1 d9;have K1:=O k1;have B1:=O b1;clear k1 b1)
  | (with_reducible refine aa 3 (.alloc 32) ?_;refine wpList_alloc_blk d8 d5 e1 z z (w.1.size+1) d9 ?_;intro W2 k2 b2 s2;have K2:=O k2;have B2:=O b2;clear k2 b2)
 )
 refine U.o _ _ ?_;clear U KK;have a1:=B1.o.trans (B2.o.mono B1.o.size);have hp:=parse_any s W2 (b8.o.1.below a1 (by have:=b8.o.1.1;omega)) (b8.o.2.below a1);unfold PaOk at hp;obtain⟨b5,hZ⟩:=eX (parseR s);rw[hZ]at hp N c9;obtain⟨l,⟨G,pc⟩,er⟩:=b5;have b9:=O a1;have e2:=O (K1.o.below B2.o);have d7:=O K2.o;clear a1 hZ K1 K2 B1 B2;refine wk fun KK U=>?_;go_wp2_with fail;refine hp.mono ?_;clear hp;rintro e D ⟨j,a,cap,rfl,e8,e7⟩;have f0:=j.size;have d4:Hid (w.1.size+2<=D.1.size):=O (by omega);have a5:=O (e2.o.below j);have a4:=O (d7.o.below j);have d3:=O (b9.o.trans (j.mono b9.o.size));have a9:=O (DesL.weak (ok':=fun _=>True) (fun _ _=>trivial) e7.des);have a7:=O fun _:True=>e8
 clear j e2 d7 b9 e7 e8;obtain⟨a3,hN⟩:∃a3,l.length=a3:=⟨_,z⟩;have HN:Hid (l.length=a3):=O hN;try simp only at a7
 try simp only at a9
 simp only[hN];clear hN;go_wp2_with (first
  | (with_reducible refine aa 6 (.alloc 32) ?_;refine wpList_alloc_blk d8 d5 e1 z z D.1.size z ?_;intro W4 k4 b4 s4;have K4:=O k4;have B4:=O b4;clear k4 b4)
  | (with_reducible refine s0 32 ?_;refine wpList_store_ch info32a z (.tmp 6) (.tmp 12) z D.1.size [I G,I pc] _ z z K4.o z (two_one G pc) ?_;intro S k5 c5;have J:=O (And.intro k5 c5);clear k5 c5)
 )
 refine U.o _ _ ?_;clear U KK;have f1:=a5.o.lt;have g2:=a4.o.lt;have Z:=O (J.o.2.blk (by omega) (a5.o.below B4.o));have X:=O (J.o.2.blk (by omega) (a4.o.below B4.o));have a0:Hid (Below D.1.size D S):=O (J.o.2.below rl B4.o);have E:=O (d3.o.trans (a0.o.mono (by omega)));have a2:=O (DesL.keep (fun b o u _ K=>below_cell a0.o b o u K) a9.o);have a6:=O J.o.1;clear a5 a4 d3 K4 B4 J a9 f1 g2 s4 f0 d9 s2;by_cases he:er=0;rotate_left
 .have g:=N.o;rw[if_pos he]at g;have g3:=O g;clear N g;go_wp2_with fail;obtain⟨F,H⟩:=eX (S.drew);have f5:Hid (Blk F w.1.size 30 zPgC):=O (by rw[<-H];exact Z.o.drew);have f2:Hid (Blk F (w.1.size+1) 32 [I 0,I 0]):=O (by rw[<-H];exact X.o.drew);have d2:Hid (Blk F D.1.size 32 [I G,I pc]):=O (by rw[<-H];exact a6.o.drew);have g1:Hid (bL w F):=O (by rw[<-H];exact E.o.drew);clear Z X a6 E a0 a2;refine wp_region_x [] (fun W=>Blk W D.1.size 32 [I G,I pc]) g4 ?_;rw[H];clear H;have HS:Hid (Blk F D.1.size 32 [.int .i64 G,.int .i64 pc]):=d2;refine ag 0 ?_;refine wpX_takeD 1 (some 17) (v:=?_) z z (by kernel_rfl) (fun _ _ _ h=>h) HS.o (Or.inl ⟨by rfl,?_⟩) ?_;rotate_left
  .intro W1 b7;have k0:=b7.cell 0;have k1:=b7.cell 1;simp only[List.getElem?_cons_zero,List.getElem?_cons_succ]at k0 k1;clear b7;go_simp;first|with_reducible rfl|rw[if_neg (by omega)]
  refine ag 2 ?_;refine nm ?_;refine oD 3 fun a8 Y=>?_;refine wp_store_ch info30 (.tmp 2) (.tmp 16) z w.1.size zPgC _ z z f5.o z ⟨z,by decide⟩ ?_;intro W7 V c7;have A:=O (And.intro V c7);clear V c7;have e3:=O (A.o.2.blk (by have:=d4.o;omega) d2.o);refine Y _ _ (fun _=>e3.o) ?_;clear Y a8;refine oD 4 fun a8 Y=>?_;refine wp_store_ch info32a (.tmp 3) (.tmp 17) z (w.1.size+1) [I G,I pc] _ z z (A.o.2.blk (by omega) f2.o) z (two_one G pc) ?_;intro W8 M Q;have C:=O (And.intro M Q);clear M Q;have e9:=O (C.o.2.blk (by have:=d4.o;omega) e3.o);refine Y _ _ (fun _=>e9.o) ?_;clear Y a8;refine ag 5 ?_;refine nm ?_;refine dn ?_;go_wp2_with fail
  refine end_cct e4 d1 info30 e6 d6 info32a (C.o.2.blk (by omega) A.o.1) z C.o.1 z z z z z z ?_;rw[<-g3.o];exact⟨⟨zPgC,z,pgRL_zero _ _⟩,C.o.2.below (by omega) (A.o.2.below (by omega) g1.o)⟩
 .subst he;have g:=N.o;rw[if_neg (by decide)]at g;have hf:=pfind_all (nmf:=nmf) l a cap S (a7.o trivial) a2.o (fun W hw=>c9.o W a cap (E.o.trans (hw.mono E.o.size)) (a7.o trivial) (DesL.keep (fun b o u _ K=>below_cell hw b o u K) a2.o));have e5:(if desR nmf l=true then findR l else (zPg,(0,0),2))=R:=g;rw[e5,HN.o]at hf;clear g e5 N;go_wp2_with fail;refine hf.mono ?_;clear hf;rintro e W6 ⟨⟨ps,rfl,b6⟩,j⟩;have f7:=O (Z.o.below j);have g5:=O (X.o.below j);have f3:=O (E.o.trans (j.mono E.o.size));have f9:=O b6;have e0:=O b6.cells;have g9:=E.o.size;have g6:=X.o.lt;clear j b6 Z X E a0 a2 a6;go_wp2_with (first
   | (with_reducible refine s0 30 ?_;refine wpList_store_ch info30 z (.tmp 2) (.tmp 21) z w.1.size ps _ z z f7.o z e0.o ?_;intro W7 V c7;have A:=O (And.intro V c7);clear V c7)
   | (with_reducible refine s0 32 ?_;refine wpList_store_ch info32a z (.tmp 3) (.tmp 22) z (w.1.size+1) [I R.2.1.1,I R.2.1.2] _ z z (A.o.2.blk (by omega) g5.o) z (two_one _ _) ?_;intro W8 M Q;have C:=O (And.intro M Q);clear M Q)
  )
  refine end_cct e4 d1 info30 e6 d6 info32a (C.o.2.blk (by omega) A.o.1) e0.o.1 C.o.1 z z z z z z ?_;refine⟨⟨ps,z,?_⟩,C.o.2.below (by omega) (A.o.2.below (by omega) f3.o)⟩;refine PgRL.weak (fun c hc=>?_) (f9.o.keep fun b o u j K=>?_)
  .have h1:S.1.size<=c:=hc;show w.1.size<=c;omega
  .have g8:S.1.size<=b:=j;rw[C.o.2.cellF (by omega),A.o.2.cellF (by omega)];exact K
def SxOk(x:Ex):Prop:=∀ (cs1 cs2:List Value) (W:World),ExL (fun _=>True) W cs1 x->ExL (fun _=>True) W cs2 x->Calls Tryz.prog 46 #[.agg cs1.toArray,.agg cs2.toArray] W (Yes W)
theorem sxe_step(k n:Int)(s:ByteArray)(sl:Int)(lo:Bool)(E:Int)(args:List Ex)(IH:∀x∈args,SxOk x):SxOk (.mk k n s sl lo E args):=by
 intro d7 b5 w c9 b9;obtain⟨a8,b7,a9⟩:=under58;have d9:Tryz.prog.follows .mixedOrders=true:=by kernel_rfl
 unfold ExL at c9 b9;obtain⟨H,c1,a0,Z,d0⟩:=c9;obtain⟨N,c2,a3,-,d6⟩:=b9;have b6:XlAt w H args:=d0;have d2:XlAt w N args:=d6;obtain⟨g,hN⟩:∃g,args.length=g:=⟨_,rfl⟩;rw[hN]at a0 a3 Z;have e8:Hid (d7=exC k n s sl lo E (.slice H g c1)):=O a0;have e1:Hid (b5=exC k n s sl lo E (.slice N g c2)):=O a3;have HN:=O hN;have e2:=O b6;have e6:=O d2;have e7:=O IH;have d3:=O fun _:True=>Z;clear a0 a3 Z d0 d6 b6 d2 IH hN;go_enter Tryz.func46,Tryz.ntmps46;refine wk fun V J=>?_;go_wp2_with (first
  | ((with_reducible refine aa 2 (.box 58 _) ?_);refine wpList_box_blk rfl (.tmp 0) rfl d7 rfl w.1.size rfl ?_;intro M k1 b1 b8;have Y:=O k1;have X:=O b1;clear k1 b1)
  | ((with_reducible refine aa 3 (.box 58 _) ?_);refine wpList_box_blk rfl (.tmp 1) rfl b5 rfl (w.1.size+1) b8 ?_;intro C k2 b2 s2;have K2:=O k2;have B2:=O b2;clear k2 b2)
  |fail)
 refine J.o _ _ ?_;clear J V;obtain⟨z,Q⟩:∃z,w.1.size=z:=⟨_,rfl⟩;rw[Q]at Y K2;rw[Q];have A:Hid (Below w.1.size w C/\Blk C z 58 (exC k n s sl lo E (.slice H g c1))/\Blk C (z+1) 58 (exC k n s sl lo E (.slice N g c2))):=O (by rw[<-e8.o,<-e1.o];have e3:=X.o.trans (B2.o.mono (by have:=X.o.size;omega));exact⟨e3,Y.o.below B2.o,K2.o⟩)
 have HZ:=O Q;clear Y K2 X B2 b8 s2 Q;refine wk fun V J=>?_;have p0:C.cell? ⟨z,0,none⟩=some (.int .i64 k):=A.o.2.1.cell 0;have p1:C.cell? ⟨z,1,none⟩=some (.int .i64 n):=A.o.2.1.cell 1;have p2:C.cell? ⟨z,2,none⟩=some (.string s):=A.o.2.1.cell 2;have p3:C.cell? ⟨z,3,none⟩=some (.int .i64 sl):=A.o.2.1.cell 3;have p4:C.cell? ⟨z,4,none⟩=some (.bool lo):=A.o.2.1.cell 4;have p5:C.cell? ⟨z,5,none⟩=some (.int .i64 E):=A.o.2.1.cell 5;have p6:C.cell? ⟨z,6,none⟩=some (.slice H g c1):=A.o.2.1.cell 6;have q0:C.cell? ⟨z+1,0,none⟩=some (.int .i64 k):=A.o.2.2.cell 0;have q1:C.cell? ⟨z+1,1,none⟩=some (.int .i64 n):=A.o.2.2.cell 1;have q2:C.cell? ⟨z+1,2,none⟩=some (.string s):=A.o.2.2.cell 2
 have q3:C.cell? ⟨z+1,3,none⟩=some (.int .i64 sl):=A.o.2.2.cell 3;have q4:C.cell? ⟨z+1,4,none⟩=some (.bool lo):=A.o.2.2.cell 4;have q5:C.cell? ⟨z+1,5,none⟩=some (.int .i64 E):=A.o.2.2.cell 5;have q6:C.cell? ⟨z+1,6,none⟩=some (.slice N g c2):=A.o.2.2.cell 6;go_wp2_with fail;refine J.o _ _ ?_;clear J V p0 p1 p2 p3 p4 p5 p6 q0 q1 q2 q3 q4 q5 q6;refine wk fun V J=>?_;go_wp2_with fail;go_loopg [5] g (fun x iv wr=>∃i:Nat,i<=g/\x=g-i/\iv=I i/\Hid (Below w.1.size w wr/\Blk wr z 58 (exC k n s sl lo E (.slice H g c1))/\Blk wr (z+1) 58 (exC k n s sl lo E (.slice N g c2))));case atStart=>exact⟨0,Nat.zero_le _,rfl,rfl,A⟩
 case round=>
  clear A;obtain⟨i,hi,rfl,rfl,A⟩:=hrel;have p6:wr.cell? ⟨z,6,none⟩=some (.slice H g c1):=A.o.2.1.cell 6;by_cases a4:i<g
  .have f1:(i:Int)< (g:Int):=by omega
   have e9:(0:Int)<=(i:Int):=by omega
   have e0:Hid (wrap64 ((i:Int)+1)=((i+1:Nat):Int)):=O (by have h1:=(d3.o trivial).1;have h2:=(d3.o trivial).2;have:=IntWalk.wrap64_in ((i:Int)+1) (by omega);rw[this];omega)
   obtain⟨D,hV⟩:∃D,wr.drew=D:=⟨_,rfl⟩;have G:Hid (Below w.1.size w D/\Blk D z 58 (exC k n s sl lo E (.slice H g c1))/\Blk D (z+1) 58 (exC k n s sl lo E (.slice N g c2))):=O (by rw[<-hV];exact⟨A.o.1.trans (Below.refl _ _).drew,A.o.2.1.drew,A.o.2.2.drew⟩);obtain⟨b1,o1,U,rfl,c8,d8⟩:=XlAt.at (XlAt.below e2.o G.o.1) (j:=i) (by rw[HN.o];exact a4);obtain⟨b2,o2,S,rfl,d1,b4⟩:=XlAt.at (XlAt.below e6.o G.o.1) (j:=i) (by rw[HN.o];exact a4);have d4:args.getD i zEx∈args:=by rw[List.getD_eq_getElem?_getD,List.getElem?_eq_getElem (by rw[HN.o];exact a4)];exact List.getElem_mem _
   have d5:=e7.o _ d4;generalize args.getD i zEx=x at *;have a7:=O d5;have R:Hid (ExL (fun _=>True) D U x/\ExL (fun _=>True) D S x):=O ⟨d8,b4⟩;have a6:Hid (D.rangeAt b1 (o1+i*7) U/\D.rangeAt b2 (o2+i*7) S):=O ⟨c8,d1⟩;clear d5 d8 b4 c8 d1 d4;go_wp2_with fail;refine wp_region_x [] (fun W'=>Below D.1.size D W') d9 ?_;rw[hV];clear hV p6 A;have F:Hid (Below D.1.size D D):=O (Below.refl _ _);refine tk 0 (some 62) F ?_;refine tf (fun M=>M.cell? ⟨z,6,none⟩=some (.slice (some ⟨b1,o1,none⟩) g c1)) 1 (some 63) F (fun M a5=> (G.o.2.1.below a5).cell 6) ?_;refine tk 2 (some 64) F ?_;refine tk 3 (some 65) F ?_;refine nm ?_
   refine tl 4 66 F 58 65 b1 (o1+i*7) U a8 (fun W hS=>fun j u hu=>below_cl hS _ _ _ (a6.o.1 j u hu)) b7 a9 (by rw[R.o.1.cells.1];exact info58) ?_;refine tk 5 (some 67) F ?_;refine tf (fun M=>M.cell? ⟨z+1,6,none⟩=some (.slice (some ⟨b2,o2,none⟩) g c2)) 6 (some 68) F (fun M a5=> (G.o.2.2.below a5).cell 6) ?_;refine tk 7 (some 69) F ?_;refine nm ?_;refine tk 8 (some 70) F ?_;refine tl 9 71 F 58 70 b2 (o2+i*7) S a8 (fun W hS=>fun j u hu=>below_cl hS _ _ _ (a6.o.2 j u hu)) b7 a9 (by rw[R.o.2.cells.1];exact info58) ?_;refine nm ?_;refine oD 10 fun e5 hK=>?_;go_simp;refine(a7.o U S D R.o.1 R.o.2).mono ?_;rintro e W3 ⟨rfl,hb⟩;have K:=O hb;refine hK _ _ (fun _=>K.o) ?_;clear hK e5 hb;try refine nm ?_
   refine tk 11 (some 73) K ?_;refine nm ?_;refine dn ?_;have e4:Hid (Below w.1.size w W3/\Blk W3 z 58 (exC k n s sl lo E (.slice (some ⟨b1,o1,none⟩) g c1))/\Blk W3 (z+1) 58 (exC k n s sl lo E (.slice (some ⟨b2,o2,none⟩) g c2))):=O ⟨G.o.1.trans (K.o.mono G.o.1.size),G.o.2.1.below K.o,G.o.2.2.below K.o⟩;clear F K G R a6 a7;go_wp2_with fail;go_roundg (g- (i+1));case measure=>omega
   case rel=>exact⟨i+1,by omega,rfl,congrArg (Value.int .i64) e0.o,e4⟩
  .obtain rfl:i=g:=by omega
   have f0:¬ (i:Int)< (i:Int):=by omega
   go_wp2_with fail;refine J.o _ _ ?_;go_wp2_with fail;go_ret;exact⟨rfl,A.o.1⟩
mutual
theorem sxe_all:∀x:Ex,SxOk x
 | .mk k n s sl lo op args=>sxe_step k n s sl lo op args (sxe_alls args)
theorem sxe_alls:∀ (l:List Ex),∀x∈l,SxOk x
 | [],x,hx=>by cases hx
 |y::r,x,hx=>by
  by_cases e:x=y
  .rw[e]
   exact sxe_all y
  .exact sxe_alls r x ((List.mem_cons.1 hx).resolve_left e)
end
def SsOk(l:List St):Prop:=∀ (a1 a2:Option Addr) (c1 c2:Nat) (W:World),Roomy l.length c1->StsL (fun _=>True) W a1 0 l->StsL (fun _=>True) W a2 0 l->Calls Tryz.prog 18 #[.slice a1 l.length c1,.slice a2 l.length c2] W (Yes W)
def SpOk:St->Prop
 | .mk _ _ _ _ _ _ _ body els _ _ _ _=>SsOk body/\SsOk els
theorem sss_step(l:List St)(j7:∀s∈l,SpOk s):SsOk l:=by
 intro a1 a2 c1 c2 w g3 N X;obtain⟨i9,l4,j6⟩:=under60;obtain⟨d5,b7,b9⟩:=under58;obtain⟨i6,z6,f4,f6,f3⟩:=zero60;have l9:Tryz.prog.follows .mixedOrders=true:=by kernel_rfl
 obtain⟨b4,hN⟩:∃b4,l.length=b4:=⟨_,z⟩;rw[hN]at g3 ⊢;have HN:=O hN;have H1:=O N;have H2:=O X;have o0:=O j7;have k6:=O fun _:True=>g3;clear g3 N X j7 hN;go_enter Tryz.func18,Tryz.ntmps18;refine wk fun KK d7=>?_;go_wp2_with fail;refine d7.o _ _ ?_;clear d7 KK;refine wk fun KK d7=>?_;go_wp2_with fail;refine d7.o _ _ ?_;clear d7 KK;refine wk fun KK d7=>?_;go_wp2_with fail;go_loopg [5] b4 (fun x iv wr=>∃i:Nat,i<=b4/\x=b4-i/\iv= .int .i64 (i:Int)/\Hid (Below w.1.size w wr));case atStart=>exact⟨0,Nat.zero_le _,z,z,O (Below.refl _ _)⟩
 case round=>
  obtain⟨i,hi,rfl,rfl,HB⟩:=hrel;by_cases f9:i<b4
  .have p6:(i:Int)< (b4:Int):=by omega
   have o5:(0:Int)<=(i:Int):=by omega
   have k2:Hid (wrap64 ((i:Int)+1)=((i+1:Nat):Int)):=O (by have N:=(k6.o trivial).1;have X:=(k6.o trivial).2;have:=IntWalk.wrap64_in ((i:Int)+1) (by omega);rw[this];omega)
   obtain⟨Q,hV⟩:∃Q,wr.drew=Q:=⟨_,z⟩;have e4:Hid (Below w.1.size w Q):=O (by rw[<-hV];exact HB.o.trans (Below.refl _ _).drew);obtain⟨b1,o1,b6,rfl,-,k7,l6⟩:=(H1.o.lat e4.o).at i (by rw[HN.o];exact f9);obtain⟨b2,o2,d2,rfl,-,j9,j5⟩:=(H2.o.lat e4.o).at i (by rw[HN.o];exact f9);have i7:l.getD i default∈l:=by rw[List.getD_eq_getElem?_getD,List.getElem?_eq_getElem (by rw[HN.o];exact f9)];exact List.getElem_mem _
   have M:=o0.o _ i7;generalize l.getD i default=s at *;obtain⟨k,U,V,S,t,x,y,body,els,id,sl,ot,lo⟩:=s;unfold StL at l6 j5;obtain⟨Z,a3,c9,b8,c8,b5,e5,h7,g5,k9,f0,j3,l5⟩:=l6;obtain⟨a0,a4,d1,d3,d4,d0,e6,h9,h3,-,e9,-,i8⟩:=j5;obtain⟨NB,g9⟩:∃n,body.length=n:=⟨_,z⟩;obtain⟨NE,i0⟩:∃n,els.length=n:=⟨_,z⟩;rw[g9]at e5 e6;rw[i0]at e5 e6;have f2:Hid (SsOk body/\SsOk els):=O M;have e8:=O (And.intro g9 i0);have R:=O (And.intro h7 h9);have HY:=O (And.intro g5 h3);have e2:=O (And.intro k9 (And.intro f0 e9));have e3:=O (And.intro j3 (And.intro l5 i8))
   have g8:Hid (b6.length=25/\∀v∈b6,v.oneCell'=true):=O (by rw[show b6=stC k U V S t Z a3 (.slice c9 NB c8) (.slice b8 NE b5) id sl ot lo from e5];exact stC_one h7.cells g5.cells);have h8:Hid (d2.length=25/\∀v∈d2,v.oneCell'=true):=O (by rw[show d2=stC k U V S t a0 a4 (.slice d1 NB d4) (.slice d3 NE d0) id sl ot lo from e6];exact stC_one h9.cells h3.cells);have e7:Hid (b6=stC k U V S t Z a3 (.slice c9 NB c8) (.slice b8 NE b5) id sl ot lo/\d2=stC k U V S t a0 a4 (.slice d1 NB d4) (.slice d3 NE d0) id sl ot lo):=O ⟨e5,e6⟩;have j4:Hid (Q.rangeAt b1 (o1+i*25) b6/\Q.rangeAt b2 (o2+i*25) d2):=O ⟨fun t v hv=>by simpa using k7 t v hv,fun t v hv=>by simpa using j9 t v hv⟩
   clear M h7 h9 g5 h3 k9 f0 e9 j3 l5 i8 k7 j9 i7 e5 e6 g9 i0;go_wp2_with fail;refine wp_region_x [] (fun W'=>Below Q.1.size Q W') l9 ?_;rw[hV];clear hV HB;have HS:Hid (Below Q.1.size Q Q):=O (Below.refl _ _);refine tk 0 (some 19) HS ?_;refine tk 1 (some 20) HS ?_;refine tk 2 (some 21) HS ?_;refine tl 3 22 HS 60 21 b1 (o1+i*25) b6 i9 (fun W hS=>fun j u hu=>below_cl hS _ _ _ (j4.o.1 j u hu)) l4 j6 (by rw[g8.o.1];exact info64) ?_;refine nm ?_;refine tk 4 (some 23) HS ?_;refine tk 5 (some 24) HS ?_;refine tk 6 (some 25) HS ?_;refine tl 7 26 HS 60 25 b2 (o2+i*25) d2 i9 (fun W hS=>fun j u hu=>below_cl hS _ _ _ (j4.o.2 j u hu)) l4 j6 (by rw[h8.o.1];exact info64) ?_;refine nm ?_
   refine wpX_three [8,9] (by kernel_rfl) ?_ (by decide);intro i hi;simp only[List.mem_cons,List.not_mem_nil,or_false]at hi;rcases hi with rfl|rfl
   .refine⟨_,z,z,fun G H=>?_⟩;obtain⟨J,f0⟩:∃b,Q.1.size=b:=⟨_,z⟩;refine wp_alloc_blk f4 f6 f3 z J f0 ?_;intro X1 D g o6;have f5:=O (HS.o.trans (g.mono HS.o.size));have m8:=O D;have l3:Hid (Q.1.size<=J/\J<X1.1.size):=O ⟨by have:=HS.o.size;omega,D.lt⟩;change G (Act.put _ (some 6) _) X1;refine H _ _ (fun _=>f5.o) ?_;clear H G D g;refine nm ?_;refine oD 9 fun G H=>?_;obtain⟨K,e9⟩:∃b,X1.1.size=b:=⟨_,z⟩;refine wp_alloc_blk f4 f6 f3 z K e9 ?_;intro X2 D g o9;have k1:=O (f5.o.trans (g.mono f5.o.size));have m0:=O D;have m9:Hid (Q.1.size<=K/\K<X2.1.size):=O ⟨by have:=f5.o.size;omega,D.lt⟩;have l7:=O (m8.o.below g);have k0:Hid (J≠K):=O (by have N:=l3.o.2;omega);change G (Act.put _ (some 7) _) X2
    refine H _ _ (fun _=>k1.o) ?_;clear H G D g;refine nm ?_;refine oD 10 fun G H=>?_;refine wp_store_ch info64 (.tmp 6) (.tmp 22) z J b6 _ z z l7.o z g8.o ?_;intro X3 D Y;have j2:=O (Y.below l3.o.1 k1.o);have m7:=O D;have n6:=O (Y.blk (by have:=k0.o;omega) m0.o);change G (Act.put _ none _) X3;refine H _ _ (fun _=>j2.o) ?_;clear H G D Y;refine oD 11 fun G H=>?_;refine wp_store_ch info64 (.tmp 7) (.tmp 26) z K d2 _ z z n6.o z h8.o ?_;intro X4 D Y;have i5:=O (Y.below m9.o.1 j2.o);have n0:=O D;have n9:=O (Y.blk (by have:=k0.o;omega) m7.o);change G (Act.put _ none _) X4;refine H _ _ (fun _=>i5.o) ?_;clear H G D Y;try simp only[Act.put]
    refine dn ?_;have HV:=O i5.o;have A:Hid (Blk X4 J 60 (stC k U V S t Z a3 (.slice c9 NB c8) (.slice b8 NE b5) id sl ot lo)/\Blk X4 K 60 (stC k U V S t a0 a4 (.slice d1 NB d4) (.slice d3 NE d0) id sl ot lo)):=O (by rw[<-e7.o.1,<-e7.o.2];exact⟨n9.o,n0.o⟩);generalize X4=U0 at *;have F:=O (stC_at z R.o.1.cells.1 HY.o.1.cells.1 (C:=stC k U V S t Z a3 (.slice c9 NB c8) (.slice b8 NE b5) id sl ot lo));have E:=O (stC_at z R.o.2.cells.1 HY.o.2.cells.1 (C:=stC k U V S t a0 a4 (.slice d1 NB d4) (.slice d3 NE d0) id sl ot lo));have p0:=(A.o.1.cell 0).trans F.o.1;have p1:=(A.o.1.cell 1).trans F.o.2.1;have p2:=(A.o.1.cell 2).trans F.o.2.2.1;have p3:=(A.o.1.cell 3).trans F.o.2.2.2.1
    have p4:=(A.o.1.cell 4).trans F.o.2.2.2.2.1;have h4:=(A.o.1.cell 21).trans F.o.2.2.2.2.2.2.2.1;have i1:=(A.o.1.cell 22).trans F.o.2.2.2.2.2.2.2.2.1;have g4:=(A.o.1.cell 23).trans F.o.2.2.2.2.2.2.2.2.2.1;have g6:=(A.o.1.cell 24).trans F.o.2.2.2.2.2.2.2.2.2.2;have q0:=(A.o.2.cell 0).trans E.o.1;have q1:=(A.o.2.cell 1).trans E.o.2.1;have q2:=(A.o.2.cell 2).trans E.o.2.2.1;have q3:=(A.o.2.cell 3).trans E.o.2.2.2.1;have q4:=(A.o.2.cell 4).trans E.o.2.2.2.2.1;have h0:=(A.o.2.cell 21).trans E.o.2.2.2.2.2.2.2.1;have i3:=(A.o.2.cell 22).trans E.o.2.2.2.2.2.2.2.2.1;have i4:=(A.o.2.cell 23).trans E.o.2.2.2.2.2.2.2.2.2.1;have f7:=(A.o.2.cell 24).trans E.o.2.2.2.2.2.2.2.2.2.2
    have e0:=O (And.intro (ExL.sub R.o.1 HV.o) (ExL.sub R.o.2 HV.o));have d8:Hid (U0.rangeAt J 5 Z/\U0.rangeAt K 5 a0):=O (by have N:=A.o.1;have X:=A.o.2;rw[stC_x]at N X;exact⟨Blk.range N z,Blk.range X z⟩)
    go_wp2_with (first
     | ((with_reducible refine aa 82 (.load 58 _) ?_);refine wpList_load_mid z 58 (.tmp 81) z J 5 z Z d5 d8.o.1 b7 b9 (by rw[R.o.1.cells.1];exact info58) ?_)
     | ((with_reducible refine aa 84 (.load 58 _) ?_);refine wpList_load_mid z 58 (.tmp 83) z K 5 z a0 d5 d8.o.2 b7 b9 (by rw[R.o.2.cells.1];exact info58) ?_)
     |fail)
    refine(sxe_all x Z a0 U0 e0.o.1 e0.o.2).mono ?_;clear p0 p1 p2 p3 p4 h4 i1 g4 g6 q0 q1 q2 q3 q4 h0 i3 i4 f7 e0 d8;rintro e U1 ⟨rfl,g⟩;have a6:=O (HV.o.trans (g.mono HV.o.size));have a7:=O (And.intro (A.o.1.below g) (A.o.2.below g));clear g A HV;have e1:=O (And.intro (ExL.sub HY.o.1 a6.o) (ExL.sub HY.o.2 a6.o));have d6:Hid (U1.rangeAt J 12 a3/\U1.rangeAt K 12 a4):=O (by have N:=a7.o.1;have X:=a7.o.2;rw[stC_y]at N X;have g1:=Blk.range N z;have g2:=Blk.range X z;rw[show (Value.int .i64 k:: .int .i64 U:: .int .i64 V:: .string S:: .string t::Z).length=12 by simp[R.o.1.cells.1]]at g1;rw[show (Value.int .i64 k:: .int .i64 U:: .int .i64 V:: .string S:: .string t::a0).length=12 by simp[R.o.2.cells.1]]at g2;exact⟨g1,g2⟩)
    go_wp2_with (first
     | ((with_reducible refine aa 89 (.load 58 _) ?_);refine wpList_load_g z 58 (.tmp 88) z J 12 z a3 d5 d6.o.1 b7 b9 (by rw[HY.o.1.cells.1];exact info58) ?_)
     | ((with_reducible refine aa 91 (.load 58 _) ?_);refine wpList_load_g z 58 (.tmp 90) z K 12 z a4 d5 d6.o.2 b7 b9 (by rw[HY.o.2.cells.1];exact info58) ?_)
     |fail)
    refine(sxe_all y a3 a4 U1 e1.o.1 e1.o.2).mono ?_;clear e1 d6;rintro e U2 ⟨rfl,g⟩;have a9:=O (a6.o.trans (g.mono a6.o.size));have a5:=O (And.intro (a7.o.1.below g) (a7.o.2.below g));clear g a7 a6;have i2:=(a5.o.1.cell 19).trans F.o.2.2.2.2.2.1;have h5:=(a5.o.2.cell 19).trans E.o.2.2.2.2.2.1;have M:=f2.o.1 c9 d1 c8 d4 U2 e2.o.1 (e2.o.2.1.lat a9.o) (e2.o.2.2.lat a9.o);rw[e8.o.1]at M;go_wp2_with fail;refine M.mono ?_;clear M i2 h5;rintro e U3 ⟨rfl,g⟩;have a8:=O (a9.o.trans (g.mono a9.o.size));have d9:=O (And.intro (a5.o.1.below g) (a5.o.2.below g));clear g a5 a9;have f8:=(d9.o.1.cell 20).trans F.o.2.2.2.2.2.2.1;have h6:=(d9.o.2.cell 20).trans E.o.2.2.2.2.2.2.1
    have M:=f2.o.2 b8 d3 b5 d0 U3 e3.o.1 (e3.o.2.1.lat a8.o) (e3.o.2.2.lat a8.o);rw[e8.o.2]at M;go_wp2_with fail;refine M.mono ?_;clear M f8 h6;rintro e U4 ⟨rfl,g⟩;have g7:=O (e4.o.trans ((a8.o.trans (g.mono a8.o.size)).mono e4.o.size));clear g d9 a8;go_wp2_with fail;go_roundg (b4- (i+1));case measure=>omega
    case rel=>exact⟨i+1,by omega,z,congrArg (Value.int .i64) k2.o,g7⟩
   .refine⟨_,z,z,fun G H=>?_⟩;obtain⟨K,n8⟩:∃b,Q.1.size=b:=⟨_,z⟩;refine wp_alloc_blk f4 f6 f3 z K n8 ?_;intro X5 D g o8;have f1:=O (HS.o.trans (g.mono HS.o.size));have m1:=O D;have j8:Hid (Q.1.size<=K/\K<X5.1.size):=O ⟨by have:=HS.o.size;omega,D.lt⟩;change G (Act.put _ (some 7) _) X5;refine H _ _ (fun _=>f1.o) ?_;clear H G D g;refine nm ?_;refine oD 8 fun G H=>?_;obtain⟨J,m2⟩:∃b,X5.1.size=b:=⟨_,z⟩;refine wp_alloc_blk f4 f6 f3 z J m2 ?_;intro X6 D g p5;have k8:=O (f1.o.trans (g.mono f1.o.size));have n5:=O D;have m5:Hid (Q.1.size<=J/\J<X6.1.size):=O ⟨by have:=f1.o.size;omega,D.lt⟩;have m3:=O (m1.o.below g);have l2:Hid (J≠K):=O (by have N:=j8.o.2;omega);change G (Act.put _ (some 6) _) X6
    refine H _ _ (fun _=>k8.o) ?_;clear H G D g;refine nm ?_;refine oD 10 fun G H=>?_;refine wp_store_ch info64 (.tmp 6) (.tmp 22) z J b6 _ z z n5.o z g8.o ?_;intro X7 D Y;have j1:=O (Y.below m5.o.1 k8.o);have m6:=O D;have l8:=O (Y.blk (by have:=l2.o;omega) m3.o);change G (Act.put _ none _) X7;refine H _ _ (fun _=>j1.o) ?_;clear H G D Y;refine oD 11 fun G H=>?_;refine wp_store_ch info64 (.tmp 7) (.tmp 26) z K d2 _ z z l8.o z h8.o ?_;intro X8 D Y;have j0:=O (Y.below j8.o.1 j1.o);have n7:=O D;have m4:=O (Y.blk (by have:=l2.o;omega) m6.o);change G (Act.put _ none _) X8;refine H _ _ (fun _=>j0.o) ?_;clear H G D Y;try simp only[Act.put]
    refine dn ?_;have HV:=O j0.o;have A:Hid (Blk X8 J 60 (stC k U V S t Z a3 (.slice c9 NB c8) (.slice b8 NE b5) id sl ot lo)/\Blk X8 K 60 (stC k U V S t a0 a4 (.slice d1 NB d4) (.slice d3 NE d0) id sl ot lo)):=O (by rw[<-e7.o.1,<-e7.o.2];exact⟨m4.o,n7.o⟩);generalize X8=U0 at *;have F:=O (stC_at z R.o.1.cells.1 HY.o.1.cells.1 (C:=stC k U V S t Z a3 (.slice c9 NB c8) (.slice b8 NE b5) id sl ot lo));have E:=O (stC_at z R.o.2.cells.1 HY.o.2.cells.1 (C:=stC k U V S t a0 a4 (.slice d1 NB d4) (.slice d3 NE d0) id sl ot lo));have p0:=(A.o.1.cell 0).trans F.o.1;have p1:=(A.o.1.cell 1).trans F.o.2.1;have p2:=(A.o.1.cell 2).trans F.o.2.2.1;have p3:=(A.o.1.cell 3).trans F.o.2.2.2.1
    have p4:=(A.o.1.cell 4).trans F.o.2.2.2.2.1;have h4:=(A.o.1.cell 21).trans F.o.2.2.2.2.2.2.2.1;have i1:=(A.o.1.cell 22).trans F.o.2.2.2.2.2.2.2.2.1;have g4:=(A.o.1.cell 23).trans F.o.2.2.2.2.2.2.2.2.2.1;have g6:=(A.o.1.cell 24).trans F.o.2.2.2.2.2.2.2.2.2.2;have q0:=(A.o.2.cell 0).trans E.o.1;have q1:=(A.o.2.cell 1).trans E.o.2.1;have q2:=(A.o.2.cell 2).trans E.o.2.2.1;have q3:=(A.o.2.cell 3).trans E.o.2.2.2.1;have q4:=(A.o.2.cell 4).trans E.o.2.2.2.2.1;have h0:=(A.o.2.cell 21).trans E.o.2.2.2.2.2.2.2.1;have i3:=(A.o.2.cell 22).trans E.o.2.2.2.2.2.2.2.2.1;have i4:=(A.o.2.cell 23).trans E.o.2.2.2.2.2.2.2.2.2.1;have f7:=(A.o.2.cell 24).trans E.o.2.2.2.2.2.2.2.2.2.2
    have e0:=O (And.intro (ExL.sub R.o.1 HV.o) (ExL.sub R.o.2 HV.o));have d8:Hid (U0.rangeAt J 5 Z/\U0.rangeAt K 5 a0):=O (by have N:=A.o.1;have X:=A.o.2;rw[stC_x]at N X;exact⟨Blk.range N z,Blk.range X z⟩)
    go_wp2_with (first
     | ((with_reducible refine aa 82 (.load 58 _) ?_);refine wpList_load_mid z 58 (.tmp 81) z J 5 z Z d5 d8.o.1 b7 b9 (by rw[R.o.1.cells.1];exact info58) ?_)
     | ((with_reducible refine aa 84 (.load 58 _) ?_);refine wpList_load_mid z 58 (.tmp 83) z K 5 z a0 d5 d8.o.2 b7 b9 (by rw[R.o.2.cells.1];exact info58) ?_)
     |fail)
    refine(sxe_all x Z a0 U0 e0.o.1 e0.o.2).mono ?_;clear p0 p1 p2 p3 p4 h4 i1 g4 g6 q0 q1 q2 q3 q4 h0 i3 i4 f7 e0 d8;rintro e U1 ⟨rfl,g⟩;have a6:=O (HV.o.trans (g.mono HV.o.size));have a7:=O (And.intro (A.o.1.below g) (A.o.2.below g));clear g A HV;have e1:=O (And.intro (ExL.sub HY.o.1 a6.o) (ExL.sub HY.o.2 a6.o));have d6:Hid (U1.rangeAt J 12 a3/\U1.rangeAt K 12 a4):=O (by have N:=a7.o.1;have X:=a7.o.2;rw[stC_y]at N X;have g1:=Blk.range N z;have g2:=Blk.range X z;rw[show (Value.int .i64 k:: .int .i64 U:: .int .i64 V:: .string S:: .string t::Z).length=12 by simp[R.o.1.cells.1]]at g1;rw[show (Value.int .i64 k:: .int .i64 U:: .int .i64 V:: .string S:: .string t::a0).length=12 by simp[R.o.2.cells.1]]at g2;exact⟨g1,g2⟩)
    go_wp2_with (first
     | ((with_reducible refine aa 89 (.load 58 _) ?_);refine wpList_load_g z 58 (.tmp 88) z J 12 z a3 d5 d6.o.1 b7 b9 (by rw[HY.o.1.cells.1];exact info58) ?_)
     | ((with_reducible refine aa 91 (.load 58 _) ?_);refine wpList_load_g z 58 (.tmp 90) z K 12 z a4 d5 d6.o.2 b7 b9 (by rw[HY.o.2.cells.1];exact info58) ?_)
     |fail)
    refine(sxe_all y a3 a4 U1 e1.o.1 e1.o.2).mono ?_;clear e1 d6;rintro e U2 ⟨rfl,g⟩;have a9:=O (a6.o.trans (g.mono a6.o.size));have a5:=O (And.intro (a7.o.1.below g) (a7.o.2.below g));clear g a7 a6;have i2:=(a5.o.1.cell 19).trans F.o.2.2.2.2.2.1;have h5:=(a5.o.2.cell 19).trans E.o.2.2.2.2.2.1;have M:=f2.o.1 c9 d1 c8 d4 U2 e2.o.1 (e2.o.2.1.lat a9.o) (e2.o.2.2.lat a9.o);rw[e8.o.1]at M;go_wp2_with fail;refine M.mono ?_;clear M i2 h5;rintro e U3 ⟨rfl,g⟩;have a8:=O (a9.o.trans (g.mono a9.o.size));have d9:=O (And.intro (a5.o.1.below g) (a5.o.2.below g));clear g a5 a9;have f8:=(d9.o.1.cell 20).trans F.o.2.2.2.2.2.2.1;have h6:=(d9.o.2.cell 20).trans E.o.2.2.2.2.2.2.1
    have M:=f2.o.2 b8 d3 b5 d0 U3 e3.o.1 (e3.o.2.1.lat a8.o) (e3.o.2.2.lat a8.o);rw[e8.o.2]at M;go_wp2_with fail;refine M.mono ?_;clear M f8 h6;rintro e U4 ⟨rfl,g⟩;have g7:=O (e4.o.trans ((a8.o.trans (g.mono a8.o.size)).mono e4.o.size));clear g d9 a8;go_wp2_with fail;go_roundg (b4- (i+1));case measure=>omega
    case rel=>exact⟨i+1,by omega,z,congrArg (Value.int .i64) k2.o,g7⟩
  .obtain rfl:i=b4:=by omega
   have o7:¬ (i:Int)< (i:Int):=by omega
   go_wp2_with fail;refine d7.o _ _ ?_;go_wp2_with fail;go_ret;exact⟨z,HB.o⟩
mutual
theorem sps_all:∀s:St,SpOk s
 | .mk k l c s t x y body els id sl ot lo=>by
  show SsOk body/\SsOk els
  exact⟨sss_step body (spss_all body),sss_step els (spss_all els)⟩
theorem spss_all:∀ (l:List St),∀s∈l,SpOk s
 | [],s,hs=>by cases hs
 |y::r,s,hs=>by
  by_cases e:s=y
  .rw[e]
   exact sps_all y
  .exact spss_all r s ((List.mem_cons.1 hs).resolve_left e)
end
theorem sss_all(l:List St):SsOk l:=sss_step l (spss_all l)
theorem info28:(Tryz.prog.info? 28).map (·.size)=some 5:=by kernel_rfl
theorem under28:∃d,Tryz.prog.underlying 28=some d/\d.isRow=true:=by
 have h:(Tryz.prog.underlying 28).map (·.isRow)=some true:=by kernel_rfl
 obtain⟨d,g,j⟩:=Option.map_eq_some_iff.1 h;exact⟨d,g,j⟩
theorem zero28:∃i z,Tryz.prog.info? 28=some i/\i.zero=some z/\z.cells=(List.replicate 5 (.slice none 0 0):List Value).toArray:=infoZ (by kernel_rfl)
theorem PgL.at{ok:Nat->Prop}{P:Pg}{n1 n2 n3 n4:Value}(h:PgL ok w P v0 v1 v2 v3 v4 n1 n2 n3 n4)(g:bL w W):PgL (fun _=>True) W P v0 v1 v2 v3 v4 n1 n2 n3 n4:=(h.keep fun b o u _ j=>below_cell g b o u j).weak fun _ _=>trivial
theorem ro_one{g:Type}{E:El g}{ok:Nat->Prop}{l:List g}(h:Ro E ok w v l):v.oneCell'=true:=by obtain⟨a,cap,rfl,-⟩:=h;rfl
theorem same_tail{Q Q0:Nat->Prop}{P:Pg}{n1 n2 n3 n4:Value}{z:Nat}(d5:Tryz.prog.follows .mixedOrders=true)(HN:Hid (P.threads.length=j))(b8:Hid (True->Roomy j g))(G1:Hid (PgL Q w P v6 v7 v8 (.slice a0 j g) v0 n1 n2 n3 n4))(G2:Hid (PgL Q0 w P v9 u0 u1 (.slice a1 j n0) v1 v2 v3 v4 v5))(J:Hid (bL w W/\(Blk W z 30 (pgC P v6 v7 v8 (.slice a0 j g) v0 n1 n2 n3 n4 [])/\Blk W (z+1) 30 (pgC P v9 u0 u1 (.slice a1 j n0) v1 v2 v3 v4 v5 []))/\Blk W n5 28 [v0,n1,n2,n3,n4]/\Blk W n6 28 [v1,v2,v3,v4,v5]))(hU:l2.length=153:=by rfl):
  Code.wp Tryz.prog (dropS 3 (Tryz.f12.body.getD .skip)) (bodyPost Tryz.prog Tryz.f12 (Yes w)) ⟨(u2::u3::Pt z::Pt (z+1)::u4::Pt n5::Pt n6::l2).toArray,[]⟩ W:=by
 revert l2;apply aN;iterate 153 intro _
 change Code.wp _ _ _ _ _;conv in (dropS _ _)=>whnf
 refine wk fun KK a3=>?_;have p0:W.cell? ⟨n5,0,none⟩=some (v0):=J.o.2.2.1.cell 0;have q0:W.cell? ⟨n6,0,none⟩=some (v1):=J.o.2.2.2.cell 0;go_wp2_with fail;refine(rstrs_yes P.nv (G1.o.at J.o.1).nv (G2.o.at J.o.1).nv).mono ?_;rintro e Y1 ⟨rfl,C⟩;have K:Hid (bL w Y1/\(Blk Y1 z 30 (pgC P v6 v7 v8 (.slice a0 j g) v0 n1 n2 n3 n4 [])/\Blk Y1 (z+1) 30 (pgC P v9 u0 u1 (.slice a1 j n0) v1 v2 v3 v4 v5 []))/\Blk Y1 n5 28 [v0,n1,n2,n3,n4]/\Blk Y1 n6 28 [v1,v2,v3,v4,v5]):=O ⟨J.o.1.trans (C.mono J.o.1.size),⟨J.o.2.1.1.below C,J.o.2.1.2.below C⟩,J.o.2.2.1.below C,J.o.2.2.2.below C⟩;clear C J p0 q0;have p1:Y1.cell? ⟨n5,1,none⟩=some (n1):=K.o.2.2.1.cell 1;have q1:Y1.cell? ⟨n6,1,none⟩=some (v2):=K.o.2.2.2.cell 1
 go_wp2_with fail;refine(rstrs_yes P.na (G1.o.at K.o.1).na (G2.o.at K.o.1).na).mono ?_;rintro e X ⟨rfl,C⟩;have N:Hid (bL w X/\(Blk X z 30 (pgC P v6 v7 v8 (.slice a0 j g) v0 n1 n2 n3 n4 [])/\Blk X (z+1) 30 (pgC P v9 u0 u1 (.slice a1 j n0) v1 v2 v3 v4 v5 []))/\Blk X n5 28 [v0,n1,n2,n3,n4]/\Blk X n6 28 [v1,v2,v3,v4,v5]):=O ⟨K.o.1.trans (C.mono K.o.1.size),⟨K.o.2.1.1.below C,K.o.2.1.2.below C⟩,K.o.2.2.1.below C,K.o.2.2.2.below C⟩;clear C K p1 q1;have p2:X.cell? ⟨n5,2,none⟩=some (n2):=N.o.2.2.1.cell 2;have q2:X.cell? ⟨n6,2,none⟩=some (v3):=N.o.2.2.2.cell 2;go_wp2_with fail;refine(rstrs_yes P.nm (G1.o.at N.o.1).nm (G2.o.at N.o.1).nm).mono ?_;rintro e Y ⟨rfl,C⟩
 have G:Hid (bL w Y/\(Blk Y z 30 (pgC P v6 v7 v8 (.slice a0 j g) v0 n1 n2 n3 n4 [])/\Blk Y (z+1) 30 (pgC P v9 u0 u1 (.slice a1 j n0) v1 v2 v3 v4 v5 []))/\Blk Y n5 28 [v0,n1,n2,n3,n4]/\Blk Y n6 28 [v1,v2,v3,v4,v5]):=O ⟨N.o.1.trans (C.mono N.o.1.size),⟨N.o.2.1.1.below C,N.o.2.1.2.below C⟩,N.o.2.2.1.below C,N.o.2.2.2.below C⟩;clear C N p2 q2;have p3:Y.cell? ⟨n5,3,none⟩=some (n3):=G.o.2.2.1.cell 3;have q3:Y.cell? ⟨n6,3,none⟩=some (v4):=G.o.2.2.2.cell 3;go_wp2_with fail;refine(rstrs_yes P.nc (G1.o.at G.o.1).nc (G2.o.at G.o.1).nc).mono ?_;rintro e Z ⟨rfl,C⟩
 have M:Hid (bL w Z/\(Blk Z z 30 (pgC P v6 v7 v8 (.slice a0 j g) v0 n1 n2 n3 n4 [])/\Blk Z (z+1) 30 (pgC P v9 u0 u1 (.slice a1 j n0) v1 v2 v3 v4 v5 []))/\Blk Z n5 28 [v0,n1,n2,n3,n4]/\Blk Z n6 28 [v1,v2,v3,v4,v5]):=O ⟨G.o.1.trans (C.mono G.o.1.size),⟨G.o.2.1.1.below C,G.o.2.1.2.below C⟩,G.o.2.2.1.below C,G.o.2.2.2.below C⟩;clear C G p3 q3;have p4:Z.cell? ⟨n5,4,none⟩=some (n4):=M.o.2.2.1.cell 4;have q4:Z.cell? ⟨n6,4,none⟩=some (v5):=M.o.2.2.2.cell 4;go_wp2_with fail;refine(rstrs_yes P.nh (G1.o.at M.o.1).nh (G2.o.at M.o.1).nh).mono ?_;rintro e U ⟨rfl,C⟩
 have a5:Hid (bL w U/\(Blk U z 30 (pgC P v6 v7 v8 (.slice a0 j g) v0 n1 n2 n3 n4 [])/\Blk U (z+1) 30 (pgC P v9 u0 u1 (.slice a1 j n0) v1 v2 v3 v4 v5 []))/\Blk U n5 28 [v0,n1,n2,n3,n4]/\Blk U n6 28 [v1,v2,v3,v4,v5]):=O ⟨M.o.1.trans (C.mono M.o.1.size),⟨M.o.2.1.1.below C,M.o.2.1.2.below C⟩,M.o.2.2.1.below C,M.o.2.2.2.below C⟩;clear C M p4 q4;go_wp2_with fail;refine a3.o _ _ ?_;clear a3 KK;have R:Hid (bL w U/\Blk U z 30 (pgC P v6 v7 v8 (.slice a0 j g) v0 n1 n2 n3 n4 [])/\Blk U (z+1) 30 (pgC P v9 u0 u1 (.slice a1 j n0) v1 v2 v3 v4 v5 [])):=O ⟨a5.o.1,a5.o.2.1.1,a5.o.2.1.2⟩;clear a5;refine wk fun KK a3=>?_;go_wp2_with fail
 go_loopg [7] j (fun x iv wr=>∃i:Nat,i<=j/\x=j-i/\iv=I i/\Hid (bL w wr/\Blk wr z 30 (pgC P v6 v7 v8 (.slice a0 j g) v0 n1 n2 n3 n4 [])/\Blk wr (z+1) 30 (pgC P v9 u0 u1 (.slice a1 j n0) v1 v2 v3 v4 v5 [])));case atStart=>exact⟨0,Nat.zero_le _,rfl,rfl,R⟩
 case round=>
  clear R;obtain⟨i,hi,rfl,rfl,R⟩:=hrel;have p5:wr.cell? ⟨z,5,none⟩=some (.slice a0 j g):=R.o.2.1.cell 5;by_cases d3:i<j
  .have e4:(i:Int)< (j:Int):=by omega
   have e5:(0:Int)<=(i:Int):=by omega
   have d8:Hid (wrap64 ((i:Int)+1)=((i+1:Nat):Int)):=O (by have h1:=(b8.o trivial).1;have h2:=(b8.o trivial).2;have:=IntWalk.wrap64_in ((i:Int)+1) (by omega);rw[this];omega)
   obtain⟨x,hx⟩:∃x,P.threads[i]? =some x:=⟨_,List.getElem?_eq_getElem (by rw[HN.o];exact d3)⟩;obtain⟨F,hV⟩:∃F,wr.drew=F:=⟨_,rfl⟩;have H:Hid (bL w F/\Blk F z 30 (pgC P v6 v7 v8 (.slice a0 j g) v0 n1 n2 n3 n4 [])/\Blk F (z+1) 30 (pgC P v9 u0 u1 (.slice a1 j n0) v1 v2 v3 v4 v5 [])):=O (by rw[<-hV];exact⟨R.o.1.trans (Below.refl _ _).drew,R.o.2.1.drew,R.o.2.2.drew⟩);obtain⟨t1,d1,c9,-,b5⟩:=(G1.o.at H.o.1).threads;obtain⟨t2,d2,a9,-,c8⟩:=(G2.o.at H.o.1).threads;obtain⟨b1,o1,e0,rfl,-,a4,d6⟩:=b5 i x hx;obtain⟨b2,o2,e3,rfl,-,a2,d4⟩:=c8 i x hx;obtain⟨x1,y1,rfl,b9,d0⟩:=d6;obtain⟨x2,y2,rfl,d9,b4⟩:=d4;simp only[Value.slice.injEq]at c9 a9;obtain⟨rfl,-,-⟩:=c9;obtain⟨rfl,-,-⟩:=a9
   obtain⟨BN,a7⟩:=eX (x.body.length);have S:Hid ((F.cell? ⟨b1,o1+i*3,none⟩=some (.string x.name)/\F.cell? ⟨b1,o1+i*3+1,none⟩=some (I x.locals)/\F.cell? ⟨b1,o1+i*3+2,none⟩=some (.slice x1 BN y1))/\F.cell? ⟨b2,o2+i*3,none⟩=some (.string x.name)/\F.cell? ⟨b2,o2+i*3+1,none⟩=some (I x.locals)/\F.cell? ⟨b2,o2+i*3+2,none⟩=some (.slice x2 BN y2)):=O (by rw[<-a7];exact⟨⟨World.cellF_cell (a4 0 _ rfl),World.cellF_cell (a4 1 _ rfl),World.cellF_cell (a4 2 _ rfl)⟩,World.cellF_cell (a2 0 _ rfl),World.cellF_cell (a2 1 _ rfl),World.cellF_cell (a2 2 _ rfl)⟩)
   have a6:=sss_all x.body x1 x2 y1 y2 F b9 d0 b4;rw[a7]at a6;have b7:=O a6;obtain⟨e2,a8⟩:=eX (x.name);obtain⟨lc,b6⟩:∃n:Int,(x.locals:Int)=n:=⟨_,rfl⟩;rw[a8,b6]at S;clear b5 c8 a4 a2 b9 d9 d0 b4 a6 hx a7 a8 b6 x;go_wp2_with fail;refine wp_region_x [] (fun W'=>bL F W') d5 ?_;rw[hV];clear hV R p5;have A:Hid (bL F F):=O (Below.refl _ _);refine ag 0 ?_;refine af (fun D=>D.cell? ⟨z,5,none⟩=some (.slice (some ⟨b1,o1,none⟩) j g)) 1 (fun D E=> (H.o.2.1.below E).cell 5) ?_;refine ak 2 ?_;refine nm ?_;refine ag 4 ?_;refine af _ 5 (fun D E=>below_cl E _ _ _ S.o.1.1) ?_;refine ag 6 ?_
   refine af (fun D=>D.cell? ⟨z+1,5,none⟩=some (.slice (some ⟨b2,o2,none⟩) j n0)) 7 (fun D E=> (H.o.2.2.below E).cell 5) ?_;refine nm ?_;refine ai 8 ?_;refine af _ 11 (fun D E=>below_cl E _ _ _ S.o.2.1) ?_;refine nm ?_;refine ai 12 ?_;refine af (fun D=>D.cell? ⟨z,5,none⟩=some (.slice (some ⟨b1,o1,none⟩) j g)) 15 (fun D E=> (H.o.2.1.below E).cell 5) ?_;refine nm ?_;refine ai 16 ?_;refine af _ 19 (fun D E=>below_cl E _ _ _ S.o.1.2.1) ?_;refine nm ?_;refine ag 20 ?_;refine af (fun D=>D.cell? ⟨z+1,5,none⟩=some (.slice (some ⟨b2,o2,none⟩) j n0)) 21 (fun D E=> (H.o.2.2.below E).cell 5) ?_;refine ak 22 ?_;refine nm ?_;refine ag 24 ?_
   refine af _ 25 (fun D E=>below_cl E _ _ _ S.o.2.2.1) ?_;refine ak 26 ?_;refine nm ?_;refine ak 28 ?_;refine af (fun D=>D.cell? ⟨z,5,none⟩=some (.slice (some ⟨b1,o1,none⟩) j g)) 30 (fun D E=> (H.o.2.1.below E).cell 5) ?_;refine ag 31 ?_;refine nm ?_;refine ak 32 ?_;refine af _ 34 (fun D E=>below_cl E _ _ _ S.o.1.2.2) ?_;refine ag 35 ?_;refine nm ?_;refine af (fun D=>D.cell? ⟨z+1,5,none⟩=some (.slice (some ⟨b2,o2,none⟩) j n0)) 36 (fun D E=> (H.o.2.2.below E).cell 5) ?_;refine ai 37 ?_;refine nm ?_;refine af _ 40 (fun D E=>below_cl E _ _ _ S.o.2.2.2) ?_;refine nm ?_;refine wpX_one 41 (by kernel_rfl) rfl (fun d7 hK=>?_);rw[if_pos (by rfl)];go_simp;refine b7.o.mono ?_
   rintro e W3 ⟨rfl,C⟩;have V:=O C;refine hK _ _ (fun _=>V.o) ?_;clear hK d7 C;try refine nm ?_
   refine ak 42 ?_;refine nm ?_;refine dn ?_;have G:Hid (bL w W3/\Blk W3 z 30 (pgC P v6 v7 v8 (.slice (some ⟨b1,o1,none⟩) j g) v0 n1 n2 n3 n4 [])/\Blk W3 (z+1) 30 (pgC P v9 u0 u1 (.slice (some ⟨b2,o2,none⟩) j n0) v1 v2 v3 v4 v5 [])):=O ⟨H.o.1.trans (V.o.mono H.o.1.size),H.o.2.1.below V.o,H.o.2.2.below V.o⟩;clear A V H b7 S;go_wp2_with fail;go_roundg (j- (i+1));case measure=>omega
   case rel=>exact⟨i+1,by omega,rfl,congrArg (Value.int .i64) d8.o,G⟩
  .obtain rfl:i=j:=by omega
   have e1:¬ (i:Int)< (i:Int):=by omega
   go_wp2_with fail;refine a3.o _ _ ?_;go_wp2_with fail;go_ret;exact⟨rfl,R.o.1⟩
theorem same_yes{Q Q0:Nat->Prop}(P:Pg)(h1:PgRL Q w P l2)(h2:PgRL Q0 w P l3):Calls Tryz.prog 12 #[.agg l2.toArray,.agg l3.toArray] w (Yes w):=by
 obtain⟨h7,i1,b4,b8,b5⟩:=zero28;obtain⟨d3,e6,d6⟩:=under28;have d0:Tryz.prog.follows .mixedOrders=true:=by kernel_rfl
 obtain⟨v0,v1,v4,v5,K,n1,n2,n3,n4,d1,g1⟩:=h1;obtain⟨a2,a5,a4,i2,N,H,G,J,M,d2,g2⟩:=h2;obtain⟨a6,a8,f3,c9,-⟩:=id g1.threads;obtain⟨a1,a3,e9,-,-⟩:=id g2.threads;subst f3 e9;obtain⟨E,hN⟩:∃E,P.threads.length=E:=⟨_,rfl⟩;rw[hN]at d1 d2 g1 g2 c9;have HN:=O hN;have e3:=O fun _:True=>c9;have X:=O g1;have G2:=O g2;have HP:=O (And.intro d1 d2);clear d1 d2 g1 g2 hN c9;go_enter Tryz.func12,Tryz.ntmps12;refine wk fun KK Y=>?_;go_wp2_with (first
  | ((with_reducible refine aa 2 (.box 30 _) ?_);refine wpList_box_blk rfl (.tmp 0) rfl l2 rfl w.1.size rfl ?_;intro W1 k1 b1 e2;have K1:=O k1;have B1:=O b1;clear k1 b1)
  | ((with_reducible refine aa 3 (.box 30 _) ?_);refine wpList_box_blk rfl (.tmp 1) rfl l3 rfl (w.1.size+1) e2 ?_;intro W2 k2 b2 s2;have K2:=O k2;have B2:=O b2;clear k2 b2)
  |fail)
 refine Y.o _ _ ?_;clear Y KK;obtain⟨z,hz⟩:∃z,w.1.size=z:=⟨_,rfl⟩;rw[hz]at K1 K2;rw[hz];have HZ:=O hz;have HQ:Hid (Below w.1.size w W2/\Blk W2 z 30 (pgC P v0 v1 v4 (.slice a6 E a8) K n1 n2 n3 n4 [])/\Blk W2 (z+1) 30 (pgC P a2 a5 a4 (.slice a1 E a3) N H G J M [])):=O (by rw[<-HP.o.1,<-HP.o.2];have f2:=B1.o.trans (B2.o.mono (by have:=B1.o.size;omega));exact⟨f2,K1.o.below B2.o,K2.o⟩)
 clear K1 K2 B1 B2 e2 s2 hz;refine wk fun KK Y=>?_;have p0:W2.cell? ⟨z,0,none⟩=some (v0):=HQ.o.2.1.cell 0;have q0:W2.cell? ⟨z+1,0,none⟩=some (a2):=HQ.o.2.2.cell 0;go_wp2_with fail;refine(rvals_yes P.vars (X.o.at HQ.o.1).vars (G2.o.at HQ.o.1).vars).mono ?_;rintro e U1 ⟨rfl,g⟩;have a7:Hid (Below w.1.size w U1/\Blk U1 z 30 (pgC P v0 v1 v4 (.slice a6 E a8) K n1 n2 n3 n4 [])/\Blk U1 (z+1) 30 (pgC P a2 a5 a4 (.slice a1 E a3) N H G J M [])):=O ⟨HQ.o.1.trans (g.mono HQ.o.1.size),HQ.o.2.1.below g,HQ.o.2.2.below g⟩;clear g HQ p0 q0;have p1:U1.cell? ⟨z,1,none⟩=some (v1):=a7.o.2.1.cell 1;have q1:U1.cell? ⟨z+1,1,none⟩=some (a5):=a7.o.2.2.cell 1;go_wp2_with fail
 refine(rints_yes P.arrays (X.o.at a7.o.1).arrays (G2.o.at a7.o.1).arrays).mono ?_;rintro e U2 ⟨rfl,g⟩;have V:Hid (Below w.1.size w U2/\Blk U2 z 30 (pgC P v0 v1 v4 (.slice a6 E a8) K n1 n2 n3 n4 [])/\Blk U2 (z+1) 30 (pgC P a2 a5 a4 (.slice a1 E a3) N H G J M [])):=O ⟨a7.o.1.trans (g.mono a7.o.1.size),a7.o.2.1.below g,a7.o.2.2.below g⟩;clear g a7 p1 q1;have p2:U2.cell? ⟨z,2,none⟩=some (.int .i64 (P.mutexes:Int)):=V.o.2.1.cell 2;have q2:U2.cell? ⟨z+1,2,none⟩=some (.int .i64 (P.mutexes:Int)):=V.o.2.2.cell 2;have p3:U2.cell? ⟨z,3,none⟩=some (.int .i64 (P.conds:Int)):=V.o.2.1.cell 3;have q3:U2.cell? ⟨z+1,3,none⟩=some (.int .i64 (P.conds:Int)):=V.o.2.2.cell 3
 have p4:U2.cell? ⟨z,4,none⟩=some (v4):=V.o.2.1.cell 4;have q4:U2.cell? ⟨z+1,4,none⟩=some (a4):=V.o.2.2.cell 4;go_wp2_with fail;refine(rints_yes P.chans (X.o.at V.o.1).chans (G2.o.at V.o.1).chans).mono ?_;rintro e U3 ⟨rfl,g⟩;have a0:Hid (Below w.1.size w U3/\Blk U3 z 30 (pgC P v0 v1 v4 (.slice a6 E a8) K n1 n2 n3 n4 [])/\Blk U3 (z+1) 30 (pgC P a2 a5 a4 (.slice a1 E a3) N H G J M [])):=O ⟨V.o.1.trans (g.mono V.o.1.size),V.o.2.1.below g,V.o.2.2.below g⟩;clear g V p2 p3 p4 q2 q3 q4;have p5:U3.cell? ⟨z,5,none⟩=some (.slice a6 E a8):=a0.o.2.1.cell 5;have q5:U3.cell? ⟨z+1,5,none⟩=some (.slice a1 E a3):=a0.o.2.2.cell 5;have p6:U3.cell? ⟨z,6,none⟩=some (.int .i64 (P.main:Int)):=a0.o.2.1.cell 6
 have q6:U3.cell? ⟨z+1,6,none⟩=some (.int .i64 (P.main:Int)):=a0.o.2.2.cell 6;have p7:U3.cell? ⟨z,7,none⟩=some (.int .i64 (P.stmts:Int)):=a0.o.2.1.cell 7;have q7:U3.cell? ⟨z+1,7,none⟩=some (.int .i64 (P.stmts:Int)):=a0.o.2.2.cell 7;go_wp2_with fail;refine Y.o _ _ ?_;clear Y KK p5 p6 p7 q5 q6 q7;refine wk fun KK Y=>?_;obtain⟨F,hV⟩:∃F,U3.drew=F:=⟨_,rfl⟩;have Z:Hid (Below w.1.size w F/\Blk F z 30 (pgC P v0 v1 v4 (.slice a6 E a8) K n1 n2 n3 n4 [])/\Blk F (z+1) 30 (pgC P a2 a5 a4 (.slice a1 E a3) N H G J M [])):=O (by rw[<-hV];exact⟨a0.o.1.trans (Below.refl _ _).drew,a0.o.2.1.drew,a0.o.2.2.drew⟩);have d9:Hid ([K,n1,n2,n3,n4].length=5/\∀v∈ [K,n1,n2,n3,n4],v.oneCell'=true):=O ⟨rfl,fun v hv=>by
  simp only[List.mem_cons,List.not_mem_nil,or_false]at hv;rcases hv with h|h|h|h|h
  .rw[h];exact ro_one X.o.nv
  .rw[h];exact ro_one X.o.na
  .rw[h];exact ro_one X.o.nm
  .rw[h];exact ro_one X.o.nc
  .rw[h];exact ro_one X.o.nh⟩
 have e4:Hid ([N,H,G,J,M].length=5/\∀v∈ [N,H,G,J,M],v.oneCell'=true):=O ⟨rfl,fun v hv=>by
  simp only[List.mem_cons,List.not_mem_nil,or_false]at hv;rcases hv with h|h|h|h|h
  .rw[h];exact ro_one G2.o.nv
  .rw[h];exact ro_one G2.o.na
  .rw[h];exact ro_one G2.o.nm
  .rw[h];exact ro_one G2.o.nc
  .rw[h];exact ro_one G2.o.nh⟩
 have d7:Hid (F.rangeAt z 8 [K,n1,n2,n3,n4]/\F.rangeAt (z+1) 8 [N,H,G,J,M]):=O ⟨Blk.range (pre:=[v0,v1,I P.mutexes,I P.conds,v4,.slice a6 E a8,I P.main,I P.stmts]) (mid:=[K,n1,n2,n3,n4]) (post:=[]) Z.o.2.1 rfl,Blk.range (pre:=[a2,a5,I P.mutexes,I P.conds,a4,.slice a1 E a3,I P.main,I P.stmts]) (mid:=[N,H,G,J,M]) (post:=[]) Z.o.2.2 rfl⟩;clear a0;go_wp2_with fail;refine wp_region_x [] (fun W'=>Below F.1.size F W') d0 ?_;rw[hV];clear hV;have HS:Hid (Below F.1.size F F):=O (Below.refl _ _);refine tk 0 (some 67) HS ?_;refine tl 1 68 HS 28 67 z 8 [K,n1,n2,n3,n4] d3 (fun W hS=>fun j u hu=>below_cl hS _ _ _ (d7.o.1 j u hu)) e6 d6 info28 ?_;refine tk 2 (some 69) HS ?_
 refine tl 3 70 HS 28 69 (z+1) 8 [N,H,G,J,M] d3 (fun W hS=>fun j u hu=>below_cl hS _ _ _ (d7.o.2 j u hu)) e6 d6 info28 ?_;refine nm ?_;refine wpX_three [4,5] (by kernel_rfl) ?_ (by decide);intro i hi;simp only[List.mem_cons,List.not_mem_nil,or_false]at hi;rcases hi with rfl|rfl
 .refine⟨_,rfl,rfl,fun C D=>?_⟩;obtain⟨S,f8⟩:∃b,F.1.size=b:=⟨_,rfl⟩;refine wp_alloc_blk b4 b8 b5 rfl S f8 ?_;intro X1 A g h8;have b9:=O (HS.o.trans (g.mono HS.o.size));have g7:=O A;have e8:Hid (F.1.size<=S/\S<X1.1.size):=O ⟨by have:=HS.o.size;omega,A.lt⟩;change C (Act.put _ (some 5) _) X1;refine D _ _ (fun _=>b9.o) ?_;clear D C A g;refine nm ?_;refine oD 5 fun C D=>?_;obtain⟨U,f4⟩:∃b,X1.1.size=b:=⟨_,rfl⟩;refine wp_alloc_blk b4 b8 b5 rfl U f4 ?_;intro X2 A g i0;have e1:=O (b9.o.trans (g.mono b9.o.size));have f5:=O A;have g8:Hid (F.1.size<=U/\U<X2.1.size):=O ⟨by have:=b9.o.size;omega,A.lt⟩;have f0:=O (g7.o.below g);have e0:Hid (S≠U):=O (by have h1:=e8.o.2;omega);change C (Act.put _ (some 6) _) X2
  refine D _ _ (fun _=>e1.o) ?_;clear D C A g;refine nm ?_;refine oD 6 fun C D=>?_;refine wp_store_ch info28 (.tmp 5) (.tmp 68) rfl S [K,n1,n2,n3,n4] _ rfl rfl f0.o rfl d9.o ?_;intro X3 A R;have d5:=O (R.below e8.o.1 e1.o);have g6:=O A;have h3:=O (R.blk (by have:=e0.o;omega) f5.o);change C (Act.put _ none _) X3;refine D _ _ (fun _=>d5.o) ?_;clear D C A R;refine oD 7 fun C D=>?_;refine wp_store_ch info28 (.tmp 6) (.tmp 70) rfl U [N,H,G,J,M] _ rfl rfl h3.o rfl e4.o ?_;intro X4 A R;have a9:=O (R.below g8.o.1 d5.o);have g9:=O A;have h6:=O (R.blk (by have:=e0.o;omega) g6.o);change C (Act.put _ none _) X4;refine D _ _ (fun _=>a9.o) ?_;clear D C A R;try simp only[Act.put]
  refine dn ?_;have c8:Hid (Below w.1.size w X4/\(Blk X4 z 30 (pgC P v0 v1 v4 (.slice a6 E a8) K n1 n2 n3 n4 [])/\Blk X4 (z+1) 30 (pgC P a2 a5 a4 (.slice a1 E a3) N H G J M []))/\Blk X4 S 28 [K,n1,n2,n3,n4]/\Blk X4 U 28 [N,H,G,J,M]):=O ⟨Z.o.1.trans (a9.o.mono Z.o.1.size),⟨Z.o.2.1.below a9.o,Z.o.2.2.below a9.o⟩,h6.o,g9.o⟩;go_wp2_with fail;refine Y.o _ _ ?_;clear Y KK;exact same_tail d0 HN e3 X G2 c8
 .refine⟨_,rfl,rfl,fun C D=>?_⟩;obtain⟨U,h5⟩:∃b,F.1.size=b:=⟨_,rfl⟩;refine wp_alloc_blk b4 b8 b5 rfl U h5 ?_;intro X5 A g h9;have b7:=O (HS.o.trans (g.mono HS.o.size));have f6:=O A;have d8:Hid (F.1.size<=U/\U<X5.1.size):=O ⟨by have:=HS.o.size;omega,A.lt⟩;change C (Act.put _ (some 6) _) X5;refine D _ _ (fun _=>b7.o) ?_;clear D C A g;refine nm ?_;refine oD 4 fun C D=>?_;obtain⟨S,f7⟩:∃b,X5.1.size=b:=⟨_,rfl⟩;refine wp_alloc_blk b4 b8 b5 rfl S f7 ?_;intro X6 A g i3;have e5:=O (b7.o.trans (g.mono b7.o.size));have h0:=O A;have g4:Hid (F.1.size<=S/\S<X6.1.size):=O ⟨by have:=b7.o.size;omega,A.lt⟩;have f9:=O (f6.o.below g);have e7:Hid (S≠U):=O (by have h1:=d8.o.2;omega);change C (Act.put _ (some 5) _) X6
  refine D _ _ (fun _=>e5.o) ?_;clear D C A g;refine nm ?_;refine oD 6 fun C D=>?_;refine wp_store_ch info28 (.tmp 5) (.tmp 68) rfl S [K,n1,n2,n3,n4] _ rfl rfl h0.o rfl d9.o ?_;intro X7 A R;have d4:=O (R.below g4.o.1 e5.o);have g5:=O A;have f1:=O (R.blk (by have:=e7.o;omega) f9.o);change C (Act.put _ none _) X7;refine D _ _ (fun _=>d4.o) ?_;clear D C A R;refine oD 7 fun C D=>?_;refine wp_store_ch info28 (.tmp 6) (.tmp 70) rfl U [N,H,G,J,M] _ rfl rfl f1.o rfl e4.o ?_;intro X8 A R;have b6:=O (R.below d8.o.1 d4.o);have h4:=O A;have g3:=O (R.blk (by have:=e7.o;omega) g5.o);change C (Act.put _ none _) X8;refine D _ _ (fun _=>b6.o) ?_;clear D C A R;try simp only[Act.put]
  refine dn ?_;have c8:Hid (Below w.1.size w X8/\(Blk X8 z 30 (pgC P v0 v1 v4 (.slice a6 E a8) K n1 n2 n3 n4 [])/\Blk X8 (z+1) 30 (pgC P a2 a5 a4 (.slice a1 E a3) N H G J M []))/\Blk X8 S 28 [K,n1,n2,n3,n4]/\Blk X8 U 28 [N,H,G,J,M]):=O ⟨Z.o.1.trans (b6.o.mono Z.o.1.size),⟨Z.o.2.1.below b6.o,Z.o.2.2.below b6.o⟩,g3.o,h4.o⟩;go_wp2_with fail;refine Y.o _ _ ?_;clear Y KK;exact same_tail d0 HN e3 X G2 c8
structure Wn (w:World):Prop where
 o:Ops w
 h:Shs w
 e:ErrR w
theorem Wn.below{w':World}(h:Wn w)(g:bL w w'):Wn w':=⟨h.o.below g,h.h.below g,h.e.below g h.e.1⟩
theorem ptext_all(s:ByteArray)(w:World)(H:Wn w):Calls Tryz.prog 10 #[.string s] w (FOk w (textR fiR s)):=
 ptext_any isName s w H.e H.o fun W a cap j g hd=>check_any _ a cap W g (H.below j).h hd (desR_nb (read_may s))
theorem known_any(w:World)(H:Wn w):Calls Tryz.prog 9 #[] w (Yes w):=by
 obtain⟨e4,e5,d3,d1,d2⟩:=zero30;obtain⟨e3,e1,a9,b5,b6⟩:=zero32;have HW:=O H;clear H;have a7:=ptext_all kT1 w HW.o;rw[ktx1]at a7;go_enter Tryz.func9,Tryz.ntmps9;refine wk fun Y D=>?_;go_wp2_with fail;refine D.o _ _ ?_;clear D Y;refine wk fun Y D=>?_;go_wp2_with fail;refine a7.mono ?_;clear a7;rintro e W1 ⟨⟨F,rfl,M⟩,J⟩;have a8:=O J;have b4:=O M;have d9:=O M.cells;clear J M;obtain⟨b1,c9⟩:∃b,W1.1.size=b:=⟨_,z⟩;go_wp2_with (first
  | ((with_reducible refine aa 1 (.alloc 30) ?_);refine wpList_alloc_blk d3 d1 d2 z z b1 c9 ?_;intro W2 U b2 s2;have X:=O U;have G:=O b2;clear U b2)
  | ((with_reducible refine aa 2 (.alloc 32) ?_);refine wpList_alloc_blk a9 b5 b6 z z (b1+1) s2 ?_;intro W3 k3 b3 s3;have Z:=O k3;have K:=O b3;clear k3 b3)
  | ((with_reducible refine ah (.store 30 (.tmp 1) _) ?_);refine wpList_store_ch info30 z (.tmp 1) (.tmp 9) z b1 F _ z z (X.o.below K.o) z d9.o ?_;intro W4 k4 c4;have C:=O (And.intro k4 c4);clear k4 c4)
  | ((with_reducible refine ah (.store 32 (.tmp 2) _) ?_);refine wpList_store_ch info32a z (.tmp 2) (.tmp 10) z (b1+1) [.int .i64 (findR kL1).2.1.1,.int .i64 (findR kL1).2.1.2] _ z z (C.o.2.blk (by omega) Z.o) z (two_one _ _) ?_;intro W k5 c5;have E:=O (And.intro k5 c5);clear k5 c5)
  |fail)
 refine D.o _ _ ?_;clear D Y;have a3:Hid (Below W1.1.size W1 W):=O (E.o.2.below (by omega) (C.o.2.below (by omega) (G.o.trans (K.o.mono G.o.size))));have N:Hid (Below w.1.size w W/\Blk W b1 30 F/\PgRL (fun _=>True) W (findR kL1).1 F):=O ⟨a8.o.trans (a3.o.mono a8.o.size),E.o.2.blk (by omega) C.o.1,(b4.o.keep fun b o u _ S=>below_cell a3.o b o u S).weak fun _ _=>trivial⟩;clear X G Z K C E a3 b4 a8 s2 s3 c9;have a4:=ptext_all kT2 W (HW.o.below N.o.1);rw[ktx2]at a4;refine wk fun Y D=>?_;go_wp2_with fail;refine a4.mono ?_;clear a4;rintro e R ⟨⟨d7,rfl,M⟩,J⟩
 have V:Hid (Below w.1.size w R/\Blk R b1 30 F/\PgRL (fun _=>True) R (findR kL1).1 F):=O ⟨N.o.1.trans (J.mono N.o.1.size),N.o.2.1.below J,N.o.2.2.keep fun b o u _ S=>below_cell J b o u S⟩;have d6:=O M.cells;clear J M N;obtain⟨b2,d0⟩:∃b,R.1.size=b:=⟨_,z⟩;go_wp2_with (first
  | ((with_reducible refine aa 4 (.alloc 30) ?_);refine wpList_alloc_blk d3 d1 d2 z z b2 d0 ?_;intro W7 U b2 s2;have X:=O U;have G:=O b2;clear U b2)
  | ((with_reducible refine aa 5 (.alloc 32) ?_);refine wpList_alloc_blk a9 b5 b6 z z (b2+1) s2 ?_;intro W8 k3 b3 s3;have Z:=O k3;have K:=O b3;clear k3 b3)
  | ((with_reducible refine ah (.store 30 (.tmp 4) _) ?_);refine wpList_store_ch info30 z (.tmp 4) (.tmp 14) z b2 d7 _ z z (X.o.below K.o) z d6.o ?_;intro W9 k4 c4;have C:=O (And.intro k4 c4);clear k4 c4)
  | ((with_reducible refine ah (.store 32 (.tmp 5) _) ?_);refine wpList_store_ch info32a z (.tmp 5) (.tmp 15) z (b2+1) [.int .i64 1,.int .i64 15] _ z z (C.o.2.blk (by omega) Z.o) z (two_one _ _) ?_;intro A k5 c5;have E:=O (And.intro k5 c5);clear k5 c5)
  |fail)
 refine D.o _ _ ?_;clear D Y;have a1:Hid (Below R.1.size R A):=O (E.o.2.below (by omega) (C.o.2.below (by omega) (G.o.trans (K.o.mono G.o.size))));have Q:Hid (Below w.1.size w A/\Blk A b1 30 F/\PgRL (fun _=>True) A (findR kL1).1 F):=O ⟨V.o.1.trans (a1.o.mono V.o.1.size),V.o.2.1.below a1.o,V.o.2.2.keep fun b o u _ S=>below_cell a1.o b o u S⟩;have HQ:=O E.o.1;clear X G Z K C E a1 V s2 s3 d0;obtain⟨v0,v1,v4,v5,n0,n1,n2,n3,n4,a2,a6⟩:=Q.o.2.2;obtain⟨a0,c0,b8,-,-⟩:=id a6.vars;obtain⟨a5,c5,b9,-,c8⟩:=id a6.threads;have d5:∃t,(findR kL1).1.threads[0]? =some t/\t.locals=1:=by
  have j:=kfi1.2.2.2;cases hq:(findR kL1).1.threads with
  |nil=>rw[hq]at j;cases j
  |cons t r=> rw[hq]at j;simp only[List.map_cons,List.cons.injEq]at j;exact⟨t,z,j.1⟩
 have b7:(findR kL1).1.threads.length=1:=by have j:=congrArg List.length kfi1.2.2.2;simpa using j
 obtain⟨t,ht,d4⟩:=d5;obtain⟨g,of,cs,rfl,-,hr,d8⟩:=c8 0 t ht;obtain⟨xa,xc,rfl,-,-⟩:=d8;rw[kfi1.2.2.1]at b8;rw[b7]at b9;subst b8 b9;have p7:A.cell? ⟨b1,7,none⟩=some (.int .i64 3):=(Q.o.2.1.cell 7).trans (by rw[a2];exact congrArg (fun n:Nat=>some (Value.int .i64 (n:Int))) kfi1.2.1);have p0:A.cell? ⟨b1,0,none⟩=some (.slice a0 1 c0):=(Q.o.2.1.cell 0).trans (by rw[a2];rfl);have p5:A.cell? ⟨b1,5,none⟩=some (.slice (some ⟨g,of,none⟩) 1 c5):=(Q.o.2.1.cell 5).trans (by rw[a2];rfl);have e2:A.cell? ⟨g,of+1,none⟩=some (.int .i64 1):=by have j:=World.cellF_cell (hr 1 _ z);rw[d4]at j;simpa using j
 have q0:A.cell? ⟨b2+1,0,none⟩=some (.int .i64 1):=HQ.o.cell 0;have q1:A.cell? ⟨b2+1,1,none⟩=some (.int .i64 15):=HQ.o.cell 1;have e0:(findR kL1).2.2=0:=by rw[kfi1.1]
 have HE:=O Q.o.1;clear a2 a6 c8 b7 ht d4 hr Q;try simp only[e0]
 go_wp2_with fail;go_ret;exact⟨z,HE.o⟩
def bS(l:List UInt8):ByteArray:=⟨l.toArray⟩
def Ex.bind:Ex->Nat
 | .mk k _ _ _ _ o _=>if k=6 then rankOf o.toNat else if k=4∨k=5 then 6 else 7
def par(b n:Nat)(t:List UInt8):List UInt8:=if b<n then 40::(t++[41]) else t
def exT:Ex->List UInt8
 | .mk k n s _ _ _ []=>if k=1 then Lib.itoa n else s.data.toList
 | .mk k _ s _ _ _ [x]=>if k=3 then s.data.toList++(91::(exT x++[93])) else (if k=4 then 45 else 33)::par x.bind 6 (exT x)
 | .mk _ _ _ _ _ o [x,y]=>par x.bind (if rankOf o.toNat=3 then 4 else rankOf o.toNat) (exT x)++(32::((opS.getD o.toNat noB).data.toList++(32::par y.bind (rankOf o.toNat+1) (exT y))))
 |_=> []
def tabs(n:Nat):List UInt8:=List.replicate n 9
def exW(e:Ex)(n:Nat):List UInt8:=par e.bind n (exT e)
mutual
def stT:St->Nat->List UInt8
 | .mk k _ _ s t x y body els _ _ _ _,n=>
  if k=1 then [108,101,116,32]++(s.data.toList++([32,61,32]++(exT x++[59])))
  else if k=2 then s.data.toList++([32,61,32]++(exT x++[59]))
  else if k=3 then s.data.toList++([91]++(exT y++([93,32,61,32]++(exT x++[59]))))
  else if k=4 then [105,102,32]++(exT x++([32]++(([123,10]++(blT body (n+1)++(tabs n++[125])))++(if els=[] then [] else [32,101,108,115,101,32]++([123,10]++(blT els (n+1)++(tabs n++[125])))))))
  else if k=5 then [119,104,105,108,101,32]++(exT x++([32]++([123,10]++(blT body (n+1)++(tabs n++[125])))))
  else if k=8∨k=12 then (stW.getD k.toNat noB).data.toList++([32]++(s.data.toList++([32]++(t.data.toList++[59]))))
  else if k=11 then [115,101,110,100,32]++(s.data.toList++([32]++(exT x++[59])))
  else if k=14 then [106,111,105,110,59]
  else if k=15 then [112,114,105,110,116,32]++(exT x++[59])
  else (stW.getD k.toNat noB).data.toList++([32]++(s.data.toList++[59]))
def blT:List St->Nat->List UInt8
 | [],_=> []
 |s::r,n=>tabs n++(stT s n++([10]++blT r n))
end
def blockT(l:List St)(n:Nat):List UInt8:=[123,10]++(blT l (n+1)++(tabs n++[125]))
def deT(d:De):List UInt8:=
 if d.kind=1 then [118,97,114,32]++(d.name.data.toList++([32,61,32]++(Lib.itoa d.num++[59,10])))
 else if d.kind=2 then [97,114,114,97,121,32]++(d.name.data.toList++([32]++(Lib.itoa d.num++[59,10])))
 else if d.kind=3 then [109,117,116,101,120,32]++(d.name.data.toList++[59,10])
 else if d.kind=4 then [99,111,110,100,32]++(d.name.data.toList++[59,10])
 else if d.kind=5 then [99,104,97,110,32]++(d.name.data.toList++([32]++(Lib.itoa d.num++[59,10])))
 else [116,104,114,101,97,100,32]++(d.name.data.toList++([32]++(blockT d.body 0++[10])))
def prT(l:List De):List UInt8:=l.flatMap deT
theorem next_let(s:ByteArray)(e:Nat):(decide (e<s.size)&&isLet (byte s e))=((s.data.toList.drop e).head?.any isLet):=by
 by_cases h:e<s.size
 .rw[drop_byte h,decide_eq_true h];simp
 .rw[decide_eq_false h,List.drop_eq_nil_of_le (by rw[size_list];omega)];rfl
theorem gap_bl(hk:k<s.size)(hb:isBl (byte s k)=true):gapAt s (k+1)=gapAt s k:=by rw[gapAt.eq_def s k,gapAt.eq_def s (k+1),endOf_yes hk hb]
theorem gap_at(hk:k<s.size)(hb:isBl (byte s k)=false)(h35:¬ (byte s k).toNat=35):gapAt s k=k:=by have e:endOf isBl s k=k:=endOf_no hk hb;rw[gap_stop (by rw[e];exact fun h=>h35 h.2),e]
theorem gap_out(hk:s.size<=k):gapAt s k=k:=by have e:endOf isBl s k=k:=endOf_end hk;rw[gap_stop (by rw[e];exact fun h=>by have:=h.1;omega),e]
theorem size_l(s:ByteArray):s.data.toList.length=s.size:=Array.length_toList
theorem name_16(h:isName s=true):s.size<=16:=by unfold isName at h;simp only[Bool.and_eq_true,decide_eq_true_eq]at h;exact h.2.1
theorem info46:(Tryz.prog.info? 58).map (·.size)=some 7:=by kernel_rfl
theorem under46:∃d,Tryz.prog.underlying 58=some d/\d.isRow=true:=by
 have h:(Tryz.prog.underlying 58).map (·.isRow)=some true:=by kernel_rfl
 obtain⟨d,h1,h2⟩:=Option.map_eq_some_iff.1 h;exact⟨d,h1,h2⟩
end Go.Proofs.YtgppcdfgdaggjaaGreatDoor
