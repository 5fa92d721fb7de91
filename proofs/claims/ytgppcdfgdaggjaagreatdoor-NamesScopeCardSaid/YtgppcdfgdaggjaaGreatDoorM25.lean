/- Texts laid together. No condition but what each law says. -/
import Derived.Test.YtgppcdfgdaggjaaGreatDoorM24
set_option maxRecDepth 100000
set_option maxHeartbeats 8000000
namespace Go.Proofs.YtgppcdfgdaggjaaGreatDoor
open Go.RowKit Go.Maps Go.Proofs.Tryz
theorem nJ(s:ByteArray)(w:World)(H:Wn w):Calls prog 3 #[.string s] w (sk w):=by
 obtain⟨e2,d9,d1,c8,c9⟩:=hJ;obtain⟨e0,d8,b6,a9,d5⟩:=hG;obtain⟨d2,d0,b8⟩:=eI;have HW:=O H;clear H;have hk:=eh w HW.o;have a0:=ja s w HW.o;have a5:=fun W=>rd s W;obtain⟨a6,hZ⟩:=eX (eC pQ s);rw[hZ]at a0;simp only[hZ]at a5;clear hZ;obtain⟨Pr,⟨J,pc⟩,er⟩:=a6;have a8:=O a5;clear a5;go_in;refine wk fun M A=>?_;go_wp2_with fail;refine A.o _ _ ?_;clear A M;refine wk fun M A=>?_;obtain⟨n,hn⟩:∃n,s.size=n:=⟨_,z⟩;by_cases h3:(3000:Int)< (n:Int)
 .have h4:=h3;rw[<-hn]at h4;clear a0;go_wp2_with fail;refine hk.mono ?_;rintro e W1 ⟨rfl,g⟩;have HE:=O g;clear g;go_wp2_with fail;go_ret;exact⟨z,HE.o⟩
 have h4:=h3;rw[<-hn]at h4;clear hk;go_wp2_with fail;refine A.o _ _ ?_;clear A M h4 h3 hn;refine wk fun M A=>?_;go_wp2_with fail;refine a0.mono ?_;clear a0;rintro e W1 ⟨⟨Q,rfl,K⟩,g⟩;have a7:=O g;have d3:=O K;have b4:=O K.cells;clear g K;obtain⟨b1,d4⟩:∃b,W1.1.size=b:=⟨_,z⟩;go_wp2_with (first
  | (with_reducible refine cp 3 (.alloc 30) ?_;refine ag d1 c8 c9 z z b1 d4 ?_;intro W2 X b2 s2;have Z:=O X;have E:=O b2;clear X b2)
  | (with_reducible refine cp 4 (.alloc 32) ?_;refine ag b6 a9 d5 z z (b1+1) s2 ?_;intro W3 k3 b3 s3;have V:=O k3;have G:=O b3;clear k3 b3)
  | (with_reducible refine s1 30 3 ?_;refine af bN z (.tmp 3) (.tmp 16) z b1 Q _ z z (Z.o.below G.o) z b4.o ?_;intro W4 k4 c4;have D:=O (And.intro k4 c4);clear k4 c4)
  | (with_reducible refine s1 32 4 ?_;refine af br z (.tmp 4) (.tmp 17) z (b1+1) [I J,I pc] _ z z (D.o.2.CV (by omega) V.o) z (cl _ _) ?_;intro R k5 c5;have C:=O (And.intro k5 c5);clear k5 c5)
 )
 refine A.o _ _ ?_;clear A M;have a4:Hid (Below W1.1.size W1 R):=O (C.o.2.below (by omega) (D.o.2.below (by omega) (E.o.trans (G.o.mono E.o.size))));have N:Hid (bL w R/\ak R b1 30 Q/\ak R (b1+1) 32 [I J,I pc]/\ei (fun _=>True) R Pr Q):=O ⟨a7.o.trans (a4.o.mono a7.o.size),C.o.2.CV (by omega) D.o.1,C.o.1,(d3.o.keep fun b o u _ U=>ai a4.o b o u U).CQ fun _ _=>trivial⟩;clear Z E V G D C a4 d3 a7 s2 s3 d4;refine wk fun M A=>?_;go_wp2_with fail;refine(a8.o R).mono ?_;rintro e W6 ⟨⟨a3,rfl,K⟩,g⟩;have Y:=O g;have b5:=O K;have b7:=O K.cells;clear g K;obtain⟨b2,b9⟩:=eX (W6.1.size);go_wp2_with (first
  | (with_reducible refine cp 6 (.alloc 30) ?_;refine ag d1 c8 c9 z z b2 b9 ?_;intro W7 X b2 s2;have Z:=O X;have E:=O b2;clear X b2)
  | (with_reducible refine cp 7 (.alloc 32) ?_;refine ag b6 a9 d5 z z (b2+1) s2 ?_;intro W8 k3 b3 s3;have V:=O k3;have G:=O b3;clear k3 b3)
  | (with_reducible refine s1 30 6 ?_;refine af bN z (.tmp 6) (.tmp 22) z b2 a3 _ z z (Z.o.below G.o) z b7.o ?_;intro W9 k4 c4;have D:=O (And.intro k4 c4);clear k4 c4)
  | (with_reducible refine s1 32 7 ?_;refine af br z (.tmp 7) (.tmp 23) z (b2+1) [I J,I pc] _ z z (D.o.2.CV (by omega) V.o) z (cl _ _) ?_;intro j k5 c5;have C:=O (And.intro k5 c5);clear k5 c5)
 )
 refine A.o _ _ ?_;clear A M;have a2:Hid (Below W6.1.size W6 j):=O (C.o.2.below (by omega) (D.o.2.below (by omega) (E.o.trans (G.o.mono E.o.size))));have F:Hid (bL w j/\ak j b2 30 a3/\ak j (b2+1) 32 [I J,I pc]/\ei (fun _=>True) j Pr a3):=O ⟨N.o.1.trans ((Y.o.trans (a2.o.mono Y.o.size)).mono N.o.1.size),C.o.2.CV (by omega) D.o.1,C.o.1,(b5.o.keep fun b o u _ U=>ai a2.o b o u U).CQ fun _ _=>trivial⟩;have S:Hid (ak j b1 30 Q/\ak j (b1+1) 32 [I J,I pc]/\ei (fun _=>True) j Pr Q):=O (by have g:=Y.o.trans (a2.o.mono Y.o.size);exact⟨N.o.2.1.below g,N.o.2.2.1.below g,N.o.2.2.2.keep fun b o u _ U=>ai g b o u U⟩)
 clear Z E V G D C a2 b5 Y s2 s3 b9 N a8;have p0:j.cell? ⟨b1+1,0,none⟩=some (.int .i64 J):=S.o.2.1.cell 0;have p1:j.cell? ⟨b1+1,1,none⟩=some (.int .i64 pc):=S.o.2.1.cell 1;have q0:j.cell? ⟨b2+1,0,none⟩=some (.int .i64 J):=F.o.2.2.1.cell 0;have q1:j.cell? ⟨b2+1,1,none⟩=some (.int .i64 pc):=F.o.2.2.1.cell 1;go_wp2_with (first
  | (with_reducible refine l1 34 30 ?_;refine aS z 30 (.tmp 3) z b1 0 z Q d2 S.o.1.whole d0 b8 (by rw[b4.o.1];exact bN) ?_)
  | (with_reducible refine l1 35 30 ?_;refine aS z 30 (.tmp 6) z b2 0 z a3 d2 F.o.2.1.whole d0 b8 (by rw[b7.o.1];exact bN) ?_)
 )
 refine(np Pr S.o.2.2 F.o.2.2.2).mono ?_;clear p0 p1 q0 q1;rintro e d7 ⟨rfl,g⟩;have a1:=O (F.o.1.trans (g.mono F.o.1.size));clear g S F;go_wp2_with fail;refine(eh d7 (HW.o.below a1.o)).mono ?_;rintro e e1 ⟨rfl,g⟩;have d6:=O (a1.o.trans (g.mono a1.o.size));clear g a1;go_wp2_with fail;go_ret;exact⟨z,d6.o⟩
end Go.Proofs.YtgppcdfgdaggjaaGreatDoor
