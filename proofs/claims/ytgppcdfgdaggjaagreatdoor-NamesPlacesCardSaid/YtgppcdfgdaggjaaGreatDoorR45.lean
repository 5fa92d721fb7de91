/- Texts laid together. No condition but what each law says. -/
import Derived.Test.YtgppcdfgdaggjaaGreatDoorR44
import Derived.Test.YtgppcdfgdaggjaaGreatDoorR40
set_option maxRecDepth 100000
set_option maxHeartbeats 8000000
namespace Go.Proofs.YtgppcdfgdaggjaaGreatDoor
open Go.RowKit Go.Maps
variable {j:Nat}{w:World}
section
variable {P:Program} {ops:Array Oper} {Q:Exit→Act→World→Prop} {md:Region.Mode} {late:List Nat} {S:World→Prop}
theorem oG2{g:Array Bool}{a:Act}(i:Nat){o:Oper}(h:∀C:Act->World->Prop,(∀A w',(late.contains i=false->S w')->wpX P md ops Q late S j (g.setIfInBounds i true) A w'->C A w')->o.wp P a w C Q)
  (F:Region.ready md ops g=[i]:=by kernel_rfl)(D:ops[i]? =some o:=by rfl)(hw:Region.wanted o (yielded ops a.tmps)=true:=by rfl):wpX P md ops Q late S (j+1) g a w:=
 wpX_one i F D fun A M=>by rw[if_pos hw];exact h A M
end
theorem zPg_b:PgB zPg:=⟨by simp[zPg],by simp[zPg],by simp[zPg],by simp[zPg],by simp[zPg],by simp[zPg]⟩
theorem find_z{l:List De}(h:¬ (findR l).2.2=0):(findR l).1=zPg:=by
 unfold findR at h ⊢;split
 .rfl
 rename_i P L hd;simp only[hd]at h;split
 .rfl
 rename_i x hx;simp only[hx]at h;split
 .rfl
 rename_i h6;rw[if_neg h6]at h;split
 .rfl
 rename_i bs n hb;simp only[hb]at h;exact absurd trivial h
theorem find_b{l:List De}(hR:desR isName l=true):PgB (findR l).1:=by
 by_cases h:(findR l).2.2=0
 .exact(find_law (fun d hm=>by
   have:deR isName d=true:=by unfold desR at hR;exact List.all_eq_true.1 hR d hm
   exact(deR_kind this).2.2) h).b
 .rw[find_z h];exact zPg_b
theorem text_b(s:ByteArray):PgB (textR fiR s).1:=by
 unfold textR;split
 .exact zPg_b
 unfold fiR;split
 .rename_i h;exact find_b h
 .exact zPg_b
theorem plc_law(s:ByteArray)(w:World)(H:Wn w)(HT:Tab w):Calls Tryz.prog 8 #[.string s] w (Yes w):=by
 obtain⟨i30,y30,hi30,hz30,hc30⟩:=zero30;obtain⟨i32,y32,hi32,hz32,hc32⟩:=zero32;obtain⟨d30,hu30,hr30⟩:=under30;have h4':Tryz.prog.follows .mixedOrders=true:=by kernel_rfl
 have HW:=O H;have HTT:=O HT;clear H HT;have hk:=known_any w HW.o;have hc1:=parse_any s w HW.o.e HW.o.o;have hPL:Hid ((parseR s).2.2=0->s.size<=3000->(prT (parseR s).1).length<=65536/\(textR fiR (bS (prT (parseR s).1))).2.2=(findR (parseR s).1).2.2/\(textR fiR (bS (prT (parseR s).1))).1.pl=(findR (parseR s).1).1.pl):=O fun h0 hs=>by have h1:=read_pr s;exact⟨by omega,places_law h0 (by omega)⟩
 have hRM:=O (read_may s);obtain⟨Z,hZ⟩:∃Z,parseR s=Z:=⟨_,z⟩;rw[hZ]at hc1 hPL hRM;clear hZ;obtain⟨l,⟨pl,pc⟩,er⟩:=Z;go_enter Tryz.func8,Tryz.ntmps8;refine wk fun KK U=>?_;go_wp2_with fail;refine U.o _ _ ?_;clear U KK;refine wk fun KK U=>?_;obtain⟨n,hn⟩:∃n,s.size=n:=⟨_,z⟩;by_cases h3:(3000:Int)< (n:Int)
 .have h4:=h3;rw[<-hn]at h4;clear hc1;go_wp2_with fail;refine hk.mono ?_;rintro e W1 ⟨rfl,hb⟩;have HE:=O hb;clear hb;go_wp2_with fail;go_ret;exact⟨z,HE.o⟩
 have h4:=h3;rw[<-hn]at h4;have HS:Hid (s.size<=3000):=O (by omega);clear hk;go_wp2_with fail;refine U.o _ _ ?_;clear U KK h4 h3 hn;refine wk fun KK U=>?_;go_wp2_with fail;refine hc1.mono ?_;clear hc1;rintro e W1 ⟨hb,a,cap,rfl,hroom,hdes⟩;obtain⟨N,hN⟩:=eX l.length;have HN:=O hN;have H1:Hid (bL w W1/\Roomy l.length cap/\DesL (fun _=>True) W1 a l):=O ⟨hb,hroom,DesL.weak (fun _ _=>trivial) hdes.des⟩;dsimp only;rw[hN];clear hb hroom hdes hN;obtain⟨b1,hb1⟩:∃b,W1.1.size=b:=⟨_,z⟩;go_wp2_with (first
  | ((with_reducible refine aa 4 (.alloc 32) ?_);refine wpList_alloc_blk hi32 hz32 hc32 z z b1 hb1 ?_;intro W3 k3 b3 s3;have K3:=O k3;have B3:=O b3;clear k3 b3 s3)
  | ((with_reducible refine s0 32 ?_);refine wpList_store_ch info32a z (.tmp 4) (.tmp 22) z b1 [.int .i64 pl,.int .i64 pc] _ z z K3.o z (two_one _ _) ?_;intro W5 k5 c5;have K5:=O (And.intro k5 c5);clear k5 c5)
  |fail)
 refine U.o _ _ ?_;clear U KK;have HB5:Hid (bL w W5/\DesL (fun _=>True) W5 a l):=O (by have hb:=K5.o.2.below (by omega) B3.o;exact⟨H1.o.1.trans (hb.mono H1.o.1.size),DesL.keep (fun b o u _ hu=>below_cell hb b o u hu) H1.o.2.2⟩)
 have HRM:=O H1.o.2.1;clear K3 B3 K5 H1 hb1;refine wk fun KK U=>?_;by_cases he:¬er=0
 .have hk:=known_any W5 (HW.o.below HB5.o.1);go_wp2_with fail;refine hk.mono ?_;rintro e W6 ⟨rfl,hb⟩;have HE:=O (HB5.o.1.trans (hb.mono HB5.o.1.size));clear hb;go_wp2_with fail;go_ret;exact⟨z,HE.o⟩
 obtain rfl:er=0:=by omega
 clear he;have hpl:=hPL.o z HS.o;have HPL:=O hpl;clear hpl hPL;go_wp2_with fail;refine U.o _ _ ?_;clear U KK;refine wk fun KK U=>?_;have hw5:=HW.o.below HB5.o.1;have hp:=print_read (V:=W5) ⟨hw5.o,HTT.o.below HB5.o.1 (by have:=HW.o.e.1;omega),hw5.e.1⟩ hw5.h (a:=a) (cap:=cap) HRM.o HB5.o.2 hRM.o HPL.o.1;rw[HN.o]at hp;go_wp2_with fail;refine hp.mono ?_;clear hp hw5;rintro e W6 ⟨rfl,hb⟩;have H6:Hid (bL w W6/\DesL (fun _=>True) W6 a l):=O ⟨HB5.o.1.trans (hb.mono HB5.o.1.size),DesL.keep (fun b o u _ hu=>below_cell hb b o u hu) HB5.o.2⟩;clear hb HB5;go_wp2_with fail;refine U.o _ _ ?_;clear U KK;refine wk fun KK U=>?_
 have hf:=pfind_all (nmf:=isName) l a cap W6 HRM.o H6.o.2 (fun W hw=>check_any l a cap W HRM.o ((HW.o.below H6.o.1).below hw).h (DesL.keep (fun b o u _ hu=>below_cell hw b o u hu) H6.o.2) (desR_nb hRM.o));rw[if_pos hRM.o,HN.o]at hf;have HFB:=O (find_b hRM.o);have HTB:=O (text_b (bS (prT l)));obtain⟨Z1,hZ1⟩:∃Z,findR l=Z:=⟨_,z⟩;obtain⟨Z2,hZ2⟩:∃Z,textR fiR (bS (prT l))=Z:=⟨_,z⟩;have HZ2:=O hZ2;rw[hZ1]at hf HFB HPL;rw[hZ2]at HPL HTB;obtain⟨P1,⟨l1,c1⟩,e1⟩:=Z1;obtain⟨P2,⟨l2,c2⟩,e2⟩:=Z2;obtain⟨hq1,hq2,hq3⟩:=HPL.o;dsimp only at hq2 hq3;subst hq2;have HEQ:=O hq3;clear hZ1 hZ2 hq1 hq3 HPL;go_wp2_with fail;refine hf.mono ?_;clear hf;rintro e W7 ⟨⟨ps1,rfl,hp⟩,hb⟩
 have H7:Hid (bL w W7/\PgRL (fun _=>True) W7 P1 ps1):=O ⟨H6.o.1.trans (hb.mono H6.o.1.size),PgRL.weak' hp fun _ _=>trivial⟩;have HPC1:=O hp.cells;clear hb hp H6;obtain⟨b8,hb8⟩:∃b,W7.1.size=b:=⟨_,z⟩;go_wp2_with (first
  | ((with_reducible refine aa 8 (.alloc 30) ?_);refine wpList_alloc_blk hi30 hz30 hc30 z z b8 hb8 ?_;intro W8 k2 b2 s2;have K2:=O k2;have B2:=O b2;clear k2 b2)
  | ((with_reducible refine aa 9 (.alloc 32) ?_);refine wpList_alloc_blk hi32 hz32 hc32 z z (b8+1) s2 ?_;intro W9 k3 b3 s3;have K3:=O k3;have B3:=O b3;clear k3 b3)
  | ((with_reducible refine s0 30 ?_);refine wpList_store_ch info30 z (.tmp 8) (.tmp 35) z b8 ps1 _ z z (K2.o.below B3.o) z HPC1.o ?_;intro WA k4 c4;have K4:=O (And.intro k4 c4);clear k4 c4)
  | ((with_reducible refine s0 32 ?_);refine wpList_store_ch info32a z (.tmp 9) (.tmp 36) z (b8+1) [.int .i64 l1,.int .i64 c1] _ z z (K4.o.2.blk (by omega) K3.o) z (two_one _ _) ?_;intro WB k5 c5;have K5:=O (And.intro k5 c5);clear k5 c5)
  |fail)
 refine U.o _ _ ?_;clear U KK;have HB8:Hid (bL W7 WB):=O (K5.o.2.below (by omega) (K4.o.2.below (by omega) (B2.o.trans (B3.o.mono B2.o.size))));have H8:Hid (bL w WB/\Blk WB b8 30 ps1/\PgRL (fun _=>True) WB P1 ps1):=O ⟨H7.o.1.trans (HB8.o.mono H7.o.1.size),K5.o.2.blk (by omega) K4.o.1,H7.o.2.kept fun b o u _ hu=>below_cell HB8.o b o u hu⟩;clear K2 B2 K3 B3 K4 K5 HB8 H7 s2 s3 hb8;refine wk fun KK U=>?_;have ht:=ptext_all (bS (prT l)) WB (HW.o.below H8.o.1);rw[HZ2.o]at ht;go_wp2_with fail;refine ht.mono ?_;clear ht;rintro e WC ⟨⟨ps2,rfl,hp⟩,hb⟩
 have HC:Hid (bL w WC/\Blk WC b8 30 ps1/\PgRL (fun _=>True) WC P1 ps1/\PgRL (fun _=>True) WC P2 ps2):=O ⟨H8.o.1.trans (hb.mono H8.o.1.size),H8.o.2.1.below hb,H8.o.2.2.kept fun b o u _ hu=>below_cell hb b o u hu,PgRL.weak' hp fun _ _=>trivial⟩;have HPC2:=O hp.cells;clear hb hp H8;obtain⟨b9,hb9⟩:∃b,WC.1.size=b:=⟨_,z⟩;go_wp2_with (first
  | ((with_reducible refine aa 11 (.alloc 30) ?_);refine wpList_alloc_blk hi30 hz30 hc30 z z b9 hb9 ?_;intro W8' k2 b2 s2;have K2:=O k2;have B2:=O b2;clear k2 b2)
  | ((with_reducible refine aa 12 (.alloc 32) ?_);refine wpList_alloc_blk hi32 hz32 hc32 z z (b9+1) s2 ?_;intro W9' k3 b3 s3;have K3:=O k3;have B3:=O b3;clear k3 b3)
  | ((with_reducible refine s0 30 ?_);refine wpList_store_ch info30 z (.tmp 11) (.tmp 41) z b9 ps2 _ z z (K2.o.below B3.o) z HPC2.o ?_;intro WD k4 c4;have K4:=O (And.intro k4 c4);clear k4 c4)
  | ((with_reducible refine s0 32 ?_);refine wpList_store_ch info32a z (.tmp 12) (.tmp 42) z (b9+1) [.int .i64 l2,.int .i64 c2] _ z z (K4.o.2.blk (by omega) K3.o) z (two_one _ _) ?_;intro WE k5 c5;have K5:=O (And.intro k5 c5);clear k5 c5)
  |fail)
 refine U.o _ _ ?_;clear U KK;have HB9:Hid (bL WC WE):=O (K5.o.2.below (by omega) (K4.o.2.below (by omega) (B2.o.trans (B3.o.mono B2.o.size))));have H9:Hid (bL w WE/\(Blk WE b8 30 ps1/\Blk WE b9 30 ps2)/\PgRL (fun _=>True) WE P1 ps1/\PgRL (fun _=>True) WE P2 ps2):=O ⟨HC.o.1.trans (HB9.o.mono HC.o.1.size),⟨HC.o.2.1.below HB9.o,K5.o.2.blk (by omega) K4.o.1⟩,HC.o.2.2.1.kept fun b o u _ hu=>below_cell HB9.o b o u hu,HC.o.2.2.2.kept fun b o u _ hu=>below_cell HB9.o b o u hu⟩;clear K2 B2 K3 B3 K4 K5 HB9 HC s2 s3 hb9;refine wk fun KK U=>?_;go_wp2_with fail;refine U.o _ _ ?_;clear U KK;have hl1:=HPC1.o.1;have hl2:=HPC2.o.1;obtain⟨V,hV⟩:=eX WE.drew
 have HV:Hid (bL w V/\(Blk V b8 30 ps1/\Blk V b9 30 ps2)/\PgRL (fun _=>True) V P1 ps1/\PgRL (fun _=>True) V P2 ps2):=O (by
  have hb:bL WE V:=by rw[<-hV];exact(Below.refl _ _).drew
  exact⟨H9.o.1.trans (hb.mono H9.o.1.size),⟨H9.o.2.1.1.below hb,H9.o.2.1.2.below hb⟩,H9.o.2.2.1.kept fun b o u _ hu=>below_cell hb b o u hu,H9.o.2.2.2.kept fun b o u _ hu=>below_cell hb b o u hu⟩)
 clear H9;refine wk fun KK U=>?_;go_wp2_with fail;refine wp_region_x [] (fun W=>bL V W) h4' ?_;rw[hV];clear hV;have HS1:Hid (bL V V):=O (Below.refl _ _);refine tl 0 51 HS1 30 8 b8 0 ps1 d30 (fun W hW=> (HV.o.2.1.1.below hW).whole) hu30 hr30 (by rw[hl1];exact info30) ?_;refine nm ?_;refine tl 2 53 HS1 30 11 b9 0 ps2 d30 (fun W hW=> (HV.o.2.1.2.below hW).whole) hu30 hr30 (by rw[hl2];exact info30) ?_;refine nm ?_;refine oD 1 fun K F=>?_;go_simp;refine(bare_any HV.o.2.2.1 HFB.o).mono ?_;rintro e V1 ⟨hb1,qs1,rfl,hq1⟩;have G1:Hid (bL V V1/\PgRL (fun _=>True) V1 P1.pl qs1):=O ⟨hb1,hq1⟩;apply F _ _ (fun _=>G1.o.1);clear F K hb1 hq1;refine oD 3 fun K F=>?_;go_simp
 refine(bare_any (HV.o.2.2.2.kept fun b o u _ hu=>below_cell G1.o.1 b o u hu) HTB.o).mono ?_;rintro e V2 ⟨hb2,qs2,rfl,hq2⟩;have G2:Hid (bL V V2/\PgRL (fun _=>True) V2 P1.pl qs1/\PgRL (fun _=>True) V2 P1.pl qs2):=O ⟨G1.o.1.trans (hb2.mono G1.o.1.size),G1.o.2.kept fun b o u _ hu=>below_cell hb2 b o u hu,by rw[<-HEQ.o];exact hq2⟩;apply F _ _ (fun _=>G2.o.1);clear F K hb2 hq2 G1;refine oD 4 fun K F=>?_;go_simp;refine(same_yes P1.pl G2.o.2.1 G2.o.2.2).mono ?_;rintro e V3 ⟨rfl,hb3⟩;have G3:Hid (bL V V3):=O (G2.o.1.trans (hb3.mono G2.o.1.size));apply F _ _ (fun _=>G3.o);clear F K hb3 G2;refine ag 5 ?_ G3;refine nm ?_;refine oG2 6 fun K F=>?_;go_simp
 refine(known_any V3 (HW.o.below (HV.o.1.trans (G3.o.mono HV.o.1.size)))).mono ?_;rintro e V4 ⟨rfl,hb4⟩;have G4:Hid (bL V V4):=O (G3.o.trans (hb4.mono G3.o.size));apply F _ _ (fun _=>G4.o);clear F K hb4 G3;refine ak 7 ?_ G4;simp only[Act.put];refine dn ?_;have HE:=O (HV.o.1.trans (G4.o.mono HV.o.1.size));clear G4 HV HS1;go_wp2_with fail;refine U.o _ _ ?_;clear U KK;go_wp2_with fail;go_ret;exact⟨z,HE.o⟩
end Go.Proofs.YtgppcdfgdaggjaaGreatDoor
