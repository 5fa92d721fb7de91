/- Texts laid together. No condition but what each law says. -/
import Derived.Test.YtgppcdfgdaggjaaGreatDoorR21
import Derived.Test.YtgppcdfgdaggjaaGreatDoorR17
import Derived.Test.YtgppcdfgdaggjaaGreatDoorR12
set_option maxRecDepth 100000
set_option maxHeartbeats 16000000
namespace Go.Proofs.YtgppcdfgdaggjaaGreatDoor
open Go.RowKit Go.Maps
variable {W w:World}{a:Option Addr}{b d g j:Nat}{s s6 s7 t:ByteArray}{p0 p1 p2 p3:Int}{v0 v1 v2:Value}{l2:List Value}{e0 e1:Ex}{T0:List St}{z0 z1 z2 z3 z4 z5 z6:Bool}
def XlAt(w:World)(a:Option Addr)(l:List Ex):Prop:=ExsL (fun _=>True) w a 0 l
theorem XlAt.at{l:List Ex}(h:XlAt w a l)(F:j<l.length):∃b g cs,a=some ⟨b,g,none⟩/\w.rangeAt b (g+j*7) cs/\ExL (fun _=>True) w cs (l.getD j zEx):=by obtain⟨b,g,cs,D,-,A,C⟩:=ExsL.at h j F;exact⟨b,g,cs,D,fun t v E=>by simpa using A t v E,C⟩
theorem ExL.below{w':World}{cs:List Value}{x:Ex}(h:ExL (fun _=>True) w cs x)(j:bL w w'):ExL (fun _=>True) w' cs x:=
 ExL.keep (fun b o v _ g=>by rw[<-g];simp[World.cellF,j.block b (World.block_lt_of_cellF w g)]) h
theorem XlAt.below{w':World}{l:List Ex}(h:XlAt w a l)(j:bL w w'):XlAt w' a l:=
 ExsL.keep (fun b o v _ g=>by rw[<-g];simp[World.cellF,j.block b (World.block_lt_of_cellF w g)]) h
theorem toListInj(h:s.toList=t.toList):s=t:=by rw[ByteArray.toList_eq,ByteArray.toList_eq]at h;exact ByteArray.ext (Array.toList_inj.1 h)
theorem neOr{g:Type}[DecidableEq g](a b:g):a≠b∨a=b:=(Decidable.em (a=b)).symm
theorem still_of_quiet{P:Program}{o:Oper}{a:Act}{w:Act->Prop}(h:o.quiet P a (fun w'=>w'=W) w):o.still P a W w:=by
 obtain⟨v,A,j⟩:=h;have g:=A W z;unfold Oper.quietAt at g;unfold Oper.still;generalize (execOp a.eval o).run P W=r at g;unfold Oper.quietUpon at g;unfold Oper.stillUpon;split at g
 .obtain⟨rfl,rfl⟩:=g;exact⟨z,j⟩
 .obtain⟨rfl,rfl⟩:=g;exact⟨z,j⟩
 .exact⟨g.1,v,g.2,j⟩
 .exact g.elim
theorem wpStill_of_quiet{P:Program}{j:Array Oper}{w:Act->Prop}:∀ (l:List Oper) (a:Act),wpQuiet P j (fun w'=>w'=W) w l a->wpStill P j W w l a
 | [],_,h=>h
 |o::rest,a,h=>by
  unfold wpQuiet at h
  unfold wpStill
  split
  .rename_i g
   rw[if_pos g]at h
   exact Oper.still_mono (fun a h=>wpStill_of_quiet rest a h) (still_of_quiet h)
  .rename_i g
   rw[if_neg g]at h
   exact wpStill_of_quiet rest _ h
theorem wp_region_quiet_tail{P:Program}{id:Nat}{g:Exit->Act->World->Prop}{a:Act}{l:List Oper}(n:Nat)(j:P.follows .mixedOrders=true)(A:Region.lexTailB .any l.toArray n=true)
  (h:wpQuiet P l.toArray (fun w'=>w'=w.drew) (fun C=>wpList P l.toArray g (l.drop n) C w.drew) (l.take n) a):(Code.region id l.toArray true).wp P g a w:=
 wp_region_still_tail n j A (wpStill_of_quiet _ _ h)
theorem wpList_load_g{P:Program}{j:Array Oper}{C:List Oper}{g:Oper}{a:Act}{A:Exit->Act->World->Prop}(G:Region.wanted g (yielded j a.tmps)=true)(ty:TypeId)(x:Operand)(J:g.op= .load ty x)
  (b o:Nat)(H:a.eval x= .pointer (some ⟨b,o,none⟩))(cs:List Value)(d:TypeDesc)(F:w.rangeAt b o cs)(D:P.underlying ty=some d)(hd:d.isRow=true)(K:(P.info? ty).map (·.size)=some cs.length)
  (h:wpList P j A C (a.put g.dst (.agg cs.toArray)) w):wpList P j A (g::C) a w:=
 wpList_step fun M E=>by rw[if_pos G];exact wp_load_mid ty x J b o H cs d F D hd K (E _ _ h)
theorem StAt.below{w':World}{s:St}(h:StAt w b g s)(F:bL w w'):StAt w' b g s:=by
 obtain⟨cs,E,D⟩:=h;have C:∀ (b o:Nat) (v:Value),w.cell? ⟨b,o,none⟩=some v->w'.cell? ⟨b,o,none⟩=some v:=fun b o v A=>by rw[<-A];simp[World.cell?,F.block b (World.block_lt_of_cell? w _ A)]
 exact⟨cs,fun j v A=>C _ _ _ (E j v A),StL.keep (fun b o v _ A=>by rw[<-A];simp[World.cellF,F.block b (World.block_lt_of_cellF w A)]) D⟩
theorem noB_list:noB.toList=[]:=by unfold noB;rw[ByteArray.toList_eq]
theorem DesL.below{w':World}{l:List De}(h:DesL (fun _=>True) w a l)(j:bL w w'):DesL (fun _=>True) w' a l:=
 h.keep (fun b o v _ g=>by rw[<-g];simp[World.cellF,j.block b (World.block_lt_of_cellF w g)])
theorem isE_eq(s:ByteArray):s.toList.isEmpty=decide (s=noB):=by
 by_cases h:s=noB
 .subst h;rw[noB_list];rfl
 .rw[decide_eq_false h];cases g:s.toList
  .exact absurd (toListInj (g.trans noB_list.symm)) h
  .rfl
theorem nameMay_any(s:ByteArray)(nd:Bool)(w:World)(A:s.size<=9223372036854775807):Calls Tryz.prog 169 #[.string s,.bool nd] w fun e w'=>e= .returned (.bool (if nd=true then isName s else decide (s=noB)))/\bL w w':=by
 cases nd
 .rw[if_neg Bool.false_ne_true,<-isE_eq];go_in;go_wp2;go_ret;exact⟨z,Below.refl _ w⟩
 .rw[if_pos rfl];have j:=name_any s w A;go_in;go_wp2_with fail;apply j.mono;rintro e w1 ⟨rfl,g⟩;go_wp2;go_ret;exact⟨z,g⟩
theorem ExAt.below{w':World}{x:Ex}(h:ExAt w b g x)(A:bL w w'):ExAt w' b g x:=by obtain⟨cs,D,C⟩:=h;exact⟨cs,fun j v E=> (by have:=D j v E;rw[<-this];simp[World.cell?,A.block b (World.block_lt_of_cell? w _ this)]),C.below A⟩
theorem ExAt.all{k n:Int}{sl:Int}{lo:Bool}{args:List Ex}(h:ExAt w b j (.mk k n s sl lo p0 args)):
  w.cell? ⟨b,j,none⟩=some (I k)/\w.cell? ⟨b,j+1,none⟩=some (I n)/\w.cell? ⟨b,j+2,none⟩=some (.string s)/\w.cell? ⟨b,j+5,none⟩=some (I p0):=by
 obtain⟨cs,g,A⟩:=h;unfold ExL at A;obtain⟨a,cap,rfl,-⟩:=A;exact⟨g 0 _ z,g 1 _ z,g 2 _ z,g 5 _ z⟩
def EmOk(d:Nat):Prop:=∀ (x:Ex) (b off:Nat) (w:World),ExAt w b off x->x.nb->Calls Tryz.prog 187 #[.pointer (some ⟨b,off,none⟩),.int .i64 (d:Int)] w fun e w'=>e= .returned (.bool (exR isName x d))/\Below w.1.size w w'
theorem em_tail{ar:Nat}{k n:Int}{sl:Int}{lo:Bool}{args:List Ex}(hd:d<=24)(b5:ar<=2)(ih:EmOk d)(N:bL w W)(h:ExAt W b g (.mk k n s sl lo p0 args))(Z:Ex.nbs args)(hU:l2.length=113:=by rfl):
  Code.wp Tryz.prog (dropS 5 (Tryz.f187.body.getD .skip)) (bodyPost Tryz.prog Tryz.f187 (fun e w'=>e= .returned (.bool (decide (args.length=ar)&&exsR isName args d))/\bL w w')) ⟨(.pointer (some ⟨b,g,none⟩)::I ((d+1:Nat):Int)::v0::v1::v2::I ar::l2).toArray,[]⟩ W:=by
 revert l2;apply aN;iterate 113 intro _
 change Code.wp _ _ _ _ _;obtain⟨a,cap,c6,a7,-⟩:=h.args;obtain⟨A,X⟩:=eX (args.length);obtain⟨R,C⟩:=eX (exsR isName (args.drop 0) d);rw[show exsR isName args d=R from C];rw[X]at c6 a7 ⊢;have M:=O X;have E:=O C;have D:=O (And.intro N h);have HB:=O Z;clear X C h Z;rcases neOr A ar with U|U
 .rw[decide_eq_false U,Bool.false_and];conv in (dropS _ _)=>whnf
  have b4:¬ (A:Int)=(ar:Int):=by omega
  go_wp2;go_ret;exact⟨z,N⟩
 subst U;rw[decide_eq_true rfl,Bool.true_and];conv in (dropS _ _)=>whnf
 clear N;go_wp2;clear c6;go_loopg [105] A (fun x iv wr=>∃i:Nat,i<=A/\x=A-i/\iv=I i/\Hid (bL w wr/\ExAt wr b g (.mk k n s sl lo p0 args))/\Hid (exsR isName (args.drop i) d=R));case atStart=>exact⟨0,Nat.zero_le _,z,z,D,E⟩
 case round=>
  clear D E;obtain⟨i,hi,rfl,rfl,D,E⟩:=hrel;obtain⟨F,G⟩:=D.o;obtain⟨a1,b8,c6,a8,H⟩:=G.args;rw[M.o]at c6 a8 H;by_cases V:i<A
  .have a6:(i:Int)< (A:Int):=by omega
   have b9:(0:Int)<=(i:Int):=by omega
   have b6:(i:Int)+1<=9223372036854775807:=by omega
   obtain⟨b2,a4,rfl,Y⟩:=H i V;have a0:=Ex.nbs_at HB.o (j:=i) (by rw[M.o];exact V);have K:=ih (args.getD i zEx) b2 (a4+i*7) wr Y a0;have b7:(((d+1:Nat):Int)-1)=(d:Int):=by omega
   have C:=E.o;rw[exsR_drop (by rw[M.o];exact V)]at C;obtain⟨m,hm⟩:=eX (exR isName (args.getD i zEx) d);rw[hm]at K C;have Q:=O C;clear Y a0 H hm C E;go_wp2_with fail;refine K.mono ?_;rintro e w2 ⟨rfl,J⟩;have S:=F.trans (J.mono F.size);cases m
   .have a3:R=false:=Q.o.symm;subst a3;clear D K c6 G F J;go_wp2_with fail;go_ret;exact⟨z,S⟩
   .have a9:Hid (exsR isName (args.drop (i+1)) d=R):=O Q.o;have a2:=O (And.intro S (G.below J));clear D K c6 G F J S Q;go_wp2_with fail;go_roundg (A- (i+1));case measure=>omega
    case rel=>exact⟨i+1,by omega,z,z,a2,a9⟩
  .obtain rfl:i=A:=by omega
   have a6:¬ (i:Int)< (i:Int):=by omega
   have a5:R=true:=by rw[<-E.o,List.drop_eq_nil_of_le (by rw[M.o];exact Nat.le_refl _)];rfl
   subst a5;clear G D H c6;go_wp2;go_ret;exact⟨z,F⟩
theorem em_1{n:Int}{sl:Int}{lo:Bool}{args:List Ex}(hd:d<=24)(X:EmOk d)(h:ExAt w b j (.mk 1 n s sl lo p0 args))(S:s.size<=9223372036854775807)(Y:Ex.nbs args):
  Calls Tryz.prog 187 #[.pointer (some ⟨b,j,none⟩),I ((d+1:Nat):Int)] w fun e w'=>e= .returned (.bool (exR isName (.mk 1 n s sl lo p0 args) (d+1)))/\bL w w':=by
 obtain⟨R,H⟩:=eX (exR isName (.mk 1 n s sl lo p0 args) (d+1));rw[H];rw[exR_eq]at H;have a2:¬ ((d+1:Nat):Int)<1:=by omega
 obtain⟨c0,c1,c2,c5⟩:=h.all;rcases neOr p0 0 with N|N
 .have K:R=false:=by rw[<-H];simp[N]
  have Z:(p0 !=0)=true:=by simpa using N
  subst K;go_in;go_wp2;go_ret;exact⟨z,Below.refl _ w⟩
 subst N;obtain⟨mn,J⟩:=eX (decide (s=noB));have Q:=O J;cases mn
 .have K:R=false:=by rw[<-H];have W:=of_decide_eq_false J;simp[W]
  subst K;clear J;have F:=nameMay_any s false w.drew S;have C:bL w w.drew:=(Below.refl _ w).drew;go_in;refine wk fun A g=>?_;go_wp2;apply g;clear g A;refine wk fun A g=>?_;go_wp2;apply g;clear g A;refine wk fun A g=>?_;go_wp2;apply wp_region_quiet_tail 16 (by kernel_rfl) (by kernel_rfl);simp only[List.take_succ_cons,List.take_zero,List.drop_succ_cons,List.drop_zero];repeat (go_big_quiet_step (fail))
  apply wpQuiet_nil;go_wp2_with fail;apply F.mono;rintro e w1 ⟨rfl,D⟩;have E:=C.trans (D.mono C.size);have G:=h.below E;clear F C D c0 c1 c2 c5;simp only[Bool.false_eq_true,if_false,Q.o];go_wp2;go_ret;exact⟨z,E⟩
 by_cases a0:n<0
 .have K:R=false:=by
   rw[<-H];have M:kindOk 1 n 0=false:=by unfold kindOk;rw[if_pos rfl];rw[decide_eq_false (by omega),Bool.false_and]
   simp[M]
  subst K;clear J;have F:=nameMay_any s false w.drew S;have C:bL w w.drew:=(Below.refl _ w).drew;go_in;refine wk fun A g=>?_;go_wp2;apply g;clear g A;refine wk fun A g=>?_;go_wp2;apply g;clear g A;refine wk fun A g=>?_;go_wp2;apply wp_region_quiet_tail 16 (by kernel_rfl) (by kernel_rfl);simp only[List.take_succ_cons,List.take_zero,List.drop_succ_cons,List.drop_zero];repeat (go_big_quiet_step (fail))
  apply wpQuiet_nil;go_wp2_with fail;apply F.mono;rintro e w1 ⟨rfl,D⟩;have E:=C.trans (D.mono C.size);have G:=h.below E;clear F C D c0 c1 c2 c5;simp only[Bool.false_eq_true,if_false,Q.o];go_wp2;apply g;clear g A;refine wk fun A g=>?_;go_wp2;apply g;clear g A;obtain⟨c0,c1,c2,c5⟩:=G.all;clear h G;go_wp2;go_ret;exact⟨z,E⟩
 by_cases a1:2147483647<n
 .have K:R=false:=by
   rw[<-H];have M:kindOk 1 n 0=false:=by unfold kindOk;rw[if_pos rfl];rw[decide_eq_false (p:=n<=2147483647) (by omega),Bool.and_false]
   simp[M]
  subst K;clear J;have F:=nameMay_any s false w.drew S;have C:bL w w.drew:=(Below.refl _ w).drew;go_in;refine wk fun A g=>?_;go_wp2;apply g;clear g A;refine wk fun A g=>?_;go_wp2;apply g;clear g A;refine wk fun A g=>?_;go_wp2;apply wp_region_quiet_tail 16 (by kernel_rfl) (by kernel_rfl);simp only[List.take_succ_cons,List.take_zero,List.drop_succ_cons,List.drop_zero];repeat (go_big_quiet_step (fail))
  apply wpQuiet_nil;go_wp2_with fail;apply F.mono;rintro e w1 ⟨rfl,D⟩;have E:=C.trans (D.mono C.size);have G:=h.below E;clear F C D c0 c1 c2 c5;simp only[Bool.false_eq_true,if_false,Q.o];go_wp2;apply g;clear g A;refine wk fun A g=>?_;go_wp2;apply g;clear g A;obtain⟨c0,c1,c2,c5⟩:=G.all;clear h G;go_wp2;go_ret;exact⟨z,E⟩
 have V:R=(decide (args.length=0)&&exsR isName args d):=by
  rw[<-H];have M:kindOk 1 n 0=true:=by unfold kindOk;rw[if_pos rfl,decide_eq_true (p:=0<=n) (by omega),decide_eq_true (p:=n<=2147483647) (by omega)];rfl
  have U:=of_decide_eq_true J;simp[M,arity,U]
 subst V;clear J H;have F:=nameMay_any s false w.drew S;have C:bL w w.drew:=(Below.refl _ w).drew;go_in;refine wk fun A g=>?_;go_wp2;apply g;clear g A;refine wk fun A g=>?_;go_wp2;apply g;clear g A;refine wk fun A g=>?_;go_wp2;apply wp_region_quiet_tail 16 (by kernel_rfl) (by kernel_rfl);simp only[List.take_succ_cons,List.take_zero,List.drop_succ_cons,List.drop_zero];repeat (go_big_quiet_step (fail))
 apply wpQuiet_nil;go_wp2_with fail;apply F.mono;rintro e w1 ⟨rfl,D⟩;have E:=C.trans (D.mono C.size);have G:=h.below E;clear F C D c0 c1 c2 c5;simp only[Bool.false_eq_true,if_false,Q.o];go_wp2;apply g;clear g A;refine wk fun A g=>?_;go_wp2;apply g;clear g A;obtain⟨c0,c1,c2,c5⟩:=G.all;refine wk fun A g=>?_;go_wp2;exact g _ _ (em_tail (ar:=0) hd (by decide) X E G Y)
theorem em_2{n:Int}{sl:Int}{lo:Bool}{args:List Ex}(hd:d<=24)(X:EmOk d)(h:ExAt w b j (.mk 2 n s sl lo p0 args))(S:s.size<=9223372036854775807)(Y:Ex.nbs args):
  Calls Tryz.prog 187 #[.pointer (some ⟨b,j,none⟩),I ((d+1:Nat):Int)] w fun e w'=>e= .returned (.bool (exR isName (.mk 2 n s sl lo p0 args) (d+1)))/\bL w w':=by
 obtain⟨R,D⟩:=eX (exR isName (.mk 2 n s sl lo p0 args) (d+1));rw[D];rw[exR_eq]at D;have a0:¬ ((d+1:Nat):Int)<1:=by omega
 obtain⟨c0,c1,c2,c5⟩:=h.all;rcases neOr n 0 with M|M
 .have G:R=false:=by rw[<-D];simp[M]
  have a1:(n !=0)=true:=by simpa using M
  subst G;go_in;go_wp2;go_ret;exact⟨z,Below.refl _ w⟩
 subst M;rcases neOr p0 0 with K|K
 .have G:R=false:=by rw[<-D];simp[K]
  have Z:(p0 !=0)=true:=by simpa using K
  subst G;go_in;go_wp2;go_ret;exact⟨z,Below.refl _ w⟩
 subst K;obtain⟨mn,F⟩:=eX (isName s);have Q:=O F;cases mn
 .have G:R=false:=by rw[<-D];simp[F]
  subst G;clear F;have J:=nameMay_any s true w.drew S;have C:bL w w.drew:=(Below.refl _ w).drew;go_in;refine wk fun A g=>?_;go_wp2;apply g;clear g A;refine wk fun A g=>?_;go_wp2;apply g;clear g A;refine wk fun A g=>?_;go_wp2;apply wp_region_quiet_tail 16 (by kernel_rfl) (by kernel_rfl);simp only[List.take_succ_cons,List.take_zero,List.drop_succ_cons,List.drop_zero];repeat (go_big_quiet_step (fail))
  apply wpQuiet_nil;go_wp2_with fail;apply J.mono;rintro e w1 ⟨rfl,E⟩;have H:=C.trans (E.mono C.size);have N:=h.below H;clear J C E c0 c1 c2 c5;simp only[if_true,Q.o];go_wp2;go_ret;exact⟨z,H⟩
 have W:R=(decide (args.length=0)&&exsR isName args d):=by
  rw[<-D];have V:kindOk 2 0 0=true:=by unfold kindOk;decide
  have U:=F;simp[V,arity,U]
 subst W;clear F D;have J:=nameMay_any s true w.drew S;have C:bL w w.drew:=(Below.refl _ w).drew;go_in;refine wk fun A g=>?_;go_wp2;apply g;clear g A;refine wk fun A g=>?_;go_wp2;apply g;clear g A;refine wk fun A g=>?_;go_wp2;apply wp_region_quiet_tail 16 (by kernel_rfl) (by kernel_rfl);simp only[List.take_succ_cons,List.take_zero,List.drop_succ_cons,List.drop_zero];repeat (go_big_quiet_step (fail))
 apply wpQuiet_nil;go_wp2_with fail;apply J.mono;rintro e w1 ⟨rfl,E⟩;have H:=C.trans (E.mono C.size);have N:=h.below H;clear J C E c0 c1 c2 c5;simp only[if_true,Q.o];go_wp2;apply g;clear g A;refine wk fun A g=>?_;go_wp2;apply g;clear g A;obtain⟨c0,c1,c2,c5⟩:=N.all;refine wk fun A g=>?_;go_wp2;exact g _ _ (em_tail (ar:=0) hd (by decide) X H N Y)
theorem em_3{n:Int}{sl:Int}{lo:Bool}{args:List Ex}(hd:d<=24)(X:EmOk d)(h:ExAt w b j (.mk 3 n s sl lo p0 args))(S:s.size<=9223372036854775807)(Y:Ex.nbs args):
  Calls Tryz.prog 187 #[.pointer (some ⟨b,j,none⟩),I ((d+1:Nat):Int)] w fun e w'=>e= .returned (.bool (exR isName (.mk 3 n s sl lo p0 args) (d+1)))/\bL w w':=by
 obtain⟨R,D⟩:=eX (exR isName (.mk 3 n s sl lo p0 args) (d+1));rw[D];rw[exR_eq]at D;have a0:¬ ((d+1:Nat):Int)<1:=by omega
 obtain⟨c0,c1,c2,c5⟩:=h.all;rcases neOr n 0 with M|M
 .have G:R=false:=by rw[<-D];simp[M]
  have a1:(n !=0)=true:=by simpa using M
  subst G;go_in;go_wp2;go_ret;exact⟨z,Below.refl _ w⟩
 subst M;rcases neOr p0 0 with K|K
 .have G:R=false:=by rw[<-D];simp[K]
  have Z:(p0 !=0)=true:=by simpa using K
  subst G;go_in;go_wp2;go_ret;exact⟨z,Below.refl _ w⟩
 subst K;obtain⟨mn,F⟩:=eX (isName s);have Q:=O F;cases mn
 .have G:R=false:=by rw[<-D];simp[F]
  subst G;clear F;have J:=nameMay_any s true w.drew S;have C:bL w w.drew:=(Below.refl _ w).drew;go_in;refine wk fun A g=>?_;go_wp2;apply g;clear g A;refine wk fun A g=>?_;go_wp2;apply g;clear g A;refine wk fun A g=>?_;go_wp2;apply wp_region_quiet_tail 16 (by kernel_rfl) (by kernel_rfl);simp only[List.take_succ_cons,List.take_zero,List.drop_succ_cons,List.drop_zero];repeat (go_big_quiet_step (fail))
  apply wpQuiet_nil;go_wp2_with fail;apply J.mono;rintro e w1 ⟨rfl,E⟩;have H:=C.trans (E.mono C.size);have N:=h.below H;clear J C E c0 c1 c2 c5;simp only[if_true,Q.o];go_wp2;go_ret;exact⟨z,H⟩
 have W:R=(decide (args.length=1)&&exsR isName args d):=by
  rw[<-D];have V:kindOk 3 0 0=true:=by unfold kindOk;decide
  have U:=F;simp[V,arity,U]
 subst W;clear F D;have J:=nameMay_any s true w.drew S;have C:bL w w.drew:=(Below.refl _ w).drew;go_in;refine wk fun A g=>?_;go_wp2;apply g;clear g A;refine wk fun A g=>?_;go_wp2;apply g;clear g A;refine wk fun A g=>?_;go_wp2;apply wp_region_quiet_tail 16 (by kernel_rfl) (by kernel_rfl);simp only[List.take_succ_cons,List.take_zero,List.drop_succ_cons,List.drop_zero];repeat (go_big_quiet_step (fail))
 apply wpQuiet_nil;go_wp2_with fail;apply J.mono;rintro e w1 ⟨rfl,E⟩;have H:=C.trans (E.mono C.size);have N:=h.below H;clear J C E c0 c1 c2 c5;simp only[if_true,Q.o];go_wp2;apply g;clear g A;refine wk fun A g=>?_;go_wp2;apply g;clear g A;obtain⟨c0,c1,c2,c5⟩:=N.all;refine wk fun A g=>?_;go_wp2;exact g _ _ (em_tail (ar:=1) hd (by decide) X H N Y)
theorem em_4{n:Int}{sl:Int}{lo:Bool}{args:List Ex}(hd:d<=24)(Y:EmOk d)(h:ExAt w b j (.mk 4 n s sl lo p0 args))(S:s.size<=9223372036854775807)(Z:Ex.nbs args):
  Calls Tryz.prog 187 #[.pointer (some ⟨b,j,none⟩),I ((d+1:Nat):Int)] w fun e w'=>e= .returned (.bool (exR isName (.mk 4 n s sl lo p0 args) (d+1)))/\bL w w':=by
 obtain⟨R,D⟩:=eX (exR isName (.mk 4 n s sl lo p0 args) (d+1));rw[D];rw[exR_eq]at D;have a1:¬ ((d+1:Nat):Int)<1:=by omega
 obtain⟨c0,c1,c2,c5⟩:=h.all;rcases neOr n 0 with M|M
 .have G:R=false:=by rw[<-D];simp[M]
  have a2:(n !=0)=true:=by simpa using M
  subst G;go_in;go_wp2;go_ret;exact⟨z,Below.refl _ w⟩
 subst M;rcases neOr p0 0 with K|K
 .have G:R=false:=by rw[<-D];simp[K]
  have a0:(p0 !=0)=true:=by simpa using K
  subst G;go_in;go_wp2;go_ret;exact⟨z,Below.refl _ w⟩
 subst K;obtain⟨mn,F⟩:=eX (decide (s=noB));have Q:=O F;cases mn
 .have G:R=false:=by rw[<-D];have X:=of_decide_eq_false F;simp[X]
  subst G;clear F;have J:=nameMay_any s false w.drew S;have C:bL w w.drew:=(Below.refl _ w).drew;go_in;refine wk fun A g=>?_;go_wp2;apply g;clear g A;refine wk fun A g=>?_;go_wp2;apply g;clear g A;refine wk fun A g=>?_;go_wp2;apply wp_region_quiet_tail 16 (by kernel_rfl) (by kernel_rfl);simp only[List.take_succ_cons,List.take_zero,List.drop_succ_cons,List.drop_zero];repeat (go_big_quiet_step (fail))
  apply wpQuiet_nil;go_wp2_with fail;apply J.mono;rintro e w1 ⟨rfl,E⟩;have H:=C.trans (E.mono C.size);have N:=h.below H;clear J C E c0 c1 c2 c5;simp only[Bool.false_eq_true,if_false,Q.o];go_wp2;go_ret;exact⟨z,H⟩
 have W:R=(decide (args.length=1)&&exsR isName args d):=by
  rw[<-D];have V:kindOk 4 0 0=true:=by unfold kindOk;decide
  have U:=of_decide_eq_true F;simp[V,arity,U]
 subst W;clear F D;have J:=nameMay_any s false w.drew S;have C:bL w w.drew:=(Below.refl _ w).drew;go_in;refine wk fun A g=>?_;go_wp2;apply g;clear g A;refine wk fun A g=>?_;go_wp2;apply g;clear g A;refine wk fun A g=>?_;go_wp2;apply wp_region_quiet_tail 16 (by kernel_rfl) (by kernel_rfl);simp only[List.take_succ_cons,List.take_zero,List.drop_succ_cons,List.drop_zero];repeat (go_big_quiet_step (fail))
 apply wpQuiet_nil;go_wp2_with fail;apply J.mono;rintro e w1 ⟨rfl,E⟩;have H:=C.trans (E.mono C.size);have N:=h.below H;clear J C E c0 c1 c2 c5;simp only[Bool.false_eq_true,if_false,Q.o];go_wp2;apply g;clear g A;refine wk fun A g=>?_;go_wp2;apply g;clear g A;obtain⟨c0,c1,c2,c5⟩:=N.all;refine wk fun A g=>?_;go_wp2;exact g _ _ (em_tail (ar:=1) hd (by decide) Y H N Z)
theorem em_5{n:Int}{sl:Int}{lo:Bool}{args:List Ex}(hd:d<=24)(Y:EmOk d)(h:ExAt w b j (.mk 5 n s sl lo p0 args))(S:s.size<=9223372036854775807)(Z:Ex.nbs args):
  Calls Tryz.prog 187 #[.pointer (some ⟨b,j,none⟩),I ((d+1:Nat):Int)] w fun e w'=>e= .returned (.bool (exR isName (.mk 5 n s sl lo p0 args) (d+1)))/\bL w w':=by
 obtain⟨R,D⟩:=eX (exR isName (.mk 5 n s sl lo p0 args) (d+1));rw[D];rw[exR_eq]at D;have a1:¬ ((d+1:Nat):Int)<1:=by omega
 obtain⟨c0,c1,c2,c5⟩:=h.all;rcases neOr n 0 with M|M
 .have G:R=false:=by rw[<-D];simp[M]
  have a2:(n !=0)=true:=by simpa using M
  subst G;go_in;go_wp2;go_ret;exact⟨z,Below.refl _ w⟩
 subst M;rcases neOr p0 0 with K|K
 .have G:R=false:=by rw[<-D];simp[K]
  have a0:(p0 !=0)=true:=by simpa using K
  subst G;go_in;go_wp2;go_ret;exact⟨z,Below.refl _ w⟩
 subst K;obtain⟨mn,F⟩:=eX (decide (s=noB));have Q:=O F;cases mn
 .have G:R=false:=by rw[<-D];have X:=of_decide_eq_false F;simp[X]
  subst G;clear F;have J:=nameMay_any s false w.drew S;have C:bL w w.drew:=(Below.refl _ w).drew;go_in;refine wk fun A g=>?_;go_wp2;apply g;clear g A;refine wk fun A g=>?_;go_wp2;apply g;clear g A;refine wk fun A g=>?_;go_wp2;apply wp_region_quiet_tail 16 (by kernel_rfl) (by kernel_rfl);simp only[List.take_succ_cons,List.take_zero,List.drop_succ_cons,List.drop_zero];repeat (go_big_quiet_step (fail))
  apply wpQuiet_nil;go_wp2_with fail;apply J.mono;rintro e w1 ⟨rfl,E⟩;have H:=C.trans (E.mono C.size);have N:=h.below H;clear J C E c0 c1 c2 c5;simp only[Bool.false_eq_true,if_false,Q.o];go_wp2;go_ret;exact⟨z,H⟩
 have W:R=(decide (args.length=1)&&exsR isName args d):=by
  rw[<-D];have V:kindOk 5 0 0=true:=by unfold kindOk;decide
  have U:=of_decide_eq_true F;simp[V,arity,U]
 subst W;clear F D;have J:=nameMay_any s false w.drew S;have C:bL w w.drew:=(Below.refl _ w).drew;go_in;refine wk fun A g=>?_;go_wp2;apply g;clear g A;refine wk fun A g=>?_;go_wp2;apply g;clear g A;refine wk fun A g=>?_;go_wp2;apply wp_region_quiet_tail 16 (by kernel_rfl) (by kernel_rfl);simp only[List.take_succ_cons,List.take_zero,List.drop_succ_cons,List.drop_zero];repeat (go_big_quiet_step (fail))
 apply wpQuiet_nil;go_wp2_with fail;apply J.mono;rintro e w1 ⟨rfl,E⟩;have H:=C.trans (E.mono C.size);have N:=h.below H;clear J C E c0 c1 c2 c5;simp only[Bool.false_eq_true,if_false,Q.o];go_wp2;apply g;clear g A;refine wk fun A g=>?_;go_wp2;apply g;clear g A;obtain⟨c0,c1,c2,c5⟩:=N.all;refine wk fun A g=>?_;go_wp2;exact g _ _ (em_tail (ar:=1) hd (by decide) Y H N Z)
theorem em_6{n:Int}{sl:Int}{lo:Bool}{args:List Ex}(hd:d<=24)(X:EmOk d)(h:ExAt w b j (.mk 6 n s sl lo p0 args))(S:s.size<=9223372036854775807)(Y:Ex.nbs args):
  Calls Tryz.prog 187 #[.pointer (some ⟨b,j,none⟩),I ((d+1:Nat):Int)] w fun e w'=>e= .returned (.bool (exR isName (.mk 6 n s sl lo p0 args) (d+1)))/\bL w w':=by
 obtain⟨R,H⟩:=eX (exR isName (.mk 6 n s sl lo p0 args) (d+1));rw[H];rw[exR_eq]at H;have a1:¬ ((d+1:Nat):Int)<1:=by omega
 obtain⟨c0,c1,c2,c5⟩:=h.all;rcases neOr n 0 with Q|Q
 .have K:R=false:=by rw[<-H];simp[Q]
  have a2:(n !=0)=true:=by simpa using Q
  subst K;go_in;go_wp2;go_ret;exact⟨z,Below.refl _ w⟩
 subst Q;obtain⟨mn,J⟩:=eX (decide (s=noB));have N:=O J;cases mn
 .have K:R=false:=by rw[<-H];have W:=of_decide_eq_false J;simp[W]
  subst K;clear J;have F:=nameMay_any s false w.drew S;have C:bL w w.drew:=(Below.refl _ w).drew;go_in;refine wk fun A g=>?_;go_wp2;apply g;clear g A;refine wk fun A g=>?_;go_wp2;apply g;clear g A;refine wk fun A g=>?_;go_wp2;apply wp_region_quiet_tail 16 (by kernel_rfl) (by kernel_rfl);simp only[List.take_succ_cons,List.take_zero,List.drop_succ_cons,List.drop_zero];repeat (go_big_quiet_step (fail))
  apply wpQuiet_nil;go_wp2_with fail;apply F.mono;rintro e w1 ⟨rfl,D⟩;have E:=C.trans (D.mono C.size);have G:=h.below E;clear F C D c0 c1 c2 c5;simp only[Bool.false_eq_true,if_false,N.o];go_wp2;go_ret;exact⟨z,E⟩
 by_cases Z:p0<1
 .have K:R=false:=by
   rw[<-H];have M:kindOk 6 0 p0=false:=by unfold kindOk;rw[if_neg (by decide),if_pos rfl];rw[decide_eq_false (by omega),Bool.false_and]
   simp[M]
  subst K;clear J;have F:=nameMay_any s false w.drew S;have C:bL w w.drew:=(Below.refl _ w).drew;go_in;refine wk fun A g=>?_;go_wp2;apply g;clear g A;refine wk fun A g=>?_;go_wp2;apply g;clear g A;refine wk fun A g=>?_;go_wp2;apply wp_region_quiet_tail 16 (by kernel_rfl) (by kernel_rfl);simp only[List.take_succ_cons,List.take_zero,List.drop_succ_cons,List.drop_zero];repeat (go_big_quiet_step (fail))
  apply wpQuiet_nil;go_wp2_with fail;apply F.mono;rintro e w1 ⟨rfl,D⟩;have E:=C.trans (D.mono C.size);have G:=h.below E;clear F C D c0 c1 c2 c5;simp only[Bool.false_eq_true,if_false,N.o];go_wp2;apply g;clear g A;refine wk fun A g=>?_;go_wp2;apply g;clear g A;obtain⟨c0,c1,c2,c5⟩:=G.all;clear h G;go_wp2;go_ret;exact⟨z,E⟩
 by_cases a0:11<p0
 .have K:R=false:=by
   rw[<-H];have M:kindOk 6 0 p0=false:=by unfold kindOk;rw[if_neg (by decide),if_pos rfl];rw[decide_eq_false (p:=p0<=11) (by omega),Bool.and_false]
   simp[M]
  subst K;clear J;have F:=nameMay_any s false w.drew S;have C:bL w w.drew:=(Below.refl _ w).drew;go_in;refine wk fun A g=>?_;go_wp2;apply g;clear g A;refine wk fun A g=>?_;go_wp2;apply g;clear g A;refine wk fun A g=>?_;go_wp2;apply wp_region_quiet_tail 16 (by kernel_rfl) (by kernel_rfl);simp only[List.take_succ_cons,List.take_zero,List.drop_succ_cons,List.drop_zero];repeat (go_big_quiet_step (fail))
  apply wpQuiet_nil;go_wp2_with fail;apply F.mono;rintro e w1 ⟨rfl,D⟩;have E:=C.trans (D.mono C.size);have G:=h.below E;clear F C D c0 c1 c2 c5;simp only[Bool.false_eq_true,if_false,N.o];go_wp2;apply g;clear g A;refine wk fun A g=>?_;go_wp2;apply g;clear g A;obtain⟨c0,c1,c2,c5⟩:=G.all;clear h G;go_wp2;go_ret;exact⟨z,E⟩
 have V:R=(decide (args.length=2)&&exsR isName args d):=by
  rw[<-H];have M:kindOk 6 0 p0=true:=by unfold kindOk;rw[if_neg (by decide),if_pos rfl,decide_eq_true (p:=1<=p0) (by omega),decide_eq_true (p:=p0<=11) (by omega)];rfl
  have U:=of_decide_eq_true J;simp[M,arity,U]
 subst V;clear J H;have F:=nameMay_any s false w.drew S;have C:bL w w.drew:=(Below.refl _ w).drew;go_in;refine wk fun A g=>?_;go_wp2;apply g;clear g A;refine wk fun A g=>?_;go_wp2;apply g;clear g A;refine wk fun A g=>?_;go_wp2;apply wp_region_quiet_tail 16 (by kernel_rfl) (by kernel_rfl);simp only[List.take_succ_cons,List.take_zero,List.drop_succ_cons,List.drop_zero];repeat (go_big_quiet_step (fail))
 apply wpQuiet_nil;go_wp2_with fail;apply F.mono;rintro e w1 ⟨rfl,D⟩;have E:=C.trans (D.mono C.size);have G:=h.below E;clear F C D c0 c1 c2 c5;simp only[Bool.false_eq_true,if_false,N.o];go_wp2;apply g;clear g A;refine wk fun A g=>?_;go_wp2;apply g;clear g A;obtain⟨c0,c1,c2,c5⟩:=G.all;refine wk fun A g=>?_;go_wp2;exact g _ _ (em_tail (ar:=2) hd (by decide) X E G Y)
theorem em_other{k n:Int}{sl:Int}{lo:Bool}{args:List Ex}(hd:d<=24)(_a1:EmOk d)(H:k≠1)(C:k≠2)(Q:k≠3)(h4:k≠4)(Z:k≠5)(G:k≠6)(h:ExAt w b j (.mk k n s sl lo p0 args))(W:s.size<=9223372036854775807)(_a2:Ex.nbs args):
  Calls Tryz.prog 187 #[.pointer (some ⟨b,j,none⟩),I ((d+1:Nat):Int)] w fun e w'=>e= .returned (.bool (exR isName (.mk k n s sl lo p0 args) (d+1)))/\bL w w':=by
 obtain⟨R,F⟩:=eX (exR isName (.mk k n s sl lo p0 args) (d+1));rw[F];rw[exR_eq]at F;have a3:¬ ((d+1:Nat):Int)<1:=by omega
 obtain⟨c0,c1,c2,c5⟩:=h.all;have k1:(k !=1)=true:=by simpa using H
 have k6:(k !=6)=true:=by simpa using G
 have e1:(k==1)=false:=by simpa using H
 have e2:(k==2)=false:=by simpa using C
 have e3:(k==3)=false:=by simpa using Q
 have e4:(k==4)=false:=by simpa using h4
 have e5:(k==5)=false:=by simpa using Z
 have e6:(k==6)=false:=by simpa using G
 rcases neOr n 0 with U|U
 .have D:R=false:=by rw[<-F];simp[H,C,Q,G,U]
  have a4:(n !=0)=true:=by simpa using U
  subst D;go_in;go_wp2;go_ret;exact⟨z,Below.refl _ w⟩
 subst U;rcases neOr p0 0 with N|N
 .have D:R=false:=by rw[<-F];simp[H,C,Q,G,N]
  have a0:(p0 !=0)=true:=by simpa using N
  subst D;go_in;go_wp2;go_ret;exact⟨z,Below.refl _ w⟩
 subst N;obtain⟨mn,S⟩:=eX (decide (s=noB));have V:=O S;cases mn
 .have D:R=false:=by rw[<-F];have Y:=of_decide_eq_false S;simp[H,C,Q,G,Y]
  subst D;clear S;have M:=nameMay_any s false w.drew W;have E:bL w w.drew:=(Below.refl _ w).drew;go_in;refine wk fun A g=>?_;go_wp2;apply g;clear g A;refine wk fun A g=>?_;go_wp2;apply g;clear g A;refine wk fun A g=>?_;go_wp2;apply wp_region_quiet_tail 16 (by kernel_rfl) (by kernel_rfl);simp only[List.take_succ_cons,List.take_zero,List.drop_succ_cons,List.drop_zero];repeat (go_big_quiet_step (fail))
  apply wpQuiet_nil;go_wp2_with fail;apply M.mono;rintro e w1 ⟨rfl,J⟩;have K:=E.trans (J.mono E.size);have C:=h.below K;clear M E J c0 c1 c2 c5;simp only[Bool.false_eq_true,if_false,V.o];go_wp2;go_ret;exact⟨z,K⟩
 have D:R=false:=by
  have X:kindOk k 0 0=false:=by
   unfold kindOk;rw[if_neg H,if_neg G];have:¬ (2<=k/\k<=5):=by omega
   rw[<-Bool.not_eq_true,Bool.and_eq_true,decide_eq_true_eq,decide_eq_true_eq];exact this
  rw[<-F];simp[X]
 subst D;clear S F;have M:=nameMay_any s false w.drew W;have E:bL w w.drew:=(Below.refl _ w).drew;go_in;refine wk fun A g=>?_;go_wp2;apply g;clear g A;refine wk fun A g=>?_;go_wp2;apply g;clear g A;refine wk fun A g=>?_;go_wp2;apply wp_region_quiet_tail 16 (by kernel_rfl) (by kernel_rfl);simp only[List.take_succ_cons,List.take_zero,List.drop_succ_cons,List.drop_zero];repeat (go_big_quiet_step (fail))
 apply wpQuiet_nil;go_wp2_with fail;apply M.mono;rintro e w1 ⟨rfl,J⟩;have K:=E.trans (J.mono E.size);have C:=h.below K;clear M E J c0 c1 c2 c5;simp only[Bool.false_eq_true,if_false,V.o];go_wp2;apply g;clear g A;obtain⟨c0,-⟩:=C.all;clear h C;go_wp2;go_ret;exact⟨z,K⟩
theorem exMay_any:∀ (d:Nat),d<=24->EmOk d:=by
 intro d;induction d with
 |zero=>
  intro _ x b K w h g;have J:exR isName x 0=false:=by obtain⟨k,n,s,sl,lo,o,args⟩:=x;rw[exR_eq];simp
  rw[J];go_in;go_wp2;go_ret;exact⟨z,Below.refl _ w⟩
 |succ d j=>
  intro hd x b K w h g;have j:=j (by omega);obtain⟨k,n,s,sl,lo,o,args⟩:=x;unfold Ex.nb at g;have A:d<=24:=by omega
  by_cases G:k=1
  .subst G;exact em_1 A j h g.1 g.2
  by_cases D:k=2
  .subst D;exact em_2 A j h g.1 g.2
  by_cases C:k=3
  .subst C;exact em_3 A j h g.1 g.2
  by_cases F:k=4
  .subst F;exact em_4 A j h g.1 g.2
  by_cases H:k=5
  .subst H;exact em_5 A j h g.1 g.2
  by_cases E:k=6
  .subst E;exact em_6 A j h g.1 g.2
  exact em_other A j G D C F H E h g.1 g.2
theorem partMay_any(x:Ex)(nd:Bool)(b D:Nat)(w:World)(h:ExAt w b D x)(G:x.nb):Calls Tryz.prog 170 #[.pointer (some ⟨b,D,none⟩),.bool nd] w fun e w'=>e= .returned (.bool (if nd=true then exR isName x 24 else exZ x))/\bL w w':=by
 cases nd
 .rw[if_neg Bool.false_ne_true];obtain⟨k,n,s,sl,lo,o,args⟩:=x;obtain⟨c0,c1,c2,c5⟩:=h.all;obtain⟨a,cap,c6,M,-⟩:=h.args;obtain⟨R,j⟩:=eX (exZ (.mk k n s sl lo o args));rw[j];unfold exZ at j;clear h G;rcases neOr k 0 with g|g
  .have C:R=false:=by rw[<-j];simp[g]
   subst C;go_in;go_wp2;go_ret;exact⟨z,Below.refl _ w⟩
  subst g;rcases neOr n 0 with g|g
  .have C:R=false:=by rw[<-j];simp[g]
   subst C;go_in;go_wp2;go_ret;exact⟨z,Below.refl _ w⟩
  subst g;rcases neOr s noB with g|g
  .have C:R=false:=by rw[<-j];simp[g]
   subst C;have K:s.toList.isEmpty=false:=by rw[isE_eq];exact decide_eq_false g
   go_in;go_wp2;go_ret;exact⟨z,Below.refl _ w⟩
  have K:s.toList.isEmpty=true:=by rw[isE_eq];exact decide_eq_true g
  rcases neOr o 0 with A|A
  .have C:R=false:=by rw[<-j];simp[A]
   subst C;clear g;go_in;go_wp2;go_ret;exact⟨z,Below.refl _ w⟩
  subst A;rcases neOr args.length 0 with A|A
  .have C:R=false:=by rw[<-j];simp;intro _ e;subst e;simp at A
   subst C;have N:(((args.length:Nat):Int)==0)=false:=by rw[beq_eq_false_iff_ne];omega
   clear g j;go_in;go_wp2;go_ret;exact⟨z,Below.refl _ w⟩
  have J:R=true:=by rw[<-j];simp[g,A]
  subst J;rw[A]at c6;clear g j A;go_in;go_wp2;go_ret;exact⟨z,Below.refl _ w⟩
 .rw[if_pos rfl];have E:=exMay_any 24 rl x b D w h G;have F:((24:Nat):Int)=24:=z;rw[F]at E;clear F;go_in;go_wp2_with fail;apply E.mono;rintro e w1 ⟨rfl,H⟩;go_wp2;go_ret;exact⟨z,H⟩
def shC(k:Nat):List Value:=[.bool (nName k),.bool (nWith k),.bool (nExpr k),.bool (decide ((k:Int)=3)),.bool (decide ((k:Int)=4)||decide ((k:Int)=5)),.bool (decide ((k:Int)=4))]
def Shs(w:World):Prop:=∀k:Nat,1<=k->k<16->w.rangeAt 1 (k*6) (shC k)
theorem Shs.below{w':World}(h:Shs w)(A:bL w w'):Shs w':=fun k D C j v g=>by have:=h k D C j v g;rw[<-this];simp[World.cell?,A.block 1 (World.block_lt_of_cell? w _ this)]
def SmOk(d:Nat):Prop:=∀ (s:St) (b off:Nat) (w:World),Shs w->StAt w b off s->s.nb->Calls Tryz.prog 147 #[.pointer (some ⟨b,off,none⟩),.int .i64 (d:Int)] w fun e w'=>e= .returned (.bool (stR isName s d))/\Below w.1.size w w'
def BmOk(d:Nat):Prop:=∀ (l:List St) (a:Option Addr) (cap:Nat) (w:World),Shs w->SlAt w a cap l->St.nbs l->Calls Tryz.prog 115 #[.slice a l.length cap,.int .i64 (d:Int)] w fun e w'=>e= .returned (.bool (stsR isName l d))/\Below w.1.size w w'
theorem stR_deep(s:St)(d:Nat)(h:24<d):stR isName s d=false:=by obtain⟨F,sl,H,J,E,g,A,sb,C,G,D,w,j⟩:=s;unfold stR;rw[decide_eq_false (p:=d<=24) (by omega),Bool.false_and,Bool.and_false]
theorem bm_loop{cap:Nat}{l:List St}{R:Bool}(M:Roomy j cap)(Q:Hid (l.length=j))(D:Hid (stsR isName (l.drop 0) d=R))(W:Hid (St.nbs l))(g:Hid (bL w w/\SlAt w a cap l))(V:Hid (0<j->SmOk d))(Z:Shs w)(hU:l2.length=23:=by rfl):
  Code.wp Tryz.prog (dropS 2 (Tryz.f115.body.getD .skip)) (bodyPost Tryz.prog Tryz.f115 (fun e w'=>e= .returned (.bool R)/\bL w w')) ⟨(.slice a j cap::I d::l2).toArray,[]⟩ w:=by
 revert l2;apply aN;iterate 23 intro _
 change Code.wp _ _ _ _ _;conv in (dropS _ _)=>whnf
 go_wp2_with fail;go_loopg [15] j (fun x iv wr=>∃i:Nat,i<=j/\x=j-i/\iv=I i/\Hid (bL w wr/\SlAt wr a cap l)/\Hid (stsR isName (l.drop i) d=R));case atStart=>exact⟨0,Nat.zero_le _,z,z,g,D⟩
 case round=>
  clear g D;obtain⟨i,hi,rfl,rfl,g,D⟩:=hrel;obtain⟨A,C⟩:=g.o;by_cases a3:i<j
  .have a1:(i:Int)< (j:Int):=by omega
   have a5:(0:Int)<=(i:Int):=by omega
   have a4:(i:Int)+1<=9223372036854775807:=by have C:=M.1;have h2:=M.2;omega
   obtain⟨s,E⟩:∃s,l[i]? =some s:=⟨_,List.getElem?_eq_getElem (by rw[Q.o];exact a3)⟩;have H:=D.o;rw[stsR_drop E]at H;obtain⟨b2,Y,rfl,N⟩:=C.at E;have G:=V.o (by omega) s b2 (Y+i*25) wr (Z.below A) N (St.nbs_at W.o E);obtain⟨m,S⟩:=eX (stR isName s d);rw[S]at G H;have J:=O H;clear N E S H D;go_wp2_with fail;refine G.mono ?_;rintro e w2 ⟨rfl,F⟩;have K:=A.trans (F.mono A.size);cases m
   .have X:R=false:=J.o.symm;subst X;clear g G C A F;go_wp2_with fail;go_ret;exact⟨z,K⟩
   .have a2:Hid (stsR isName (l.drop (i+1)) d=R):=O J.o;have U:=O (And.intro K (C.below F));clear g G C A F K J;go_wp2_with fail;go_roundg (j- (i+1));case measure=>omega
    case rel=>exact⟨i+1,by omega,z,z,U,a2⟩
  .obtain rfl:i=j:=by omega
   have a1:¬ (i:Int)< (i:Int):=by omega
   have a0:R=true:=by rw[<-D.o,List.drop_eq_nil_of_le (by rw[Q.o];exact Nat.le_refl _)];unfold stsR;rfl
   subst a0;clear C g;go_wp2;go_ret;exact⟨z,A⟩
theorem bm_of_sm(hd:d<=25)(V:d<=24->SmOk d):BmOk d:=by
 intro l a cap w M h Q;obtain⟨R,G⟩:=eX (stsR isName (l.drop 0) d);rw[show stsR isName l d=R from G];obtain⟨g,F⟩:=eX (l.length);have A:=h.1;rw[F]at A ⊢;have D:=O F;have E:=O G;have K:=O Q;have C:=O (And.intro (Below.refl w.1.size w) h);clear F G Q h;by_cases N:24<d/\0<g
 .have U:R=false:=by
   have H:0<l.length:=by rw[D.o];exact N.2
   have X:=List.getElem?_eq_getElem H;rw[<-E.o,stsR_drop X,stR_deep _ _ N.1];rfl
  subst U;have Y:(24:Int)< (d:Int):=by omega
  have W:(0:Int)< (g:Int):=by omega
  clear C;go_in;go_wp2;go_ret;exact⟨z,Below.refl _ w⟩
 have J:Hid (0<g->SmOk d):=O (fun h=>V (by omega));go_in;refine wk fun S j=>?_;go_wp2;apply j;clear j S;refine wk fun S j=>?_;by_cases Z:(24:Int)< (d:Int)
 .have W:¬ (0:Int)< (g:Int):=by omega
  go_wp2;exact j _ _ (bm_loop A D E K C J M)
 .go_wp2;exact j _ _ (bm_loop A D E K C J M)
theorem sm_b{q:Nat}{k sl:Int}{sb:List St}{b0 b1 b2 b3:Bool}(hd:d<=24)(hB:BmOk (d+1))(M:StAt W b j (.mk k sl p0 s6 s7 e0 e1 sb T0 p1 p2 p3 z4))(hq:Blk W q 254 [.bool b0,.bool b1,.bool b2,.bool b3,.bool z3,.bool z2])(J:Shs W)(E:bL w W)(b8:St.nbs sb)(b5:St.nbs T0)
  (b6:stsR isName sb (d+1)=z0)(a9:stsR isName T0 (d+1)=z1)(hU:l2.length=92:=by rfl):
  Code.wp Tryz.prog (dropS 5 (Tryz.f147.body.getD .skip)) (bodyPost Tryz.prog Tryz.f147 (fun e w'=>e= .returned (.bool ((z3||decide (sb.length=0))&& ((z2||decide (T0.length=0))&& (z0&&z1))))/\bL w w')) ⟨(.pointer (some ⟨b,j,none⟩)::I d::v0::v1::v2::Pt q::l2).toArray,[]⟩ W:=by
 revert l2;apply aN;iterate 92 intro _
 change Code.wp _ _ _ _ _;conv in (dropS _ _)=>whnf
 obtain⟨-,-,-,-,-,-,-,⟨ab,c9,a6,b7⟩,ae,a2,F,Q⟩:=M.parts;have q4:=hq.cell 4;have q5:=hq.cell 5;simp only[List.getElem?_cons_succ,List.getElem?_cons_zero]at q4 q5;have X:=hB sb ab c9 W J b7 b8;rw[b6]at X;have N:((d:Int)+1)=((d+1:Nat):Int):=by omega
 rw[<-N]at X;have d1:(d:Int)+1<=9223372036854775807:=by omega
 have d0:(0:Int)<=(d:Int):=by omega
 obtain⟨nB,b4⟩:=eX (sb.length);obtain⟨Z,a7⟩:=eX (T0.length);rw[b4]at a6 X ⊢;rw[a7]at F ⊢;have a1:=O a7;clear b4 a7;obtain⟨R,hR⟩:=eX (((z3||decide (nB=0))&& ((z2||decide (Z=0))&& (z0&&z1))));rw[hR];have U:=O hR;have S:=O (And.intro M (And.intro J E));have HB:=O hB;have HM:=O (And.intro a9 b5);clear hR M J E hB b6 a9 b8 b5 b7 Q hq N;cases z3
 .cases z2
  .skip;rcases neOr nB 0 with Y|Y
   .have H:R=false:=by rw[<-U.o];simp[Y]
    subst H;have a8:=Y;have a4:=S.2.2;clear S;go_wp2;go_ret;exact⟨z,a4⟩
   subst Y;rcases neOr Z 0 with a0|a0
   .have H:R=false:=by rw[<-U.o];simp[a0]
    subst H;have a8:=a0;have b9:0<Z:=by omega
    have c8:(0:Int)< (Z:Int):=by omega
    have a4:=S.2.2;clear S;go_wp2;go_ret;exact⟨z,a4⟩
   subst a0;have C:R=(z0&&z1):=by rw[<-U.o];simp
   have a5:=O C;clear C;go_wp2_with fail;apply X.mono;rintro e w1 ⟨rfl,g⟩;obtain⟨M,J,E⟩:=S;have G:=M.below g;have K:=J.below g;have D:=E.trans (g.mono E.size);clear X M J E g a6 F q4 q5;cases z0
   .have H:R=false:=by rw[<-U.o];simp
    subst H;clear G K;go_wp2;go_ret;exact⟨z,D⟩
   obtain⟨-,-,-,-,-,-,-,-,ae,a2,F,Q⟩:=G.parts;have A:=HB T0 ae a2 w1 K Q HM.2;rw[HM.o.1,a1.o]at A;rw[a1.o]at F;have N:((d:Int)+1)=((d+1:Nat):Int):=by omega
   rw[<-N]at A;clear G K Q N;go_wp2_with fail;apply A.mono;rintro e w3 ⟨rfl,V⟩;have a3:=D.trans (V.mono D.size);clear A V D F;have C:=a5.o;subst C;go_wp2;go_ret;exact⟨z,a3⟩
  .skip;rcases neOr nB 0 with Y|Y
   .have H:R=false:=by rw[<-U.o];simp[Y]
    subst H;have a8:=Y;have a4:=S.2.2;clear S;go_wp2;go_ret;exact⟨z,a4⟩
   subst Y;have C:R=(z0&&z1):=by rw[<-U.o];simp
   have a5:=O C;clear C;go_wp2_with fail;apply X.mono;rintro e w1 ⟨rfl,g⟩;obtain⟨M,J,E⟩:=S;have G:=M.below g;have K:=J.below g;have D:=E.trans (g.mono E.size);clear X M J E g a6 F q4 q5;cases z0
   .have H:R=false:=by rw[<-U.o];simp
    subst H;clear G K;go_wp2;go_ret;exact⟨z,D⟩
   obtain⟨-,-,-,-,-,-,-,-,ae,a2,F,Q⟩:=G.parts;have A:=HB T0 ae a2 w1 K Q HM.2;rw[HM.o.1,a1.o]at A;rw[a1.o]at F;have N:((d:Int)+1)=((d+1:Nat):Int):=by omega
   rw[<-N]at A;clear G K Q N;go_wp2_with fail;apply A.mono;rintro e w3 ⟨rfl,V⟩;have a3:=D.trans (V.mono D.size);clear A V D F;have C:=a5.o;subst C;go_wp2;go_ret;exact⟨z,a3⟩
 .cases z2
  .skip;rcases neOr Z 0 with a0|a0
   .have H:R=false:=by rw[<-U.o];simp[a0]
    subst H;have a8:=a0;have b9:0<Z:=by omega
    have c8:(0:Int)< (Z:Int):=by omega
    have a4:=S.2.2;clear S;go_wp2;go_ret;exact⟨z,a4⟩
   subst a0;have C:R=(z0&&z1):=by rw[<-U.o];simp
   have a5:=O C;clear C;go_wp2_with fail;apply X.mono;rintro e w1 ⟨rfl,g⟩;obtain⟨M,J,E⟩:=S;have G:=M.below g;have K:=J.below g;have D:=E.trans (g.mono E.size);clear X M J E g a6 F q4 q5;cases z0
   .have H:R=false:=by rw[<-U.o];simp
    subst H;clear G K;go_wp2;go_ret;exact⟨z,D⟩
   obtain⟨-,-,-,-,-,-,-,-,ae,a2,F,Q⟩:=G.parts;have A:=HB T0 ae a2 w1 K Q HM.2;rw[HM.o.1,a1.o]at A;rw[a1.o]at F;have N:((d:Int)+1)=((d+1:Nat):Int):=by omega
   rw[<-N]at A;clear G K Q N;go_wp2_with fail;apply A.mono;rintro e w3 ⟨rfl,V⟩;have a3:=D.trans (V.mono D.size);clear A V D F;have C:=a5.o;subst C;go_wp2;go_ret;exact⟨z,a3⟩
  .skip;have C:R=(z0&&z1):=by rw[<-U.o];simp
   have a5:=O C;clear C;go_wp2_with fail;apply X.mono;rintro e w1 ⟨rfl,g⟩;obtain⟨M,J,E⟩:=S;have G:=M.below g;have K:=J.below g;have D:=E.trans (g.mono E.size);clear X M J E g a6 F q4 q5;cases z0
   .have H:R=false:=by rw[<-U.o];simp
    subst H;clear G K;go_wp2;go_ret;exact⟨z,D⟩
   obtain⟨-,-,-,-,-,-,-,-,ae,a2,F,Q⟩:=G.parts;have A:=HB T0 ae a2 w1 K Q HM.2;rw[HM.o.1,a1.o]at A;rw[a1.o]at F;have N:((d:Int)+1)=((d+1:Nat):Int):=by omega
   rw[<-N]at A;clear G K Q N;go_wp2_with fail;apply A.mono;rintro e w3 ⟨rfl,V⟩;have a3:=D.trans (V.mono D.size);clear A V D F;have C:=a5.o;subst C;go_wp2;go_ret;exact⟨z,a3⟩
theorem sm_a{q:Nat}{k sl:Int}{sb:List St}{b0 b1 b2 b3:Bool}(hd:d<=24)(hB:BmOk (d+1))(M:StAt W b j (.mk k sl p0 s6 s7 e0 e1 sb T0 p1 p2 p3 z4))(N:Blk W q 254 [.bool b0,.bool b1,.bool b2,.bool b3,.bool z0,.bool z1])(K:Shs W)(G:bL w W)(a3:St.nbs sb)(Z:St.nbs T0)
  (a0:stsR isName sb (d+1)=z5)(X:stsR isName T0 (d+1)=z6)
  (c3:∀W,ExAt W b (j+12) e1->Calls Tryz.prog 170 #[.pointer (some ⟨b,j+12,none⟩),.bool b3] W fun e w'=>e= .returned (.bool z2)/\bL W w')
  (c4:∀W,ExAt W b (j+5) e0->Calls Tryz.prog 170 #[.pointer (some ⟨b,j+5,none⟩),.bool b2] W fun e w'=>e= .returned (.bool z3)/\bL W w')(hU:l2.length=92:=by rfl):
  Code.wp Tryz.prog (dropS 4 (Tryz.f147.body.getD .skip)) (bodyPost Tryz.prog Tryz.f147 (fun e w'=>e= .returned (.bool (z2&& (z3&& ((z0||decide (sb.length=0))&& ((z1||decide (T0.length=0))&& (z5&&z6))))))/\bL w w')) ⟨(.pointer (some ⟨b,j,none⟩)::I d::v0::v1::v2::Pt q::l2).toArray,[]⟩ W:=by
 revert l2;apply aN;iterate 92 intro _
 change Code.wp _ _ _ _ _;have a4:Tryz.prog.follows .mixedOrders=true:=by kernel_rfl
 conv in (dropS _ _)=>whnf
 have V:∀C,bL W C->StAt C b j (.mk k sl p0 s6 s7 e0 e1 sb T0 p1 p2 p3 z4)/\Blk C q 254 [.bool b0,.bool b1,.bool b2,.bool b3,.bool z0,.bool z1]/\Shs C/\bL w C:=fun C Q=>⟨M.below Q,N.below Q,K.below Q,G.trans (Q.mono G.size)⟩;have D:=O V;have Y:=O (And.intro c3 c4);have J:=O (And.intro hB (And.intro a3 (And.intro Z (And.intro a0 X))));clear M N K G V c3 c4 hB a3 Z a0 X;refine wk fun F HK=>?_;go_wp2;apply wp_region_x [] (fun C=>bL W C) a4;have g:Hid (bL W W.drew):=O ((Below.refl _ W).drew);refine tb 0 g ?_;refine tb 1 g ?_;refine tb 2 g ?_;refine tb 3 g ?_;refine tg _ 4 g (fun E U=> (D E U).2.1.cell 3) ?_;have H:=(D _ g).1.parts;refine tn 5 fun F A=>?_;go_simp;apply (Y.1 _ H.2.2.2.2.2.2.1).mono
 rintro e E ⟨rfl,a2⟩;have g:=O (g.trans (a2.mono g.size));clear a2 H;cases z2
 .skip;apply A _ _ (fun _=>g);clear A F;refine t0 6 g ?_;refine t0 7 g ?_;refine tu 8 g ?_;refine tu 9 g ?_;refine tu 10 g ?_;refine tu 11 g ?_;refine tu 12 g ?_;refine tu 13 g ?_;refine tu 14 g ?_;refine t0 15 g ?_;refine dn ?_;try simp only[Bool.false_and,Bool.true_and]
  have S:=(D E g).2.2.2;go_wp2;go_ret;exact⟨z,S⟩
 apply A _ _ (fun _=>g);clear A F;refine t0 6 g ?_;refine t0 7 g ?_;refine tb 8 g ?_;refine tb 9 g ?_;refine tb 10 g ?_;refine tb 11 g ?_;refine tg _ 12 g (fun E U=> (D E U).2.1.cell 2) ?_;have H:=(D _ g).1.parts;refine tn 13 fun F A=>?_;go_simp;apply (Y.2 _ H.2.2.2.2.2.1).mono;rintro e R ⟨rfl,a1⟩;have g:=O (g.trans (a1.mono g.size));clear a1 H;cases z3
 .skip;apply A _ _ (fun _=>g);clear A F;refine t0 14 g ?_;refine t0 15 g ?_;refine dn ?_;try simp only[Bool.false_and,Bool.true_and]
  have S:=(D R g).2.2.2;go_wp2;go_ret;exact⟨z,S⟩
 apply A _ _ (fun _=>g);clear A F;refine t0 14 g ?_;refine t0 15 g ?_;refine dn ?_;try simp only[Bool.true_and]
 obtain⟨M,N,K,G⟩:=D R g;go_wp2;exact HK _ _ (sm_b hd J.1 M N K G J.2.1 J.2.2.1 J.2.2.2.1 J.2.2.2.2)
end Go.Proofs.YtgppcdfgdaggjaaGreatDoor
