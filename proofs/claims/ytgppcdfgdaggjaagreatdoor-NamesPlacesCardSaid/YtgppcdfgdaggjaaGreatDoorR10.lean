/- Texts laid together. No condition but what each law says. -/
import Derived.Test.YtgppcdfgdaggjaaGreatDoorR07
import Derived.StillTailTactics
import Derived.IntWalk
set_option maxRecDepth 100000
set_option maxHeartbeats 8000000
namespace Go.Proofs.YtgppcdfgdaggjaaGreatDoor
open Go.RowKit Go.Maps
variable {W w:World}{b g k n:Nat}{s:ByteArray}{v0 v1:Value}
def Num(w:World)(b:Nat)(x:Int):Prop:=w.1[b]? =some (.cells #[.int .i64 x] 3 (0,0))
theorem Num.c0{x:Int}(h:Num w b x):w.cell? ⟨b,0,none⟩=some (I x):=by unfold Num at h;simp[World.cell?,h]
theorem Num.frozen{x:Int}(h:Num w b x)(k:Nat):w.frozen? ⟨b,k,none⟩=false:=by unfold Num at h;simp[World.frozen?,h]
theorem Num.set{x:Int}(h:Num w b x)(y:Int):Num (w.setCell ⟨b,0,none⟩ (I y)) b y:=by have g:=heap_set (j:=0) h (I y);unfold Num;rw[g];simp
theorem Num.of{w':World}{x:Int}(h:Num w b x)(g:w'.1[b]? =w.1[b]?):Num w' b x:=g.trans h
theorem Num.other{b':Nat}{x:Int}(h:Num w b x)(g:b≠b')(k:Nat)(u:Value):Num (w.setCell ⟨b',k,none⟩ u) b x:=h.of (Below.heap_setCell w ⟨b',k,none⟩ u b g)
theorem Kp.setB{w':World}{a:Nat}(h:Kp w w' a b)(k:Nat)(u:Value):Kp w (w'.setCell ⟨b,k,none⟩ u) a b:=
 ⟨h.os,h.tape,h.output,by simpa [World.setCell]using h.size,fun j C A g=> (Below.heap_setCell w' ⟨b,k,none⟩ u j g).trans (h.block j C A g)⟩
theorem left_any{n:Int}(h:Num w g n)(D: -10<n)(E:n<10)(c:UInt8):
  Calls Tryz.prog 168 #[.int .u8 (c.toNat:Int),Pt g] w fun e w'=>e= .returned (.bool (decide (1<=n)))/\w'=w.setCell ⟨g,0,none⟩ (I (n-1)):=by
 have c0:=h.c0;have C:=h.frozen 0;by_cases j:1<=n
 .rw[decide_eq_true j];have A:(0:Int)<=n-1:=by omega
  go_in;go_wp2;go_ret;exact⟨z,z⟩
 .rw[decide_eq_false j];have A:¬ (0:Int)<=n-1:=by omega
  go_in;go_wp2;go_ret;exact⟨z,z⟩
theorem pass_left(D:Rd w b s k v0 v1)(H:Num w g n)(a9:b≠g)(h1:1<=n)(h2:n<=2)(hk:k+n<=s.size)(hs:s.size<=4294967296):
  Calls Tryz.prog 61 #[Pt b,.func (.func 168) #[] #[Pt g]] w fun e w'=>e= .returned (.string (s.extract k (k+n)))/\Rd w' b s (k+n) v0 v1/\Kp w w' b g:=by
 have b3:=D.c3;go_in;go_wp2_with fail;clear b3;go_loopg [] n (fun x wr=>∃i:Nat,i<=n/\x=n-i/\Rd wr b s (k+i) v0 v1/\Num wr g ((n:Int)-i)/\Kp w wr b g);case atStart=>exact⟨0,Nat.zero_le _,z,D,by simpa using H,Kp.refl _ _ _⟩
 case round=>
  clear D H;obtain⟨i,hi,rfl,D,H,F⟩:=hrel;have b2:=D.c2;have b3:=D.c3;obtain⟨j,Q⟩:=eX (k+i);rw[Q]at b3 D;have HJ:=O Q;by_cases b8:j<s.size
  .have hz:(j:Int)< (s.size:Int):=by omega
   have b5:=byte_at b8;obtain⟨c,hc⟩:∃c,byte s j=c:=⟨_,z⟩;have HC:=O hc;rw[hc]at b5;have cl:=left_any H (by omega) (by omega) c;clear hc Q;go_wp2_with fail;go_still_tail 21,(by kernel_rfl);change wpList _ _ _ _ _ wr.drew;have J:Rd wr.drew b s j v0 v1:=D;have Y:Num wr.drew g ((n:Int)-i):=H;have E:Kp w wr.drew b g:=F.drew;clear D H F b2 b3 cl;generalize wr.drew=G at *;go_wp2_with fail;refine(left_any Y (by omega) (by omega) c).mono ?_;rintro e w2 ⟨rfl,rfl⟩;have C:Rd (G.setCell ⟨g,0,none⟩ (.int .i64 ((n:Int)-i-1))) b s j v0 v1:=J.of (Below.heap_setCell G ⟨g,0,none⟩ _ b a9);have a1:=Y.set ((n:Int)-i-1);have A:Kp w (G.setCell ⟨g,0,none⟩ (.int .i64 ((n:Int)-i-1))) b g:=E.setB 0 _;clear J Y E
   generalize G.setCell ⟨g,0,none⟩ (I ((n:Int)-i-1))=W2 at *;have b2:=C.c2;have b3:=C.c3;by_cases d0:i<n
   .have hd:decide (1<=(n:Int)-i)=true:=decide_eq_true (by omega);rw[hd];clear hd;obtain⟨r,hr⟩:=eX (((c.toNat:Int)==10));have a3:=O hr;go_wp2_with fail;go_quiet (fail);have Z:∀n,Rd (W2.drewN n) b s j v0 v1:=fun _=>C;have a5:∀m,Num (W2.drewN m) g ((n:Int)-i-1):=fun _=>a1;have a4:∀n,Kp w (W2.drewN n) b g:=fun n=>⟨A.os,A.tape,A.output,A.size,A.block⟩;clear b2 b3 hr A;have b4:=posAt_le s j;have b0:=C.c0;have b1:=C.c1;have b3:=C.c3;have f0:=C.frozen 0;have f1:=C.frozen 1;have f3:=C.frozen 3;have X:=fun n=> (Z n).line;have a0:=fun n=> (Z n).col;have a8:=O a4;have a2:=O a5;clear a4 a5 a1;obtain⟨l,hl⟩:=eX ((posAt s j).1);obtain⟨m,hm⟩:=eX ((posAt s j).2);rw[hl]at X b0 b4;rw[hm]at a0 b1 b4
    have b9:=O X;have b7:=O a0;clear hl hm X a0 C Z;have a7:k+(i+1)=j+1:=by have:=HJ.o;omega
    have a6:=O a7;clear a7;have N:g≠b:=fun e=>a9 e.symm;cases r
    .have K:byte s j≠10:=by rw[HC.o];intro h;have R:=a3.o;rw[h]at R;simp at R
     have V:=O K;clear K;go_wp2;go_roundg (n- (i+1));case measure=>omega
     case rel=>
      refine⟨i+1,by omega,z,?_,?_,((a8.o _).setA 1 _).setA 3 _⟩
      .rw[a6.o];exact b7.o _ V.o
      .rw[show (n:Int)- ((i+1:Nat):Int)=(n:Int)-i-1 by omega];exact((a2.o _).other N 1 _).other N 3 _
    .have K:byte s j=10:=by
      rw[HC.o];have R:=a3.o;rw[beq_iff_eq]at R;have c9:c.toNat=10:=by omega
      exact UInt8.toNat_inj.1 (by simpa using c9)
     have V:=O K;clear K;go_wp2;go_roundg (n- (i+1));case measure=>omega
     case rel=>
      refine⟨i+1,by omega,z,?_,?_,(((a8.o _).setA 0 _).setA 1 _).setA 3 _⟩
      .rw[a6.o];exact b9.o _ V.o
      .rw[show (n:Int)- ((i+1:Nat):Int)=(n:Int)-i-1 by omega];exact(((a2.o _).other N 0 _).other N 1 _).other N 3 _
   .have hd:decide (1<=(n:Int)-i)=false:=decide_eq_false (by omega);rw[hd];clear hd;have M:k+n=j:=by have:=HJ.o;omega
    have U:=O M;have b6:(k:Int)<=(j:Int):=by omega
    have d1:(j:Int)<=(s.size:Int):=by omega
    clear M;go_wp2_with fail;go_quiet (fail);go_wp2;go_ret;rw[U.o];exact⟨z,C,⟨A.os,A.tape,A.output,A.size,A.block⟩⟩
  .have M:k+n=s.size:=by omega
   have c8:j=s.size:=by omega
   subst c8;have U:=O M;have b6:(k:Int)<=(s.size:Int):=by omega
   clear Q M;have hd:decide ((s.size:Int)< (s.size:Int))=false:=by simp
   go_wp2_with fail;go_quiet (fail);rename_i nq;obtain⟨G,S⟩:=eX (wr.drewN nq);have J:Rd G b s s.size v0 v1:=by rw[<-S];exact D
   have E:Kp w G b g:=by rw[<-S];exact⟨F.os,F.tape,F.output,F.size,F.block⟩
   rw[S];clear S D F b2 b3;have b2:=J.c2;have b3:=J.c3;go_wp2_with fail;go_quiet (fail);go_wp2;go_ret;rw[U.o];exact⟨z,J,⟨E.os,E.tape,E.output,E.size,E.block⟩⟩
theorem look_at{j:List ByteArray}(h:W.ownsMap Tryz.prog 9 (plainElem Tryz.prog 3) g 20 (Lst j 20))(t:ByteArray)(C:t.size<=maxLen):
  (Instr.lookup 148 (.map (some g)) (.string t) false).run Tryz.prog W= .ok (I (lastOf j t.data.toList 20)) W:=by
 obtain⟨c,D,w,_⟩:=h.lookup_int law Tryz.underlying148 Tryz.underlying3 (zero3 _) (Go.WideMaps.keyOf_string_mk Tryz.underlying9 (s:=t) C);rw[lst_at]at w;have A:lastOf j t.data.toList 20=c:=by simpa using w
 rw[A];exact D
def sgnF(s:ByteArray)(k:Nat):Nat->Nat
 |0=>0
 |m+1=>if isSg (s.extract k (k+(m+1))).data.toList then m+1 else sgnF s k m
theorem sgnF_le(s:ByteArray)(k m:Nat):sgnF s k m<=m:=by
 induction m with
 |zero=>exact rl
 |succ m g=>
  unfold sgnF;split
  .exact rl
  .omega
theorem extract_le(s:ByteArray)(k j:Nat)(h:s.size<=maxLen):(s.extract k j).size<=maxLen:=by rw[ByteArray.size_extract];omega
theorem extract_none(s:ByteArray)(k:Nat):s.extract k (k+0)=⟨#[]⟩:=by apply ByteArray.ext;simp
theorem sign_any(A:Rd w b s k v0 (.map (some g)))(G:w.ownsMap Tryz.prog 9 (plainElem Tryz.prog 3) g 20 (Lst sgL 20))(_d8:g≠b)(hk:k<s.size)(hs:s.size<=4294967296):
  Calls Tryz.prog 143 #[Pt b] w fun e w'=>∃n,n=sgnF s k (min 2 (s.size-k))/\e= .returned (.string (s.extract k (k+n)))/\Rd w' b s (k+n) v0 (.map (some g))/\Kp w w' b b:=by
 have b2:=A.c2;have b3:=A.c3;obtain⟨M,hM⟩:=eX (min 2 (s.size-k));have b6:(if (s.size:Int)- (k:Int)<2 then (s.size:Int)- (k:Int) else 2)=(M:Int):=by split<;>omega
 have a5:=O b6;clear b6;have d7:1<=M/\M<=2/\k+M<=s.size:=by omega
 rw[hM];obtain⟨E,V⟩:=eX (sgnF s k M);rw[V];have HE:=O V;clear V hM;go_in;go_wp2;go_quiet (fail);rename_i nq;rw[a5.o];obtain⟨Z,K⟩:=eX (w.drewN nq);have a7:Rd Z b s k v0 (.map (some g)):=K▸A;have a8:Kp w Z b b:=by rw[<-K];exact⟨z,z,z,rl,fun _ _ _ _=>z⟩
 have a1:Z.ownsMap Tryz.prog 9 (plainElem Tryz.prog 3) g 20 (Lst sgL 20):=K▸G;rw[K];clear K A G b2 b3 a5;go_wp2;go_loopg [3] M (fun x sl wr=>∃m:Nat,m<=2/\k+m<=s.size/\x=m/\sl=I m/\Rd wr b s k v0 (.map (some g))/\wr.ownsMap Tryz.prog 9 (plainElem Tryz.prog 3) g 20 (Lst sgL 20)/\Kp w wr b b/\Hid (sgnF s k m=E));case atStart=>exact⟨M,by omega,by omega,z,z,a7,a1,a8,HE⟩
 case round=>
  clear a7 a1 a8;obtain⟨m,d9,d0,a9,rfl,A,G,F,HJ⟩:=hrel;have d4:=O a9;clear a9;have b2:=A.c2;have b3:=A.c3;have b5:=A.c5;by_cases e0:0<m
  .have i1:(0:Int)< (m:Int):=by omega
   obtain⟨J,U⟩:=eX (k+m);have R:sgnF s k m=if isSg (s.extract k (k+m)).data.toList then m else sgnF s k (m-1):=by obtain⟨m',rfl⟩:∃m',m=m'+1:=⟨m-1,by omega⟩;rfl
   rw[U]at R;obtain⟨t,X⟩:=eX (s.extract k J);rw[X]at R;have a3:∀n,(Instr.lookup 148 (.map (some g)) (.string t) false).run Tryz.prog (wr.drewN n)= .ok (I (lastOf sgL t.data.toList 20)) (wr.drewN n):=fun n=>by apply look_at (W:=wr.drewN n) G t;rw[<-X];exact extract_le _ _ _ (Nat.le_trans hs (by decide))
   have Y:(if isSg t.data.toList then m else sgnF s k (m-1))=E:=by rw[<-HJ.o,R]
   clear R;have a0:=sg_pos t.data.toList;obtain⟨c,hc⟩:=eX (lastOf sgL t.data.toList 20);rw[hc]at a3 a0;obtain⟨q,hq⟩:=eX (isSg t.data.toList);rw[hq]at a0 Y;have a2:=O Y;have HT:=O X;clear hc hq Y;have w1:IntKind.i64.wrap ((k:Int)+(m:Int))=(J:Int):=by rw[IntWalk.i64_in _ (by omega)];omega
   have c8:(J:Int)<=(s.size:Int):=by omega
   have d5:(k:Int)<=(J:Int):=by omega
   have e2:=O U;clear U;go_wp2;go_quiet (fail);rename_i nq;obtain⟨C,N⟩:=eX (wr.drewN nq);have S:Rd C b s k v0 (.map (some g)):=N▸A;have D:Kp w C b b:=by rw[<-N];exact⟨F.os,F.tape,F.output,F.size,F.block⟩
   have d6:C.ownsMap Tryz.prog 9 (plainElem Tryz.prog 3) g 20 (Lst sgL 20):=N▸G;rw[N];clear N A F G b2 b3 b5 a3 w1 c8 d5;cases q
   .have d1:=O (show sgnF s k (m-1)=E by have h:=a2.o;simpa using h);go_wp2;go_roundg (m-1);case measure=>have:=d4.o;omega
    case rel=>
     have e:((m-1:Nat):Int)=(m:Int)-1:=by omega
     exact⟨m-1,by omega,by omega,z,by rw[e],S,d6,D,d1⟩
   .have b4:m=E:=by have h:=a2.o;simpa using h
    have d3:=O b4;clear b4;have b8:Num (C.alloc (.cells #[.int .i64 (m:Int)] 3)) C.1.size m:=World.alloc_heap_new _ _;have b7:=S.alloc (.cells #[I m] 3);have e1:=S.lt;have H:bL C (C.alloc (.cells #[I m] 3)):=(Below.refl _ _).alloc rl _;go_wp2_with fail;change Calls _ _ _ (C.alloc (.cells #[I m] 3)) _;generalize C.alloc (.cells #[I m] 3)=W2 at *;apply (pass_left b7 b8 (by omega) (by omega) (by omega) d0 hs).mono;rintro e w3 ⟨rfl,c9,Q⟩;have d2:Kp w w3 b b:=⟨Q.os.trans (H.os.trans D.os),Q.tape.trans (H.tape.trans D.tape),Q.output.trans (H.output.trans D.output),Nat.le_trans D.size (Nat.le_trans H.size Q.size),fun j hj h1 h2=>by have a6:=Nat.lt_of_lt_of_le hj D.size;exact(Q.block j (Nat.lt_of_lt_of_le a6 H.size) h1 (by omega)).trans ((H.block j a6).trans (D.block j hj h1 h2))⟩
    go_wp2;go_ret;exact⟨m,d3,z,c9,d2⟩
  .obtain rfl:m=0:=by omega
   have a4:E=0:=by rw[<-HJ.o];rfl
   have b9:=O a4;clear a4;go_wp2;go_ret;refine⟨0,b9.symm,?_,A,F⟩;rw[extract_none];rfl
end Go.Proofs.YtgppcdfgdaggjaaGreatDoor
