/- Texts laid together. No condition but what each law says. -/
import Derived.Test.YtgppcdfgdaggjaaGreatDoorN06
import Derived.StillTailTactics
import Derived.IntWalk
set_option maxRecDepth 100000
set_option maxHeartbeats 8000000
namespace Go.Proofs.YtgppcdfgdaggjaaGreatDoor
open Go.RowKit Go.Proofs.Tryz Go.Maps
open Go renaming World→Fk,plainElem→GO
open Go.RowKit.Below renaming heap_setCell→FK
open Nat renaming le_trans→FU,lt_of_lt_of_le→FJ
variable {W w:Fk}{b g k n:Nat}{s:ByteArray}{v0 v1:Value}
def jV(w:Fk)(b:Nat)(x:Int):Prop:=w.1[b]? =some (.cells #[.int .i64 x] 3 (0,0))
theorem jV.c0{x:Int}(h:jV w b x):w.cell? (ad b 0)=some (I x):=by unfold jV at h;simp[World.cell?,h]
theorem jV.frozen{x:Int}(h:jV w b x)(k:Nat):w.frozen? (ad b k)=false:=by unfold jV at h;simp[World.frozen?,h]
theorem jV.set{x:Int}(h:jV w b x)(y:Int):jV (w.setCell (ad b 0) (I y)) b y:=by have g:=bz (j:=0) h (I y);unfold jV;rw[g];simp
theorem jV.of{w':Fk}{x:Int}(h:jV w b x)(g:w'.1[b]? =w.1[b]?):jV w' b x:=g.trans h
theorem jV.other{b':Nat}{x:Int}(h:jV w b x)(g:b≠b')(k:Nat)(u:Value):jV (w.setCell (ad b' k) u) b x:=h.of (FK w (ad b' k) u b g)
theorem Kp.DY{w':Fk}{a:Nat}(h:Kp w w' a b)(k:Nat)(u:Value):Kp w (w'.setCell (ad b k) u) a b:=
 ⟨h.os,h.tape,h.output,by simpa [World.setCell]using h.size,fun j C A g=> (FK w' (ad b k) u j g).trans (h.block j C A g)⟩
theorem nX{n:Int}(h:jV w g n)(D: -10<n)(E:n<10)(c:UInt8):
  Calls prog 168 #[.int .u8 (c.toNat:Int),Pt g] w fun e w'=>e= .returned (.bool (decide (1<=n)))/\w'=w.setCell (ad g 0) (I (n-1)):=by
 have c0:=h.c0;have C:=h.frozen 0;by_cases j:1<=n
 .rw[eP j];have A:(0:Int)<=n-1:=by omega
  go_in;go_wp2;go_ret;exact⟨z,z⟩
 .rw[dv j];have A:¬ (0:Int)<=n-1:=by omega
  go_in;go_wp2;go_ret;exact⟨z,z⟩
theorem qJ(D:Rd w b s k v0 v1)(H:jV w g n)(a9:b≠g)(h1:1<=n)(h2:n<=2)(hk:k+n<=s.size)(hs:s.size<=4294967296):
  Calls prog 61 #[Pt b,.func (.func 168) #[] #[Pt g]] w fun e w'=>e= .returned (.string (s.extract k (k+n)))/\Rd w' b s (k+n) v0 v1/\Kp w w' b g:=by
 have b3:=D.c3;go_in;go_wp2;clear b3;go_loopg [] n (fun x wr=>∃i:Nat,i<=n/\x=n-i/\Rd wr b s (k+i) v0 v1/\jV wr g ((n:Int)-i)/\Kp w wr b g);case atStart=>exact⟨0,Nat.zero_le _,z,D,by simpa using H,Kp.refl _ _ _⟩
 case round=>
  clear D H;obtain⟨i,hi,rfl,D,H,F⟩:=hrel;have b2:=D.c2;have b3:=D.c3;let ⟨j,Q⟩:=eX (k+i)
  rw[Q]at b3 D;have HJ:=O Q;by_cases b8:j<s.size
  .have hz:(j:Int)< (s.size:Int):=by omega
   have b5:=bI b8;obtain⟨c,hc⟩:=eX (aO s j);have HC:=O hc;rw[hc]at b5;have cl:=nX H (by omega) (by omega) c;clear hc Q;go_wp2;go_still_tail 21,(by kernel_rfl);change wpList _ _ _ _ _ wr.drew;have J:Rd wr.drew b s j v0 v1:=D;have Y:jV wr.drew g ((n:Int)-i):=H;have E:Kp w wr.drew b g:=F.drew;clear D H F b2 b3 cl;generalize wr.drew=G at *;go_wp2_with fail;apply (nX Y (by omega) (by omega) c).mono;rintro e w2 ⟨rfl,rfl⟩;have C:Rd (G.setCell (ad g 0) (I ((n:Int)-i-1))) b s j v0 v1:=J.of (FK G (ad g 0) _ b a9);have a1:=Y.set ((n:Int)-i-1);have A:Kp w (G.setCell (ad g 0) (I ((n:Int)-i-1))) b g:=E.DY 0 _;clear J Y E;generalize G.setCell (ad g 0) (I ((n:Int)-i-1))=W at *;have b2:=C.c2;have b3:=C.c3
   by_cases d0:i<n
   .have hd:decide (1<=(n:Int)-i)=true:=eP (by omega);rw[hd];clear hd;let ⟨r,hr⟩:=eX (((c.toNat:Int)==10))
    have a3:=O hr;go_wp2;go_quiet (fail);have Z:∀n,Rd (W.drewN n) b s j v0 v1:=fun _=>C;have a5:∀m,jV (W.drewN m) g ((n:Int)-i-1):=fun _=>a1;have a4:∀n,Kp w (W.drewN n) b g:=fun n=>⟨A.os,A.tape,A.output,A.size,A.block⟩;clear b2 b3 hr A;have b4:=dQ s j;have b0:=C.c0;have b1:=C.c1;have b3:=C.c3;have f0:=C.frozen 0;have f1:=C.frozen 1;have f3:=C.frozen 3;have X:=fun n=> (Z n).line;have a0:=fun n=> (Z n).Dm;have a8:=O a4;have a2:=O a5;clear a4 a5 a1;let ⟨l,hl⟩:=eX ((ao s j).1)
    let ⟨m,hm⟩:=eX ((ao s j).2)
    rw[hl]at X b0 b4;rw[hm]at a0 b1 b4;have b9:=O X;have b7:=O a0;clear hl hm X a0 C Z;have a7:k+(i+1)=j+1:=by have:=HJ.o;omega
    have a6:=O a7;clear a7;have N:g≠b:=fun e=>a9 e.symm;cases r
    .have K:aO s j≠10:=by rw[HC.o];intro h;have R:=a3.o;rw[h]at R;simp at R
     have V:=O K;clear K;go_wp2;go_roundg (n- (i+1));case measure=>omega
     case rel=>
      refine⟨i+1,by omega,z,?_,?_,((a8 _).Dg 1 _).Dg 3 _⟩
      .rw[a6.o];exact b7 _ V
      .rw[show (n:Int)- ((i+1:Nat):Int)=(n:Int)-i-1 by omega];exact((a2 _).other N 1 _).other N 3 _
    .have K:aO s j=10:=by
      rw[HC.o];have R:=a3.o;rw[beq_iff_eq]at R;have c9:c.toNat=10:=by omega
      exact UInt8.toNat_inj.1 (by simpa using c9)
     have V:=O K;clear K;go_wp2;go_roundg (n- (i+1));case measure=>omega
     case rel=>
      refine⟨i+1,by omega,z,?_,?_,(((a8 _).Dg 0 _).Dg 1 _).Dg 3 _⟩
      .rw[a6.o];exact b9 _ V
      .rw[show (n:Int)- ((i+1:Nat):Int)=(n:Int)-i-1 by omega];exact(((a2 _).other N 0 _).other N 1 _).other N 3 _
   .have hd:decide (1<=(n:Int)-i)=false:=dv (by omega);rw[hd];clear hd;have M:k+n=j:=by have:=HJ.o;omega
    have U:=O M;have b6:(k:Int)<=(j:Int):=by omega
    have d1:(j:Int)<=(s.size:Int):=by omega
    clear M;go_wp2;go_quiet (fail);go_wp2;go_ret;rw[U.o];exact⟨z,C,⟨A.os,A.tape,A.output,A.size,A.block⟩⟩
  .have M:k+n=s.size:=by omega
   have c8:j=s.size:=by omega
   subst c8;have U:=O M;have b6:(k:Int)<=(s.size:Int):=by omega
   clear Q M;have hd:decide ((s.size:Int)< (s.size:Int))=false:=by simp
   go_wp2;go_quiet (fail);rename_i nq;let ⟨G,S⟩:=eX (wr.drewN nq)
   have J:Rd G b s s.size v0 v1:=S▸D;have E:Kp w G b g:=by rw[<-S];exact⟨F.os,F.tape,F.output,F.size,F.block⟩
   rw[S];clear S D F b2 b3;have b2:=J.c2;have b3:=J.c3;go_wp2;go_quiet (fail);go_wp2;go_ret;rw[U.o];exact⟨z,J,⟨E.os,E.tape,E.output,E.size,E.block⟩⟩
theorem qt{j:List ByteArray}(h:W.ownsMap prog 9 (GO prog 3) g 20 (jx j 20))(t:ByteArray)(C:t.size<=maxLen):
  (Instr.lookup 148 (.map (some g)) (.string t) false).run prog W= .ok (I (dt j t.data.toList 20)) W:=by
 let ⟨c,D,w,_⟩:=h.lookup_int Ci underlying148 underlying3 (xx _) (Go.WideMaps.keyOf_string_mk underlying9 (s:=t) C)
 rw[sY]at w;have A:dt j t.data.toList 20=c:=by simpa using w
 rw[A];exact D
def dl(s:ByteArray)(k:Nat):Nat->Nat
 |0=>0
 |m+1=>if hl (s.extract k (k+(m+1))).data.toList then m+1 else dl s k m
theorem mE(s:ByteArray)(k m:Nat):dl s k m<=m:=by
 induction m with
 |zero=>exact rl
 |succ m g=>
  unfold dl;split
  .exact rl
  .omega
theorem py(s:ByteArray)(k j:Nat)(h:s.size<=maxLen):(s.extract k j).size<=maxLen:=by rw[ByteArray.size_extract];omega
theorem mO(s:ByteArray)(k:Nat):s.extract k (k+0)=⟨#[]⟩:=by apply ByteArray.ext;simp
theorem sg(A:Rd w b s k v0 (.map (some g)))(G:w.ownsMap prog 9 (GO prog 3) g 20 (jx kz 20))(_:g≠b)(hk:k<s.size)(hs:s.size<=4294967296):
  Calls prog 143 #[Pt b] w fun e w'=>∃n,n=dl s k (min 2 (s.size-k))/\e= .returned (.string (s.extract k (k+n)))/\Rd w' b s (k+n) v0 (.map (some g))/\Kp w w' b b:=by
 have b2:=A.c2;have b3:=A.c3;let ⟨M,hM⟩:=eX (min 2 (s.size-k))
 have b6:(if (s.size:Int)- (k:Int)<2 then (s.size:Int)- (k:Int) else 2)=(M:Int):=by split<;>omega
 have a5:=O b6;clear b6;have d7:1<=M/\M<=2/\k+M<=s.size:=by omega
 rw[hM];let ⟨E,V⟩:=eX (dl s k M)
 rw[V];have HE:=O V;clear V hM;go_in;go_wp2;go_quiet (fail);rename_i nq;rw[a5.o];let ⟨Z,J⟩:=eX (w.drewN nq)
 have a7:Rd Z b s k v0 (.map (some g)):=J▸A;have a8:Kp w Z b b:=by rw[<-J];exact⟨z,z,z,rl,fun _ _ _ _=>z⟩
 have a1:Z.ownsMap prog 9 (GO prog 3) g 20 (jx kz 20):=J▸G;rw[J];clear J A G b2 b3 a5;go_wp2;go_loopg [3] M (fun x sl wr=>∃m:Nat,m<=2/\k+m<=s.size/\x=m/\sl=I m/\Rd wr b s k v0 (.map (some g))/\wr.ownsMap prog 9 (GO prog 3) g 20 (jx kz 20)/\Kp w wr b b/\Hid (dl s k m=E));case atStart=>exact⟨M,by omega,by omega,z,z,a7,a1,a8,HE⟩
 case round=>
  clear a7 a1 a8;obtain⟨m,d9,d0,a9,rfl,A,G,F,HJ⟩:=hrel;have d4:=O a9;clear a9;have b2:=A.c2;have b3:=A.c3;have b5:=A.c5;by_cases e0:0<m
  .have i1:(0:Int)< (m:Int):=by omega
   let ⟨Q,U⟩:=eX (k+m)
   have R:dl s k m=if hl (s.extract k (k+m)).data.toList then m else dl s k (m-1):=by obtain⟨m',rfl⟩:∃m',m=m'+1:=⟨m-1,by omega⟩;rfl
   rw[U]at R;let ⟨t,X⟩:=eX (s.extract k Q)
   rw[X]at R;have a3:∀n,(Instr.lookup 148 (.map (some g)) (.string t) false).run prog (wr.drewN n)= .ok (I (dt kz t.data.toList 20)) (wr.drewN n):=fun n=>by apply qt (W:=wr.drewN n) G t;rw[<-X];exact py _ _ _ (FU hs (by decide))
   have Y:(if hl t.data.toList then m else dl s k (m-1))=E:=by rw[<-HJ.o,R]
   clear R;have a0:=zH t.data.toList;let ⟨c,hc⟩:=eX (dt kz t.data.toList 20)
   rw[hc]at a3 a0;let ⟨q,hq⟩:=eX (hl t.data.toList)
   rw[hq]at a0 Y;have a2:=O Y;have HT:=O X;clear hc hq Y;have w1:IntKind.i64.wrap ((k:Int)+(m:Int))=(Q:Int):=by rw[IntWalk.i64_in _ (by omega)];omega
   have c8:(Q:Int)<=(s.size:Int):=by omega
   have d5:(k:Int)<=(Q:Int):=by omega
   have e2:=O U;clear U;go_wp2;go_quiet (fail);rename_i nq;let ⟨C,K⟩:=eX (wr.drewN nq)
   have S:Rd C b s k v0 (.map (some g)):=K▸A;have D:Kp w C b b:=by rw[<-K];exact⟨F.os,F.tape,F.output,F.size,F.block⟩
   have d6:C.ownsMap prog 9 (GO prog 3) g 20 (jx kz 20):=K▸G;rw[K];clear K A F G b2 b3 b5 a3 w1 c8 d5;cases q
   .have d1:=O (show dl s k (m-1)=E by have h:=a2.o;simpa using h);go_wp2;go_roundg (m-1);case measure=>have:=d4.o;omega
    case rel=>
     have e:((m-1:Nat):Int)=(m:Int)-1:=by omega
     exact⟨m-1,by omega,by omega,z,by rw[e],S,d6,D,d1⟩
   .have b4:m=E:=by have h:=a2.o;simpa using h
    have d3:=O b4;clear b4;have b8:jV (C.alloc (.cells #[I m] 3)) C.1.size m:=World.alloc_heap_new _ _;have b7:=S.alloc (.cells #[I m] 3);have e1:=S.lt;have H:bL C (C.alloc (.cells #[I m] 3)):=(Below.refl _ _).alloc rl _;go_wp2_with fail;change Calls _ _ _ (C.alloc (.cells #[I m] 3)) _;generalize C.alloc (.cells #[I m] 3)=W2 at *;apply (qJ b7 b8 (by omega) (by omega) (by omega) d0 hs).mono;rintro e w3 ⟨rfl,c9,N⟩;have d2:Kp w w3 b b:=⟨N.os.trans (H.os.trans D.os),N.tape.trans (H.tape.trans D.tape),N.output.trans (H.output.trans D.output),FU D.size (FU H.size N.size),fun j hj h1 h2=>by have a6:=FJ hj D.size;exact(N.block j (FJ a6 H.size) h1 (by omega)).trans ((H.block j a6).trans (D.block j hj h1 h2))⟩
    go_wp2;go_ret;exact⟨m,d3,z,c9,d2⟩
  .obtain rfl:m=0:=by omega
   have a4:E=0:=by rw[<-HJ.o];rfl
   have b9:=O a4;clear a4;go_wp2;go_ret;refine⟨0,b9.symm,?_,A,F⟩;rw[mO];rfl
end Go.Proofs.YtgppcdfgdaggjaaGreatDoor
