/- Texts laid together. No condition but what each law says. -/
import Derived.Test.YtgppcdfgdaggjaaGreatDoorN02
import Derived.Deep.LoopGhost
set_option maxRecDepth 100000
set_option maxHeartbeats 8000000
namespace Go.Proofs.YtgppcdfgdaggjaaGreatDoor
open Go.RowKit Go.Proofs.Tryz
open Go renaming Value→Fr,World→Fk,Calls→Jq
open Go.Calls renaming quiet_of_same→HL
open UInt8 renaming toNat_inj→Ht
open Go.World renaming alloc_heap_new→Df
variable {w:Fk}{b k:Nat}{s:ByteArray}{v0 v1:Fr}
def oJ(f:UInt8->Bool)(w:Fk)(b:Nat)(s:ByteArray)(k:Nat)(kw sg:Fr)(e:Ending)(w':Fk):Prop:=
 e= .returned (.string (s.extract k (ae f s k)))/\Rd w' b s (ae f s k) kw sg/\Kp w w' b b
def ht(_:UInt8):Bool:=true
theorem wu(F:Rd w b s k v0 v1)(hk:k<=s.size)(hs:s.size<=4294967296):
  Jq prog 61 #[Pt b,.func (.func 137) #[] #[]] w (oJ ct w b s k v0 v1):=by
 have b3:=F.c3;obtain⟨E,Z⟩:=eX (ae ct s k);have V:=O Z;have b5:=cH (f:=ct) hk;rw[Z]at b5;clear Z;go_in;go_wp2;clear b3;go_loopg [] (s.size-k) (fun g wr=>∃j:Nat,k<=j/\j<=s.size/\g=s.size-j/\Rd wr b s j v0 v1/\Hid (ae ct s j=E)/\Kp w wr b b);case atStart=>exact⟨k,rl,hk,z,F,V,Kp.refl _ _ _⟩
 case round=>
  clear F;obtain⟨j,b9,hj,rfl,F,Q,D⟩:=hrel;have b2:=F.c2;have b3:=F.c3;by_cases Y:j<s.size
  .have hz:(j:Int)< (s.size:Int):=by omega
   have b6:=bI Y;let ⟨c,R⟩:=eX (aO s j)
   have M:=O R;rw[R]at b6;clear R;let ⟨q,U⟩:=eX (ct c)
   have HF:=O U;have cq:∀W,Jq prog 137 #[.int .u8 (c.toNat:Int)] W fun e w'=>e= .returned (.bool q)/\w'=W:=fun W=> (qD c W).mono fun e w' h=>⟨by rw[h.1];rw[U],h.2.symm⟩;clear U;go_wp2;go_quiet ((go_at_call 137;exact HL (cq _)));rename_i nq;let ⟨J,G⟩:=eX (wr.drewN nq)
   have C:Rd J b s j v0 v1:=G▸F;have A:Kp w J b b:=by rw[<-G];exact⟨D.os,D.tape,D.output,D.size,D.block⟩
   rw[G];clear G F D b2 b3 cq;have b2:=C.c2;have b3:=C.c3;cases q
   .have H:ae ct s j=j:=dk Y (by rw[M.o];exact HF);obtain rfl:E=j:=by rw[<-Q.o,H]
    clear H;have b4:(k:Int)<=(E:Int):=by omega
    have c8:(E:Int)<=(s.size:Int):=by omega
    go_wp2;go_quiet (fail);go_wp2;go_ret;unfold oJ;rw[V.o];exact⟨z,C,⟨A.os,A.tape,A.output,A.size,A.block⟩⟩
   .have H:ae ct s (j+1)=E:=by rw[<-Q.o];exact cu Y (by rw[M.o];exact HF)
    have a2:=O H;clear H;let ⟨r,hr⟩:=eX (((c.toNat:Int)==10))
    have a3:=O hr;go_wp2;go_quiet (fail);have a1:∀n,Rd (J.drewN n) b s j v0 v1:=fun n=>C;have a7:∀n,Kp w (J.drewN n) b b:=fun n=>⟨A.os,A.tape,A.output,A.size,A.block⟩;clear b2 b3 hr A;have a5:=dQ s j;have b0:=C.c0;have b1:=C.c1;have b3:=C.c3;have f0:=C.frozen;have S:=fun n=> (a1 n).line;have a0:=fun n=> (a1 n).Dm;have a4:=O a7;clear a7;let ⟨l,hl⟩:=eX ((ao s j).1)
    let ⟨m,hm⟩:=eX ((ao s j).2)
    rw[hl]at S b0 a5;rw[hm]at a0 b1 a5;have b7:=O S;have a8:=O a0;clear hl hm S a0 a1 C;cases r
    .have N:aO s j≠10:=by rw[M.o];intro h;have K:=a3.o;rw[h]at K;simp at K
     have X:=O N;go_wp2;go_roundg (s.size- (j+1));case measure=>omega
     case rel=>exact⟨j+1,by omega,by omega,z,a8 _ X,a2,((a4 _).Dg 1 _).Dg 3 _⟩
    .have N:aO s j=10:=by
      rw[M.o];have K:=a3.o;rw[beq_iff_eq]at K;have a9:c.toNat=10:=by omega
      exact Ht.1 (by simpa using a9)
     have X:=O N;go_wp2;go_roundg (s.size- (j+1));case measure=>omega
     case rel=>exact⟨j+1,by omega,by omega,z,b7 _ X,a2,(((a4 _).Dg 0 _).Dg 1 _).Dg 3 _⟩
  .obtain rfl:j=s.size:=by omega
   have H:ae ct s s.size=s.size:=cX rl;have a6:E=s.size:=by rw[<-Q.o,H]
   have b8:=O a6;clear H a6;have b4:(k:Int)<=(s.size:Int):=by omega
   have hd:decide ((s.size:Int)< (s.size:Int))=false:=by simp
   go_wp2;go_quiet (fail);rename_i nq;let ⟨J,G⟩:=eX (wr.drewN nq)
   have C:Rd J b s s.size v0 v1:=G▸F;have A:Kp w J b b:=by rw[<-G];exact⟨D.os,D.tape,D.output,D.size,D.block⟩
   rw[G];clear G F D b2 b3;have b2:=C.c2;have b3:=C.c3;go_wp2;go_quiet (fail);go_wp2;go_ret;unfold oJ;rw[V.o,b8.o];exact⟨z,C,⟨A.os,A.tape,A.output,A.size,A.block⟩⟩
theorem rk(F:Rd w b s k v0 v1)(hk:k<=s.size)(hs:s.size<=4294967296):
  Jq prog 61 #[Pt b,.func (.func 138) #[] #[]] w (oJ bu w b s k v0 v1):=by
 have b3:=F.c3;obtain⟨E,Z⟩:=eX (ae bu s k);have V:=O Z;have b5:=cH (f:=bu) hk;rw[Z]at b5;clear Z;go_in;go_wp2;clear b3;go_loopg [] (s.size-k) (fun g wr=>∃j:Nat,k<=j/\j<=s.size/\g=s.size-j/\Rd wr b s j v0 v1/\Hid (ae bu s j=E)/\Kp w wr b b);case atStart=>exact⟨k,rl,hk,z,F,V,Kp.refl _ _ _⟩
 case round=>
  clear F;obtain⟨j,b9,hj,rfl,F,Q,D⟩:=hrel;have b2:=F.c2;have b3:=F.c3;by_cases Y:j<s.size
  .have hz:(j:Int)< (s.size:Int):=by omega
   have b6:=bI Y;let ⟨c,R⟩:=eX (aO s j)
   have M:=O R;rw[R]at b6;clear R;let ⟨q,U⟩:=eX (bu c)
   have HF:=O U;have cq:∀W,Jq prog 138 #[.int .u8 (c.toNat:Int)] W fun e w'=>e= .returned (.bool q)/\w'=W:=fun W=> (sG c W).mono fun e w' h=>⟨by rw[h.1];rw[U],h.2.symm⟩;clear U;go_wp2;go_quiet ((go_at_call 138;exact HL (cq _)));rename_i nq;let ⟨J,G⟩:=eX (wr.drewN nq)
   have C:Rd J b s j v0 v1:=G▸F;have A:Kp w J b b:=by rw[<-G];exact⟨D.os,D.tape,D.output,D.size,D.block⟩
   rw[G];clear G F D b2 b3 cq;have b2:=C.c2;have b3:=C.c3;cases q
   .have H:ae bu s j=j:=dk Y (by rw[M.o];exact HF);obtain rfl:E=j:=by rw[<-Q.o,H]
    clear H;have b4:(k:Int)<=(E:Int):=by omega
    have c8:(E:Int)<=(s.size:Int):=by omega
    go_wp2;go_quiet (fail);go_wp2;go_ret;unfold oJ;rw[V.o];exact⟨z,C,⟨A.os,A.tape,A.output,A.size,A.block⟩⟩
   .have H:ae bu s (j+1)=E:=by rw[<-Q.o];exact cu Y (by rw[M.o];exact HF)
    have a2:=O H;clear H;let ⟨r,hr⟩:=eX (((c.toNat:Int)==10))
    have a3:=O hr;go_wp2;go_quiet (fail);have a1:∀n,Rd (J.drewN n) b s j v0 v1:=fun n=>C;have a7:∀n,Kp w (J.drewN n) b b:=fun n=>⟨A.os,A.tape,A.output,A.size,A.block⟩;clear b2 b3 hr A;have a5:=dQ s j;have b0:=C.c0;have b1:=C.c1;have b3:=C.c3;have f0:=C.frozen;have S:=fun n=> (a1 n).line;have a0:=fun n=> (a1 n).Dm;have a4:=O a7;clear a7;let ⟨l,hl⟩:=eX ((ao s j).1)
    let ⟨m,hm⟩:=eX ((ao s j).2)
    rw[hl]at S b0 a5;rw[hm]at a0 b1 a5;have b7:=O S;have a8:=O a0;clear hl hm S a0 a1 C;cases r
    .have N:aO s j≠10:=by rw[M.o];intro h;have K:=a3.o;rw[h]at K;simp at K
     have X:=O N;go_wp2;go_roundg (s.size- (j+1));case measure=>omega
     case rel=>exact⟨j+1,by omega,by omega,z,a8 _ X,a2,((a4 _).Dg 1 _).Dg 3 _⟩
    .have N:aO s j=10:=by
      rw[M.o];have K:=a3.o;rw[beq_iff_eq]at K;have a9:c.toNat=10:=by omega
      exact Ht.1 (by simpa using a9)
     have X:=O N;go_wp2;go_roundg (s.size- (j+1));case measure=>omega
     case rel=>exact⟨j+1,by omega,by omega,z,b7 _ X,a2,(((a4 _).Dg 0 _).Dg 1 _).Dg 3 _⟩
  .obtain rfl:j=s.size:=by omega
   have H:ae bu s s.size=s.size:=cX rl;have a6:E=s.size:=by rw[<-Q.o,H]
   have b8:=O a6;clear H a6;have b4:(k:Int)<=(s.size:Int):=by omega
   have hd:decide ((s.size:Int)< (s.size:Int))=false:=by simp
   go_wp2;go_quiet (fail);rename_i nq;let ⟨J,G⟩:=eX (wr.drewN nq)
   have C:Rd J b s s.size v0 v1:=G▸F;have A:Kp w J b b:=by rw[<-G];exact⟨D.os,D.tape,D.output,D.size,D.block⟩
   rw[G];clear G F D b2 b3;have b2:=C.c2;have b3:=C.c3;go_wp2;go_quiet (fail);go_wp2;go_ret;unfold oJ;rw[V.o,b8.o];exact⟨z,C,⟨A.os,A.tape,A.output,A.size,A.block⟩⟩
theorem rf(F:Rd w b s k v0 v1)(hk:k<=s.size)(hs:s.size<=4294967296):
  Jq prog 61 #[Pt b,.func (.func 140) #[] #[]] w (oJ aH w b s k v0 v1):=by
 have b3:=F.c3;obtain⟨E,Z⟩:=eX (ae aH s k);have V:=O Z;have b5:=cH (f:=aH) hk;rw[Z]at b5;clear Z;go_in;go_wp2;clear b3;go_loopg [] (s.size-k) (fun g wr=>∃j:Nat,k<=j/\j<=s.size/\g=s.size-j/\Rd wr b s j v0 v1/\Hid (ae aH s j=E)/\Kp w wr b b);case atStart=>exact⟨k,rl,hk,z,F,V,Kp.refl _ _ _⟩
 case round=>
  clear F;obtain⟨j,b9,hj,rfl,F,Q,D⟩:=hrel;have b2:=F.c2;have b3:=F.c3;by_cases Y:j<s.size
  .have hz:(j:Int)< (s.size:Int):=by omega
   have b6:=bI Y;let ⟨c,R⟩:=eX (aO s j)
   have M:=O R;rw[R]at b6;clear R;let ⟨q,U⟩:=eX (aH c)
   have HF:=O U;have cq:∀W,Jq prog 140 #[.int .u8 (c.toNat:Int)] W fun e w'=>e= .returned (.bool q)/\w'=W:=fun W=> (uR c W).mono fun e w' h=>⟨by rw[h.1];rw[U],h.2.symm⟩;clear U;go_wp2;go_quiet ((go_at_call 140;exact HL (cq _)));rename_i nq;let ⟨J,G⟩:=eX (wr.drewN nq)
   have C:Rd J b s j v0 v1:=G▸F;have A:Kp w J b b:=by rw[<-G];exact⟨D.os,D.tape,D.output,D.size,D.block⟩
   rw[G];clear G F D b2 b3 cq;have b2:=C.c2;have b3:=C.c3;cases q
   .have H:ae aH s j=j:=dk Y (by rw[M.o];exact HF);obtain rfl:E=j:=by rw[<-Q.o,H]
    clear H;have b4:(k:Int)<=(E:Int):=by omega
    have c8:(E:Int)<=(s.size:Int):=by omega
    go_wp2;go_quiet (fail);go_wp2;go_ret;unfold oJ;rw[V.o];exact⟨z,C,⟨A.os,A.tape,A.output,A.size,A.block⟩⟩
   .have H:ae aH s (j+1)=E:=by rw[<-Q.o];exact cu Y (by rw[M.o];exact HF)
    have a2:=O H;clear H;let ⟨r,hr⟩:=eX (((c.toNat:Int)==10))
    have a3:=O hr;go_wp2;go_quiet (fail);have a1:∀n,Rd (J.drewN n) b s j v0 v1:=fun n=>C;have a7:∀n,Kp w (J.drewN n) b b:=fun n=>⟨A.os,A.tape,A.output,A.size,A.block⟩;clear b2 b3 hr A;have a5:=dQ s j;have b0:=C.c0;have b1:=C.c1;have b3:=C.c3;have f0:=C.frozen;have S:=fun n=> (a1 n).line;have a0:=fun n=> (a1 n).Dm;have a4:=O a7;clear a7;let ⟨l,hl⟩:=eX ((ao s j).1)
    let ⟨m,hm⟩:=eX ((ao s j).2)
    rw[hl]at S b0 a5;rw[hm]at a0 b1 a5;have b7:=O S;have a8:=O a0;clear hl hm S a0 a1 C;cases r
    .have N:aO s j≠10:=by rw[M.o];intro h;have K:=a3.o;rw[h]at K;simp at K
     have X:=O N;go_wp2;go_roundg (s.size- (j+1));case measure=>omega
     case rel=>exact⟨j+1,by omega,by omega,z,a8 _ X,a2,((a4 _).Dg 1 _).Dg 3 _⟩
    .have N:aO s j=10:=by
      rw[M.o];have K:=a3.o;rw[beq_iff_eq]at K;have a9:c.toNat=10:=by omega
      exact Ht.1 (by simpa using a9)
     have X:=O N;go_wp2;go_roundg (s.size- (j+1));case measure=>omega
     case rel=>exact⟨j+1,by omega,by omega,z,b7 _ X,a2,(((a4 _).Dg 0 _).Dg 1 _).Dg 3 _⟩
  .obtain rfl:j=s.size:=by omega
   have H:ae aH s s.size=s.size:=cX rl;have a6:E=s.size:=by rw[<-Q.o,H]
   have b8:=O a6;clear H a6;have b4:(k:Int)<=(s.size:Int):=by omega
   have hd:decide ((s.size:Int)< (s.size:Int))=false:=by simp
   go_wp2;go_quiet (fail);rename_i nq;let ⟨J,G⟩:=eX (wr.drewN nq)
   have C:Rd J b s s.size v0 v1:=G▸F;have A:Kp w J b b:=by rw[<-G];exact⟨D.os,D.tape,D.output,D.size,D.block⟩
   rw[G];clear G F D b2 b3;have b2:=C.c2;have b3:=C.c3;go_wp2;go_quiet (fail);go_wp2;go_ret;unfold oJ;rw[V.o,b8.o];exact⟨z,C,⟨A.os,A.tape,A.output,A.size,A.block⟩⟩
theorem uu(F:Rd w b s k v0 v1)(hk:k<=s.size)(hs:s.size<=4294967296):
  Jq prog 61 #[Pt b,.func (.func 141) #[] #[]] w (oJ aK w b s k v0 v1):=by
 have b3:=F.c3;obtain⟨E,Z⟩:=eX (ae aK s k);have V:=O Z;have b5:=cH (f:=aK) hk;rw[Z]at b5;clear Z;go_in;go_wp2;clear b3;go_loopg [] (s.size-k) (fun g wr=>∃j:Nat,k<=j/\j<=s.size/\g=s.size-j/\Rd wr b s j v0 v1/\Hid (ae aK s j=E)/\Kp w wr b b);case atStart=>exact⟨k,rl,hk,z,F,V,Kp.refl _ _ _⟩
 case round=>
  clear F;obtain⟨j,b9,hj,rfl,F,Q,D⟩:=hrel;have b2:=F.c2;have b3:=F.c3;by_cases Y:j<s.size
  .have hz:(j:Int)< (s.size:Int):=by omega
   have b6:=bI Y;let ⟨c,R⟩:=eX (aO s j)
   have M:=O R;rw[R]at b6;clear R;let ⟨q,U⟩:=eX (aK c)
   have HF:=O U;have cq:∀W,Jq prog 141 #[.int .u8 (c.toNat:Int)] W fun e w'=>e= .returned (.bool q)/\w'=W:=fun W=> (fE c W).mono fun e w' h=>⟨by rw[h.1];rw[U],h.2.symm⟩;clear U;go_wp2;go_quiet ((go_at_call 141;exact HL (cq _)));rename_i nq;let ⟨J,G⟩:=eX (wr.drewN nq)
   have C:Rd J b s j v0 v1:=G▸F;have A:Kp w J b b:=by rw[<-G];exact⟨D.os,D.tape,D.output,D.size,D.block⟩
   rw[G];clear G F D b2 b3 cq;have b2:=C.c2;have b3:=C.c3;cases q
   .have H:ae aK s j=j:=dk Y (by rw[M.o];exact HF);obtain rfl:E=j:=by rw[<-Q.o,H]
    clear H;have b4:(k:Int)<=(E:Int):=by omega
    have c8:(E:Int)<=(s.size:Int):=by omega
    go_wp2;go_quiet (fail);go_wp2;go_ret;unfold oJ;rw[V.o];exact⟨z,C,⟨A.os,A.tape,A.output,A.size,A.block⟩⟩
   .have H:ae aK s (j+1)=E:=by rw[<-Q.o];exact cu Y (by rw[M.o];exact HF)
    have a2:=O H;clear H;let ⟨r,hr⟩:=eX (((c.toNat:Int)==10))
    have a3:=O hr;go_wp2;go_quiet (fail);have a1:∀n,Rd (J.drewN n) b s j v0 v1:=fun n=>C;have a7:∀n,Kp w (J.drewN n) b b:=fun n=>⟨A.os,A.tape,A.output,A.size,A.block⟩;clear b2 b3 hr A;have a5:=dQ s j;have b0:=C.c0;have b1:=C.c1;have b3:=C.c3;have f0:=C.frozen;have S:=fun n=> (a1 n).line;have a0:=fun n=> (a1 n).Dm;have a4:=O a7;clear a7;let ⟨l,hl⟩:=eX ((ao s j).1)
    let ⟨m,hm⟩:=eX ((ao s j).2)
    rw[hl]at S b0 a5;rw[hm]at a0 b1 a5;have b7:=O S;have a8:=O a0;clear hl hm S a0 a1 C;cases r
    .have N:aO s j≠10:=by rw[M.o];intro h;have K:=a3.o;rw[h]at K;simp at K
     have X:=O N;go_wp2;go_roundg (s.size- (j+1));case measure=>omega
     case rel=>exact⟨j+1,by omega,by omega,z,a8 _ X,a2,((a4 _).Dg 1 _).Dg 3 _⟩
    .have N:aO s j=10:=by
      rw[M.o];have K:=a3.o;rw[beq_iff_eq]at K;have a9:c.toNat=10:=by omega
      exact Ht.1 (by simpa using a9)
     have X:=O N;go_wp2;go_roundg (s.size- (j+1));case measure=>omega
     case rel=>exact⟨j+1,by omega,by omega,z,b7 _ X,a2,(((a4 _).Dg 0 _).Dg 1 _).Dg 3 _⟩
  .obtain rfl:j=s.size:=by omega
   have H:ae aK s s.size=s.size:=cX rl;have a6:E=s.size:=by rw[<-Q.o,H]
   have b8:=O a6;clear H a6;have b4:(k:Int)<=(s.size:Int):=by omega
   have hd:decide ((s.size:Int)< (s.size:Int))=false:=by simp
   go_wp2;go_quiet (fail);rename_i nq;let ⟨J,G⟩:=eX (wr.drewN nq)
   have C:Rd J b s s.size v0 v1:=G▸F;have A:Kp w J b b:=by rw[<-G];exact⟨D.os,D.tape,D.output,D.size,D.block⟩
   rw[G];clear G F D b2 b3;have b2:=C.c2;have b3:=C.c3;go_wp2;go_quiet (fail);go_wp2;go_ret;unfold oJ;rw[V.o,b8.o];exact⟨z,C,⟨A.os,A.tape,A.output,A.size,A.block⟩⟩
theorem ug(F:Rd w b s k v0 v1)(hk:k<=s.size)(hs:s.size<=4294967296):
  Jq prog 61 #[Pt b,.func (.func 62) #[] #[]] w (oJ ht w b s k v0 v1):=by
 have b3:=F.c3;obtain⟨E,Z⟩:=eX (ae ht s k);have V:=O Z;have b5:=cH (f:=ht) hk;rw[Z]at b5;clear Z;go_in;go_wp2;clear b3;go_loopg [] (s.size-k) (fun g wr=>∃j:Nat,k<=j/\j<=s.size/\g=s.size-j/\Rd wr b s j v0 v1/\Hid (ae ht s j=E)/\Kp w wr b b);case atStart=>exact⟨k,rl,hk,z,F,V,Kp.refl _ _ _⟩
 case round=>
  clear F;obtain⟨j,b9,hj,rfl,F,Q,D⟩:=hrel;have b2:=F.c2;have b3:=F.c3;by_cases Y:j<s.size
  .have hz:(j:Int)< (s.size:Int):=by omega
   have b6:=bI Y;let ⟨c,R⟩:=eX (aO s j)
   have M:=O R;rw[R]at b6;clear R;let ⟨q,U⟩:=eX (ht c)
   have HF:=O U;have cq:∀W,Jq prog 62 #[.int .u8 (c.toNat:Int)] W fun e w'=>e= .returned (.bool q)/\w'=W:=fun W=> (wU c W).mono fun e w' h=>⟨by rw[h.1];rw[<-U];rfl,h.2.symm⟩;clear U;go_wp2;go_quiet ((go_at_call 62;exact HL (cq _)));rename_i nq;let ⟨J,G⟩:=eX (wr.drewN nq)
   have C:Rd J b s j v0 v1:=G▸F;have A:Kp w J b b:=by rw[<-G];exact⟨D.os,D.tape,D.output,D.size,D.block⟩
   rw[G];clear G F D b2 b3 cq;have b2:=C.c2;have b3:=C.c3;cases q
   .have H:ae ht s j=j:=dk Y (by rw[M.o];exact HF);obtain rfl:E=j:=by rw[<-Q.o,H]
    clear H;have b4:(k:Int)<=(E:Int):=by omega
    have c8:(E:Int)<=(s.size:Int):=by omega
    go_wp2;go_quiet (fail);go_wp2;go_ret;unfold oJ;rw[V.o];exact⟨z,C,⟨A.os,A.tape,A.output,A.size,A.block⟩⟩
   .have H:ae ht s (j+1)=E:=by rw[<-Q.o];exact cu Y (by rw[M.o];exact HF)
    have a2:=O H;clear H;let ⟨r,hr⟩:=eX (((c.toNat:Int)==10))
    have a3:=O hr;go_wp2;go_quiet (fail);have a1:∀n,Rd (J.drewN n) b s j v0 v1:=fun n=>C;have a7:∀n,Kp w (J.drewN n) b b:=fun n=>⟨A.os,A.tape,A.output,A.size,A.block⟩;clear b2 b3 hr A;have a5:=dQ s j;have b0:=C.c0;have b1:=C.c1;have b3:=C.c3;have f0:=C.frozen;have S:=fun n=> (a1 n).line;have a0:=fun n=> (a1 n).Dm;have a4:=O a7;clear a7;let ⟨l,hl⟩:=eX ((ao s j).1)
    let ⟨m,hm⟩:=eX ((ao s j).2)
    rw[hl]at S b0 a5;rw[hm]at a0 b1 a5;have b7:=O S;have a8:=O a0;clear hl hm S a0 a1 C;cases r
    .have N:aO s j≠10:=by rw[M.o];intro h;have K:=a3.o;rw[h]at K;simp at K
     have X:=O N;go_wp2;go_roundg (s.size- (j+1));case measure=>omega
     case rel=>exact⟨j+1,by omega,by omega,z,a8 _ X,a2,((a4 _).Dg 1 _).Dg 3 _⟩
    .have N:aO s j=10:=by
      rw[M.o];have K:=a3.o;rw[beq_iff_eq]at K;have a9:c.toNat=10:=by omega
      exact Ht.1 (by simpa using a9)
     have X:=O N;go_wp2;go_roundg (s.size- (j+1));case measure=>omega
     case rel=>exact⟨j+1,by omega,by omega,z,b7 _ X,a2,(((a4 _).Dg 0 _).Dg 1 _).Dg 3 _⟩
  .obtain rfl:j=s.size:=by omega
   have H:ae ht s s.size=s.size:=cX rl;have a6:E=s.size:=by rw[<-Q.o,H]
   have b8:=O a6;clear H a6;have b4:(k:Int)<=(s.size:Int):=by omega
   have hd:decide ((s.size:Int)< (s.size:Int))=false:=by simp
   go_wp2;go_quiet (fail);rename_i nq;let ⟨J,G⟩:=eX (wr.drewN nq)
   have C:Rd J b s s.size v0 v1:=G▸F;have A:Kp w J b b:=by rw[<-G];exact⟨D.os,D.tape,D.output,D.size,D.block⟩
   rw[G];clear G F D b2 b3;have b2:=C.c2;have b3:=C.c3;go_wp2;go_quiet (fail);go_wp2;go_ret;unfold oJ;rw[V.o,b8.o];exact⟨z,C,⟨A.os,A.tape,A.output,A.size,A.block⟩⟩
theorem ra(s:ByteArray)(j:k<=s.size):ae ht s k=s.size:=by
 unfold ae;have h:(s.data.toList.drop k).takeWhile ht=s.data.toList.drop k:=by induction s.data.toList.drop k with
  |nil=>rfl
  |cons c l g=>rw[List.takeWhile_cons_of_pos rfl,g]
 rw[h,List.length_drop,ci];omega
theorem xo(s:ByteArray)(w:Fk)(F:s.size<=4294967296):
  Jq prog 30 #[.string s] w fun e w'=>e= .returned (.agg #[I (ao s s.size).1,I (ao s s.size).2])/\bL w w':=by
 have D:Ps ((w.alloc (.cells #[I 0,I 0] 32)).alloc (.cells #[I 1,I 1,.string s,I 0,.map none,.map none] 150)) w.1.size (0,0):=by have h:Ps (w.alloc (.cells #[I 0,I 0] 32)) w.1.size (0,0):=Df _ _;exact h.alloc _
 have C:bL w ((w.alloc (.cells #[I 0,I 0] 32)).alloc (.cells #[I 1,I 1,.string s,I 0,.map none,.map none] 150)):=((Below.refl _ w).alloc rl _).alloc (by simp) _;have E:Rd ((w.alloc (.cells #[I 0,I 0] 32)).alloc (.cells #[I 1,I 1,.string s,I 0,.map none,.map none] 150)) (w.1.size+1) s 0 (.map none) (.map none):=by have h:Rd ((w.alloc (.cells #[I 0,I 0] 32)).alloc (.cells #[I 1,I 1,.string s,I 0,.map none,.map none] 150)) (w.alloc (.cells #[I 0,I 0] 32)).1.size s 0 (.map none) (.map none):=Df _ _;rw[World.size_alloc]at h;exact h
 go_in;go_wp2_with fail;change Jq _ _ _ ((w.alloc (.cells #[I 0,I 0] 32)).alloc (.cells #[I 1,I 1,.string s,I 0,.map none,.map none] 150)) _;generalize (w.alloc (.cells #[I 0,I 0] 32)).alloc (.cells #[I 1,I 1,.string s,I 0,.map none,.map none] 150)=J at *;apply (ug E (Nat.zero_le _) F).mono;rintro e w1 ⟨rfl,j,A⟩;rw[ra s (Nat.zero_le _)]at j;have g:Ps w1 w.1.size (0,0):=(A.block _ D.lt (by omega) (by omega)).trans D;have G:=A.Dx C C.size (by omega) (by omega);clear D C A E;have H:=g.c0;have M:=g.c1;have g0:=g.frozen;have b0:=j.c0;have b1:=j.c1;go_wp2;refine mD ((g.set0 (ao s s.size).1).set1 (ao s s.size).2) z z z ?_;exact⟨z,(G.setCell (p:=(ad w.1.size 0)) rl _).setCell (p:=(ad w.1.size 1)) rl _⟩
end Go.Proofs.YtgppcdfgdaggjaaGreatDoor
