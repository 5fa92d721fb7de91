/- Texts laid together. No condition but what each law says. -/
import Derived.Test.YtgppcdfgdaggjaaGreatDoorR03
import Derived.Deep.LoopGhost
set_option maxRecDepth 100000
set_option maxHeartbeats 8000000
namespace Go.Proofs.YtgppcdfgdaggjaaGreatDoor
open Go.RowKit
variable {w:World}{b k:Nat}{s:ByteArray}{v0 v1:Value}
def Pas(f:UInt8->Bool)(w:World)(b:Nat)(s:ByteArray)(k:Nat)(kw sg:Value)(e:Ending)(w':World):Prop:=
 e= .returned (.string (s.extract k (endOf f s k)))/\Rd w' b s (endOf f s k) kw sg/\Kp w w' b b
def isAll(_:UInt8):Bool:=true
theorem pass_bl(F:Rd w b s k v0 v1)(hk:k<=s.size)(hs:s.size<=4294967296):
  Calls Tryz.prog 61 #[Pt b,.func (.func 137) #[] #[]] w (Pas isBl w b s k v0 v1):=by
 have b3:=F.c3;obtain⟨E,Z⟩:∃E,endOf isBl s k=E:=⟨_,z⟩;have V:=O Z;have b5:=endOf_le (f:=isBl) hk;rw[Z]at b5;clear Z;go_in;go_wp2;clear b3;go_loopg [] (s.size-k) (fun g wr=>∃j:Nat,k<=j/\j<=s.size/\g=s.size-j/\Rd wr b s j v0 v1/\Hid (endOf isBl s j=E)/\Kp w wr b b);case atStart=>exact⟨k,rl,hk,z,F,V,Kp.refl _ _ _⟩
 case round=>
  clear F;obtain⟨j,b9,hj,rfl,F,Q,D⟩:=hrel;have b2:=F.c2;have b3:=F.c3;by_cases Y:j<s.size
  .have hz:(j:Int)< (s.size:Int):=by omega
   have b6:=byte_at Y;obtain⟨c,R⟩:=eX (byte s j);have M:=O R;rw[R]at b6;clear R;obtain⟨q,U⟩:=eX (isBl c);have HF:=O U;have cq:∀W,Calls Tryz.prog 137 #[.int .u8 (c.toNat:Int)] W fun e w'=>e= .returned (.bool q)/\w'=W:=fun W=> (blank_any c W).mono fun e w' h=>⟨by rw[h.1];rw[U],h.2.symm⟩;clear U;go_wp2_with fail;go_quiet ((go_at_call 137;exact Calls.quiet_of_same (cq _)));rename_i nq;obtain⟨J,G⟩:=eX (wr.drewN nq);have C:Rd J b s j v0 v1:=G▸F;have A:Kp w J b b:=by rw[<-G];exact⟨D.os,D.tape,D.output,D.size,D.block⟩
   rw[G];clear G F D b2 b3 cq;have b2:=C.c2;have b3:=C.c3;cases q
   .have H:endOf isBl s j=j:=endOf_no Y (by rw[M.o];exact HF.o);obtain rfl:E=j:=by rw[<-Q.o,H]
    clear H;have b4:(k:Int)<=(E:Int):=by omega
    have c8:(E:Int)<=(s.size:Int):=by omega
    go_wp2;go_quiet (fail);go_wp2;go_ret;unfold Pas;rw[V.o];exact⟨z,C,⟨A.os,A.tape,A.output,A.size,A.block⟩⟩
   .have H:endOf isBl s (j+1)=E:=by rw[<-Q.o];exact endOf_yes Y (by rw[M.o];exact HF)
    have a2:=O H;clear H;obtain⟨r,hr⟩:=eX (((c.toNat:Int)==10));have a3:=O hr;go_wp2;go_quiet (fail);have a1:∀n,Rd (J.drewN n) b s j v0 v1:=fun n=>C;have a7:∀n,Kp w (J.drewN n) b b:=fun n=>⟨A.os,A.tape,A.output,A.size,A.block⟩;clear b2 b3 hr A;have a5:=posAt_le s j;have b0:=C.c0;have b1:=C.c1;have b3:=C.c3;have f0:=C.frozen;have S:=fun n=> (a1 n).line;have a0:=fun n=> (a1 n).col;have a4:=O a7;clear a7;obtain⟨l,hl⟩:=eX ((posAt s j).1);obtain⟨m,hm⟩:=eX ((posAt s j).2);rw[hl]at S b0 a5;rw[hm]at a0 b1 a5;have b7:=O S;have a8:=O a0;clear hl hm S a0 a1 C;cases r
    .have K:byte s j≠10:=by rw[M.o];intro h;have N:=a3.o;rw[h]at N;simp at N
     have X:=O K;go_wp2;go_roundg (s.size- (j+1));case measure=>omega
     case rel=>exact⟨j+1,by omega,by omega,z,a8 _ X,a2,((a4 _).setA 1 _).setA 3 _⟩
    .have K:byte s j=10:=by
      rw[M.o];have N:=a3.o;rw[beq_iff_eq]at N;have a9:c.toNat=10:=by omega
      exact UInt8.toNat_inj.1 (by simpa using a9)
     have X:=O K;go_wp2;go_roundg (s.size- (j+1));case measure=>omega
     case rel=>exact⟨j+1,by omega,by omega,z,b7 _ X,a2,(((a4 _).setA 0 _).setA 1 _).setA 3 _⟩
  .obtain rfl:j=s.size:=by omega
   have H:endOf isBl s s.size=s.size:=endOf_end rl;have a6:E=s.size:=by rw[<-Q.o,H]
   have b8:=O a6;clear H a6;have b4:(k:Int)<=(s.size:Int):=by omega
   have hd:decide ((s.size:Int)< (s.size:Int))=false:=by simp
   go_wp2;go_quiet (fail);rename_i nq;obtain⟨J,G⟩:=eX (wr.drewN nq);have C:Rd J b s s.size v0 v1:=G▸F;have A:Kp w J b b:=by rw[<-G];exact⟨D.os,D.tape,D.output,D.size,D.block⟩
   rw[G];clear G F D b2 b3;have b2:=C.c2;have b3:=C.c3;go_wp2;go_quiet (fail);go_wp2;go_ret;unfold Pas;rw[V.o,b8.o];exact⟨z,C,⟨A.os,A.tape,A.output,A.size,A.block⟩⟩
theorem pass_nonl(F:Rd w b s k v0 v1)(hk:k<=s.size)(hs:s.size<=4294967296):
  Calls Tryz.prog 61 #[Pt b,.func (.func 138) #[] #[]] w (Pas isNoNl w b s k v0 v1):=by
 have b3:=F.c3;obtain⟨E,Z⟩:∃E,endOf isNoNl s k=E:=⟨_,z⟩;have V:=O Z;have b5:=endOf_le (f:=isNoNl) hk;rw[Z]at b5;clear Z;go_in;go_wp2;clear b3;go_loopg [] (s.size-k) (fun g wr=>∃j:Nat,k<=j/\j<=s.size/\g=s.size-j/\Rd wr b s j v0 v1/\Hid (endOf isNoNl s j=E)/\Kp w wr b b);case atStart=>exact⟨k,rl,hk,z,F,V,Kp.refl _ _ _⟩
 case round=>
  clear F;obtain⟨j,b9,hj,rfl,F,Q,D⟩:=hrel;have b2:=F.c2;have b3:=F.c3;by_cases Y:j<s.size
  .have hz:(j:Int)< (s.size:Int):=by omega
   have b6:=byte_at Y;obtain⟨c,R⟩:=eX (byte s j);have M:=O R;rw[R]at b6;clear R;obtain⟨q,U⟩:=eX (isNoNl c);have HF:=O U;have cq:∀W,Calls Tryz.prog 138 #[.int .u8 (c.toNat:Int)] W fun e w'=>e= .returned (.bool q)/\w'=W:=fun W=> (nonl_any c W).mono fun e w' h=>⟨by rw[h.1];rw[U],h.2.symm⟩;clear U;go_wp2_with fail;go_quiet ((go_at_call 138;exact Calls.quiet_of_same (cq _)));rename_i nq;obtain⟨J,G⟩:=eX (wr.drewN nq);have C:Rd J b s j v0 v1:=G▸F;have A:Kp w J b b:=by rw[<-G];exact⟨D.os,D.tape,D.output,D.size,D.block⟩
   rw[G];clear G F D b2 b3 cq;have b2:=C.c2;have b3:=C.c3;cases q
   .have H:endOf isNoNl s j=j:=endOf_no Y (by rw[M.o];exact HF.o);obtain rfl:E=j:=by rw[<-Q.o,H]
    clear H;have b4:(k:Int)<=(E:Int):=by omega
    have c8:(E:Int)<=(s.size:Int):=by omega
    go_wp2;go_quiet (fail);go_wp2;go_ret;unfold Pas;rw[V.o];exact⟨z,C,⟨A.os,A.tape,A.output,A.size,A.block⟩⟩
   .have H:endOf isNoNl s (j+1)=E:=by rw[<-Q.o];exact endOf_yes Y (by rw[M.o];exact HF)
    have a2:=O H;clear H;obtain⟨r,hr⟩:=eX (((c.toNat:Int)==10));have a3:=O hr;go_wp2;go_quiet (fail);have a1:∀n,Rd (J.drewN n) b s j v0 v1:=fun n=>C;have a7:∀n,Kp w (J.drewN n) b b:=fun n=>⟨A.os,A.tape,A.output,A.size,A.block⟩;clear b2 b3 hr A;have a5:=posAt_le s j;have b0:=C.c0;have b1:=C.c1;have b3:=C.c3;have f0:=C.frozen;have S:=fun n=> (a1 n).line;have a0:=fun n=> (a1 n).col;have a4:=O a7;clear a7;obtain⟨l,hl⟩:=eX ((posAt s j).1);obtain⟨m,hm⟩:=eX ((posAt s j).2);rw[hl]at S b0 a5;rw[hm]at a0 b1 a5;have b7:=O S;have a8:=O a0;clear hl hm S a0 a1 C;cases r
    .have K:byte s j≠10:=by rw[M.o];intro h;have N:=a3.o;rw[h]at N;simp at N
     have X:=O K;go_wp2;go_roundg (s.size- (j+1));case measure=>omega
     case rel=>exact⟨j+1,by omega,by omega,z,a8 _ X,a2,((a4 _).setA 1 _).setA 3 _⟩
    .have K:byte s j=10:=by
      rw[M.o];have N:=a3.o;rw[beq_iff_eq]at N;have a9:c.toNat=10:=by omega
      exact UInt8.toNat_inj.1 (by simpa using a9)
     have X:=O K;go_wp2;go_roundg (s.size- (j+1));case measure=>omega
     case rel=>exact⟨j+1,by omega,by omega,z,b7 _ X,a2,(((a4 _).setA 0 _).setA 1 _).setA 3 _⟩
  .obtain rfl:j=s.size:=by omega
   have H:endOf isNoNl s s.size=s.size:=endOf_end rl;have a6:E=s.size:=by rw[<-Q.o,H]
   have b8:=O a6;clear H a6;have b4:(k:Int)<=(s.size:Int):=by omega
   have hd:decide ((s.size:Int)< (s.size:Int))=false:=by simp
   go_wp2;go_quiet (fail);rename_i nq;obtain⟨J,G⟩:=eX (wr.drewN nq);have C:Rd J b s s.size v0 v1:=G▸F;have A:Kp w J b b:=by rw[<-G];exact⟨D.os,D.tape,D.output,D.size,D.block⟩
   rw[G];clear G F D b2 b3;have b2:=C.c2;have b3:=C.c3;go_wp2;go_quiet (fail);go_wp2;go_ret;unfold Pas;rw[V.o,b8.o];exact⟨z,C,⟨A.os,A.tape,A.output,A.size,A.block⟩⟩
theorem pass_name(F:Rd w b s k v0 v1)(hk:k<=s.size)(hs:s.size<=4294967296):
  Calls Tryz.prog 61 #[Pt b,.func (.func 140) #[] #[]] w (Pas isAny w b s k v0 v1):=by
 have b3:=F.c3;obtain⟨E,Z⟩:∃E,endOf isAny s k=E:=⟨_,z⟩;have V:=O Z;have b5:=endOf_le (f:=isAny) hk;rw[Z]at b5;clear Z;go_in;go_wp2;clear b3;go_loopg [] (s.size-k) (fun g wr=>∃j:Nat,k<=j/\j<=s.size/\g=s.size-j/\Rd wr b s j v0 v1/\Hid (endOf isAny s j=E)/\Kp w wr b b);case atStart=>exact⟨k,rl,hk,z,F,V,Kp.refl _ _ _⟩
 case round=>
  clear F;obtain⟨j,b9,hj,rfl,F,Q,D⟩:=hrel;have b2:=F.c2;have b3:=F.c3;by_cases Y:j<s.size
  .have hz:(j:Int)< (s.size:Int):=by omega
   have b6:=byte_at Y;obtain⟨c,R⟩:=eX (byte s j);have M:=O R;rw[R]at b6;clear R;obtain⟨q,U⟩:=eX (isAny c);have HF:=O U;have cq:∀W,Calls Tryz.prog 140 #[.int .u8 (c.toNat:Int)] W fun e w'=>e= .returned (.bool q)/\w'=W:=fun W=> (any_any c W).mono fun e w' h=>⟨by rw[h.1];rw[U],h.2.symm⟩;clear U;go_wp2_with fail;go_quiet ((go_at_call 140;exact Calls.quiet_of_same (cq _)));rename_i nq;obtain⟨J,G⟩:=eX (wr.drewN nq);have C:Rd J b s j v0 v1:=G▸F;have A:Kp w J b b:=by rw[<-G];exact⟨D.os,D.tape,D.output,D.size,D.block⟩
   rw[G];clear G F D b2 b3 cq;have b2:=C.c2;have b3:=C.c3;cases q
   .have H:endOf isAny s j=j:=endOf_no Y (by rw[M.o];exact HF.o);obtain rfl:E=j:=by rw[<-Q.o,H]
    clear H;have b4:(k:Int)<=(E:Int):=by omega
    have c8:(E:Int)<=(s.size:Int):=by omega
    go_wp2;go_quiet (fail);go_wp2;go_ret;unfold Pas;rw[V.o];exact⟨z,C,⟨A.os,A.tape,A.output,A.size,A.block⟩⟩
   .have H:endOf isAny s (j+1)=E:=by rw[<-Q.o];exact endOf_yes Y (by rw[M.o];exact HF)
    have a2:=O H;clear H;obtain⟨r,hr⟩:=eX (((c.toNat:Int)==10));have a3:=O hr;go_wp2;go_quiet (fail);have a1:∀n,Rd (J.drewN n) b s j v0 v1:=fun n=>C;have a7:∀n,Kp w (J.drewN n) b b:=fun n=>⟨A.os,A.tape,A.output,A.size,A.block⟩;clear b2 b3 hr A;have a5:=posAt_le s j;have b0:=C.c0;have b1:=C.c1;have b3:=C.c3;have f0:=C.frozen;have S:=fun n=> (a1 n).line;have a0:=fun n=> (a1 n).col;have a4:=O a7;clear a7;obtain⟨l,hl⟩:=eX ((posAt s j).1);obtain⟨m,hm⟩:=eX ((posAt s j).2);rw[hl]at S b0 a5;rw[hm]at a0 b1 a5;have b7:=O S;have a8:=O a0;clear hl hm S a0 a1 C;cases r
    .have K:byte s j≠10:=by rw[M.o];intro h;have N:=a3.o;rw[h]at N;simp at N
     have X:=O K;go_wp2;go_roundg (s.size- (j+1));case measure=>omega
     case rel=>exact⟨j+1,by omega,by omega,z,a8 _ X,a2,((a4 _).setA 1 _).setA 3 _⟩
    .have K:byte s j=10:=by
      rw[M.o];have N:=a3.o;rw[beq_iff_eq]at N;have a9:c.toNat=10:=by omega
      exact UInt8.toNat_inj.1 (by simpa using a9)
     have X:=O K;go_wp2;go_roundg (s.size- (j+1));case measure=>omega
     case rel=>exact⟨j+1,by omega,by omega,z,b7 _ X,a2,(((a4 _).setA 0 _).setA 1 _).setA 3 _⟩
  .obtain rfl:j=s.size:=by omega
   have H:endOf isAny s s.size=s.size:=endOf_end rl;have a6:E=s.size:=by rw[<-Q.o,H]
   have b8:=O a6;clear H a6;have b4:(k:Int)<=(s.size:Int):=by omega
   have hd:decide ((s.size:Int)< (s.size:Int))=false:=by simp
   go_wp2;go_quiet (fail);rename_i nq;obtain⟨J,G⟩:=eX (wr.drewN nq);have C:Rd J b s s.size v0 v1:=G▸F;have A:Kp w J b b:=by rw[<-G];exact⟨D.os,D.tape,D.output,D.size,D.block⟩
   rw[G];clear G F D b2 b3;have b2:=C.c2;have b3:=C.c3;go_wp2;go_quiet (fail);go_wp2;go_ret;unfold Pas;rw[V.o,b8.o];exact⟨z,C,⟨A.os,A.tape,A.output,A.size,A.block⟩⟩
theorem pass_dig(F:Rd w b s k v0 v1)(hk:k<=s.size)(hs:s.size<=4294967296):
  Calls Tryz.prog 61 #[Pt b,.func (.func 141) #[] #[]] w (Pas isDig w b s k v0 v1):=by
 have b3:=F.c3;obtain⟨E,Z⟩:∃E,endOf isDig s k=E:=⟨_,z⟩;have V:=O Z;have b5:=endOf_le (f:=isDig) hk;rw[Z]at b5;clear Z;go_in;go_wp2;clear b3;go_loopg [] (s.size-k) (fun g wr=>∃j:Nat,k<=j/\j<=s.size/\g=s.size-j/\Rd wr b s j v0 v1/\Hid (endOf isDig s j=E)/\Kp w wr b b);case atStart=>exact⟨k,rl,hk,z,F,V,Kp.refl _ _ _⟩
 case round=>
  clear F;obtain⟨j,b9,hj,rfl,F,Q,D⟩:=hrel;have b2:=F.c2;have b3:=F.c3;by_cases Y:j<s.size
  .have hz:(j:Int)< (s.size:Int):=by omega
   have b6:=byte_at Y;obtain⟨c,R⟩:=eX (byte s j);have M:=O R;rw[R]at b6;clear R;obtain⟨q,U⟩:=eX (isDig c);have HF:=O U;have cq:∀W,Calls Tryz.prog 141 #[.int .u8 (c.toNat:Int)] W fun e w'=>e= .returned (.bool q)/\w'=W:=fun W=> (digit_any c W).mono fun e w' h=>⟨by rw[h.1];rw[U],h.2.symm⟩;clear U;go_wp2_with fail;go_quiet ((go_at_call 141;exact Calls.quiet_of_same (cq _)));rename_i nq;obtain⟨J,G⟩:=eX (wr.drewN nq);have C:Rd J b s j v0 v1:=G▸F;have A:Kp w J b b:=by rw[<-G];exact⟨D.os,D.tape,D.output,D.size,D.block⟩
   rw[G];clear G F D b2 b3 cq;have b2:=C.c2;have b3:=C.c3;cases q
   .have H:endOf isDig s j=j:=endOf_no Y (by rw[M.o];exact HF.o);obtain rfl:E=j:=by rw[<-Q.o,H]
    clear H;have b4:(k:Int)<=(E:Int):=by omega
    have c8:(E:Int)<=(s.size:Int):=by omega
    go_wp2;go_quiet (fail);go_wp2;go_ret;unfold Pas;rw[V.o];exact⟨z,C,⟨A.os,A.tape,A.output,A.size,A.block⟩⟩
   .have H:endOf isDig s (j+1)=E:=by rw[<-Q.o];exact endOf_yes Y (by rw[M.o];exact HF)
    have a2:=O H;clear H;obtain⟨r,hr⟩:=eX (((c.toNat:Int)==10));have a3:=O hr;go_wp2;go_quiet (fail);have a1:∀n,Rd (J.drewN n) b s j v0 v1:=fun n=>C;have a7:∀n,Kp w (J.drewN n) b b:=fun n=>⟨A.os,A.tape,A.output,A.size,A.block⟩;clear b2 b3 hr A;have a5:=posAt_le s j;have b0:=C.c0;have b1:=C.c1;have b3:=C.c3;have f0:=C.frozen;have S:=fun n=> (a1 n).line;have a0:=fun n=> (a1 n).col;have a4:=O a7;clear a7;obtain⟨l,hl⟩:=eX ((posAt s j).1);obtain⟨m,hm⟩:=eX ((posAt s j).2);rw[hl]at S b0 a5;rw[hm]at a0 b1 a5;have b7:=O S;have a8:=O a0;clear hl hm S a0 a1 C;cases r
    .have K:byte s j≠10:=by rw[M.o];intro h;have N:=a3.o;rw[h]at N;simp at N
     have X:=O K;go_wp2;go_roundg (s.size- (j+1));case measure=>omega
     case rel=>exact⟨j+1,by omega,by omega,z,a8 _ X,a2,((a4 _).setA 1 _).setA 3 _⟩
    .have K:byte s j=10:=by
      rw[M.o];have N:=a3.o;rw[beq_iff_eq]at N;have a9:c.toNat=10:=by omega
      exact UInt8.toNat_inj.1 (by simpa using a9)
     have X:=O K;go_wp2;go_roundg (s.size- (j+1));case measure=>omega
     case rel=>exact⟨j+1,by omega,by omega,z,b7 _ X,a2,(((a4 _).setA 0 _).setA 1 _).setA 3 _⟩
  .obtain rfl:j=s.size:=by omega
   have H:endOf isDig s s.size=s.size:=endOf_end rl;have a6:E=s.size:=by rw[<-Q.o,H]
   have b8:=O a6;clear H a6;have b4:(k:Int)<=(s.size:Int):=by omega
   have hd:decide ((s.size:Int)< (s.size:Int))=false:=by simp
   go_wp2;go_quiet (fail);rename_i nq;obtain⟨J,G⟩:=eX (wr.drewN nq);have C:Rd J b s s.size v0 v1:=G▸F;have A:Kp w J b b:=by rw[<-G];exact⟨D.os,D.tape,D.output,D.size,D.block⟩
   rw[G];clear G F D b2 b3;have b2:=C.c2;have b3:=C.c3;go_wp2;go_quiet (fail);go_wp2;go_ret;unfold Pas;rw[V.o,b8.o];exact⟨z,C,⟨A.os,A.tape,A.output,A.size,A.block⟩⟩
theorem pass_all(F:Rd w b s k v0 v1)(hk:k<=s.size)(hs:s.size<=4294967296):
  Calls Tryz.prog 61 #[Pt b,.func (.func 62) #[] #[]] w (Pas isAll w b s k v0 v1):=by
 have b3:=F.c3;obtain⟨E,Z⟩:∃E,endOf isAll s k=E:=⟨_,z⟩;have V:=O Z;have b5:=endOf_le (f:=isAll) hk;rw[Z]at b5;clear Z;go_in;go_wp2;clear b3;go_loopg [] (s.size-k) (fun g wr=>∃j:Nat,k<=j/\j<=s.size/\g=s.size-j/\Rd wr b s j v0 v1/\Hid (endOf isAll s j=E)/\Kp w wr b b);case atStart=>exact⟨k,rl,hk,z,F,V,Kp.refl _ _ _⟩
 case round=>
  clear F;obtain⟨j,b9,hj,rfl,F,Q,D⟩:=hrel;have b2:=F.c2;have b3:=F.c3;by_cases Y:j<s.size
  .have hz:(j:Int)< (s.size:Int):=by omega
   have b6:=byte_at Y;obtain⟨c,R⟩:=eX (byte s j);have M:=O R;rw[R]at b6;clear R;obtain⟨q,U⟩:=eX (isAll c);have HF:=O U;have cq:∀W,Calls Tryz.prog 62 #[.int .u8 (c.toNat:Int)] W fun e w'=>e= .returned (.bool q)/\w'=W:=fun W=> (all_any c W).mono fun e w' h=>⟨by rw[h.1];rw[<-U];rfl,h.2.symm⟩;clear U;go_wp2_with fail;go_quiet ((go_at_call 62;exact Calls.quiet_of_same (cq _)));rename_i nq;obtain⟨J,G⟩:=eX (wr.drewN nq);have C:Rd J b s j v0 v1:=G▸F;have A:Kp w J b b:=by rw[<-G];exact⟨D.os,D.tape,D.output,D.size,D.block⟩
   rw[G];clear G F D b2 b3 cq;have b2:=C.c2;have b3:=C.c3;cases q
   .have H:endOf isAll s j=j:=endOf_no Y (by rw[M.o];exact HF.o);obtain rfl:E=j:=by rw[<-Q.o,H]
    clear H;have b4:(k:Int)<=(E:Int):=by omega
    have c8:(E:Int)<=(s.size:Int):=by omega
    go_wp2;go_quiet (fail);go_wp2;go_ret;unfold Pas;rw[V.o];exact⟨z,C,⟨A.os,A.tape,A.output,A.size,A.block⟩⟩
   .have H:endOf isAll s (j+1)=E:=by rw[<-Q.o];exact endOf_yes Y (by rw[M.o];exact HF)
    have a2:=O H;clear H;obtain⟨r,hr⟩:=eX (((c.toNat:Int)==10));have a3:=O hr;go_wp2;go_quiet (fail);have a1:∀n,Rd (J.drewN n) b s j v0 v1:=fun n=>C;have a7:∀n,Kp w (J.drewN n) b b:=fun n=>⟨A.os,A.tape,A.output,A.size,A.block⟩;clear b2 b3 hr A;have a5:=posAt_le s j;have b0:=C.c0;have b1:=C.c1;have b3:=C.c3;have f0:=C.frozen;have S:=fun n=> (a1 n).line;have a0:=fun n=> (a1 n).col;have a4:=O a7;clear a7;obtain⟨l,hl⟩:=eX ((posAt s j).1);obtain⟨m,hm⟩:=eX ((posAt s j).2);rw[hl]at S b0 a5;rw[hm]at a0 b1 a5;have b7:=O S;have a8:=O a0;clear hl hm S a0 a1 C;cases r
    .have K:byte s j≠10:=by rw[M.o];intro h;have N:=a3.o;rw[h]at N;simp at N
     have X:=O K;go_wp2;go_roundg (s.size- (j+1));case measure=>omega
     case rel=>exact⟨j+1,by omega,by omega,z,a8 _ X,a2,((a4 _).setA 1 _).setA 3 _⟩
    .have K:byte s j=10:=by
      rw[M.o];have N:=a3.o;rw[beq_iff_eq]at N;have a9:c.toNat=10:=by omega
      exact UInt8.toNat_inj.1 (by simpa using a9)
     have X:=O K;go_wp2;go_roundg (s.size- (j+1));case measure=>omega
     case rel=>exact⟨j+1,by omega,by omega,z,b7 _ X,a2,(((a4 _).setA 0 _).setA 1 _).setA 3 _⟩
  .obtain rfl:j=s.size:=by omega
   have H:endOf isAll s s.size=s.size:=endOf_end rl;have a6:E=s.size:=by rw[<-Q.o,H]
   have b8:=O a6;clear H a6;have b4:(k:Int)<=(s.size:Int):=by omega
   have hd:decide ((s.size:Int)< (s.size:Int))=false:=by simp
   go_wp2;go_quiet (fail);rename_i nq;obtain⟨J,G⟩:=eX (wr.drewN nq);have C:Rd J b s s.size v0 v1:=G▸F;have A:Kp w J b b:=by rw[<-G];exact⟨D.os,D.tape,D.output,D.size,D.block⟩
   rw[G];clear G F D b2 b3;have b2:=C.c2;have b3:=C.c3;go_wp2;go_quiet (fail);go_wp2;go_ret;unfold Pas;rw[V.o,b8.o];exact⟨z,C,⟨A.os,A.tape,A.output,A.size,A.block⟩⟩
theorem endOf_all(s:ByteArray)(j:k<=s.size):endOf isAll s k=s.size:=by
 unfold endOf;have h:(s.data.toList.drop k).takeWhile isAll=s.data.toList.drop k:=by induction s.data.toList.drop k with
  |nil=>rfl
  |cons c l g=>rw[List.takeWhile_cons_of_pos rfl,g]
 rw[h,List.length_drop,size_list];omega
theorem end_any(s:ByteArray)(w:World)(F:s.size<=4294967296):
  Calls Tryz.prog 30 #[.string s] w fun e w'=>e= .returned (.agg #[I (posAt s s.size).1,I (posAt s s.size).2])/\bL w w':=by
 have D:Ps ((w.alloc (.cells #[I 0,I 0] 32)).alloc (.cells #[I 1,I 1,.string s,I 0,.map none,.map none] 150)) w.1.size (0,0):=by have h:Ps (w.alloc (.cells #[.int .i64 0,.int .i64 0] 32)) w.1.size (0,0):=World.alloc_heap_new _ _;exact h.alloc _
 have C:bL w ((w.alloc (.cells #[I 0,I 0] 32)).alloc (.cells #[I 1,I 1,.string s,I 0,.map none,.map none] 150)):=((Below.refl _ w).alloc rl _).alloc (by simp) _;have E:Rd ((w.alloc (.cells #[I 0,I 0] 32)).alloc (.cells #[I 1,I 1,.string s,I 0,.map none,.map none] 150)) (w.1.size+1) s 0 (.map none) (.map none):=by have h:Rd ((w.alloc (.cells #[.int .i64 0,.int .i64 0] 32)).alloc (.cells #[.int .i64 1,.int .i64 1,.string s,.int .i64 0,.map none,.map none] 150)) (w.alloc (.cells #[.int .i64 0,.int .i64 0] 32)).1.size s 0 (.map none) (.map none):=World.alloc_heap_new _ _;rw[World.size_alloc]at h;exact h
 go_in;go_wp2_with fail;change Calls _ _ _ ((w.alloc (.cells #[I 0,I 0] 32)).alloc (.cells #[I 1,I 1,.string s,I 0,.map none,.map none] 150)) _;generalize (w.alloc (.cells #[I 0,I 0] 32)).alloc (.cells #[I 1,I 1,.string s,I 0,.map none,.map none] 150)=K at *;apply (pass_all E (Nat.zero_le _) F).mono;rintro e w1 ⟨rfl,j,A⟩;rw[endOf_all s (Nat.zero_le _)]at j;have g:Ps w1 w.1.size (0,0):=(A.block _ D.lt (by omega) (by omega)).trans D;have G:=A.to_below C C.size (by omega) (by omega);clear D C A E;have H:=g.c0;have M:=g.c1;have g0:=g.frozen;have b0:=j.c0;have b1:=j.c1;go_wp2;refine end_p25 ((g.set0 (posAt s s.size).1).set1 (posAt s s.size).2) z z z ?_
 exact⟨z,(G.setCell (p:=⟨w.1.size,0,none⟩) rl _).setCell (p:=⟨w.1.size,1,none⟩) rl _⟩
end Go.Proofs.YtgppcdfgdaggjaaGreatDoor
