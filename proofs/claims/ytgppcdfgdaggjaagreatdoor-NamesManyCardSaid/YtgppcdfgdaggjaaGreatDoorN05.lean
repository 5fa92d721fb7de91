/- Texts laid together. No condition but what each law says. -/
import Derived.Test.YtgppcdfgdaggjaaGreatDoorN04
import Derived.Test.YtgppcdfgdaggjaaGreatDoorN03
set_option maxRecDepth 100000
set_option maxHeartbeats 4000000
namespace Go.Proofs.YtgppcdfgdaggjaaGreatDoor
open Go.RowKit Go.Maps Go.Proofs.Tryz
open Go renaming World→Fk,plainElem→GO
variable {w:Fk}{b g k n:Nat}{s:ByteArray}{v0 v1:Value}
def Cz(s:ByteArray)(w:Fk)(e:Ending)(w':Fk):Prop:=
 ∃b gk gs,e= .returned (.pointer (some ⟨b,0,none⟩))/\Rd w' b s 0 (.map (some gk)) (.map (some gs))/\w'.ownsMap prog 9 (GO prog 3) gk 20 (jx iy 20)/\w'.ownsMap prog 9 (GO prog 3) gs 20 (jx kz 20)/\Below w.1.size w w'/\w.1.size<=b/\b≠gk/\b≠gs
theorem fj{w':Fk}{B:Nat}{D:DataW Unit}(h:w.ownsMap prog 9 (GO prog 3) g n D)(F:Below B w w')(C:g<B):w'.ownsMap prog 9 (GO prog 3) g n D:=by
 let ⟨E,j,G,A⟩:=h
 exact⟨E,j,(F.block g C).trans G,A⟩
theorem ef{w':Fk}{a:Nat}{D:DataW Unit}(h:w.ownsMap prog 9 (GO prog 3) g n D)(H:Kp w w' a b)(J:g≠a)(E:g≠b):w'.ownsMap prog 9 (GO prog 3) g n D:=by
 have F:=h.lt;let ⟨G,C,A,j⟩:=h
 exact⟨G,C,(H.block g F J E).trans A,j⟩
theorem tM(s:ByteArray)(w:Fk):Calls prog 59 #[.string s] w (Cz s w):=by go_in;go_wp2_with fail;apply (im w).mono;rintro e w1 ⟨gk,rfl,F,C,S⟩;go_wp2_with fail;apply (qK w1).mono;rintro e w2 ⟨j,rfl,G,A,R⟩;have E:=fj F A F.lt;have D:=C.trans (A.mono C.size);have sz:=D.size;have g:bL w2 (w2.alloc (.cells #[I 1,I 1,.string s,I 0,.map (some gk),.map (some j)] 150)):=(Below.refl _ w2).alloc rl _;have J:Rd (w2.alloc (.cells #[I 1,I 1,.string s,I 0,.map (some gk),.map (some j)] 150)) w2.1.size s 0 (.map (some gk)) (.map (some j)):=World.alloc_heap_new _ _;have M:=E.lt;have Q:=G.lt;have K:=fj E g M;have H:=fj G g Q;have N:=D.trans (g.mono sz);clear F C A E G D g;go_wp2;go_ret;exact⟨w2.1.size,gk,j,z,J,K,H,N,sz,by omega,by omega⟩
theorem dB(f:UInt8->Bool)(s:ByteArray)(k:Nat):k<=ae f s k:=by unfold ae;omega
theorem io(g:k<s.size)(h:(aO s k).toNat=35):k+1<=ae bu s k:=by rw[<-cu g (by unfold bu;rw[h];rfl)];exact dB _ _ _
def aY(s:ByteArray)(k:Nat):Nat:=
 if _h:ae ct s k<s.size/\(aO s (ae ct s k)).toNat=35 then aY s (ae bu s (ae ct s k)) else ae ct s k
termination_by s.size-k
decreasing_by
 have h1:=io _h.1 _h.2
 have h2:=dB ct s k
 omega
theorem it(j:ae ct s k<s.size)(g:(aO s (ae ct s k)).toNat=35):aY s (ae bu s (ae ct s k))=aY s k:=by rw[aY.eq_def s k,dif_pos ⟨j,g⟩]
theorem es(h:¬ (ae ct s k<s.size/\(aO s (ae ct s k)).toNat=35)):aY s k=ae ct s k:=by rw[aY.eq_def s k,dif_neg h]
theorem vz(H:Rd w b s k v0 v1)(hk:k<=s.size)(b5:s.size<=4294967296):
  Calls prog 104 #[Pt b] w fun e w'=>e= .returned (.bool (decide (aY s k<s.size)))/\Rd w' b s (aY s k) v0 v1/\Kp w w' b b/\aY s k<=s.size:=by
 let ⟨E,V⟩:=eX (aY s k)
 have HE:=O V;rw[V];clear V;go_in;go_wp2;go_loopg [] (s.size+1-k) (fun g wr=>∃j:Nat,j<=s.size/\g=s.size+1-j/\Rd wr b s j v0 v1/\Hid (aY s j=E)/\Kp w wr b b);case atStart=>exact⟨k,hk,z,H,HE,Kp.refl _ _ _⟩
 case round=>
  clear H;obtain⟨j,hj,rfl,H,Q,hK⟩:=hrel;go_wp2_with fail;apply (wu H hj b5).mono;rintro e w1 ⟨rfl,C,a0⟩;have A:=hK.trans a0;clear H hK a0;have W:=cH (f:=ct) hj;let ⟨m,Y⟩:=eX (ae ct s j)
  have F:=O Y;rw[Y]at C W ⊢;clear Y;have b2:=C.c2;have b3:=C.c3;by_cases K:m<s.size
  .have hz:(m:Int)< (s.size:Int):=by omega
   have a8:((m:Int)==(s.size:Int))=false:=by rw[beq_eq_false_iff_ne];omega
   have a5:=bI K;let ⟨c,R⟩:=eX (aO s m)
   have Z:=O R;rw[R]at a5;clear R;let ⟨r,M⟩:=eX (((c.toNat:Int)==35))
   have a9:((c.toNat:Int) !=35)=!r:=by rw[<-M];rfl
   have S:=O M;have N:=O (show ∀n,Rd (w1.drewN n) b s m v0 v1 from fun n=>C);have U:=O (show ∀n,Kp w (w1.drewN n) b b from fun n=>⟨A.os,A.tape,A.output,A.size,A.block⟩);have a6:=O (show ∀n k,Rd ((w1.drewN n).drewN k) b s m v0 v1 from fun n k=>C);have a7:=O (show ∀n k,Kp w ((w1.drewN n).drewN k) b b from fun n k=>⟨A.os,A.tape,A.output,A.size,A.block⟩);clear C A;have HH:Hid (r=true->(aO s m).toNat=35):=fun h=>by rw[Z.o];have X:=S.o;rw[h,beq_iff_eq]at X;omega
   have HN:Hid (r=false->¬ (aO s m).toNat=35):=fun h J=>by rw[Z.o]at J;have X:=S.o;rw[h,beq_eq_false_iff_ne]at X;omega
   clear S;cases r
   .have D:E=m:=by rw[<-Q.o,<-F.o];exact es (fun h=>HN z (by have J:=h.2;rw[F.o]at J;exact J))
    have G:=O D;clear D M;go_wp2;go_quiet (fail);go_wp2;go_quiet (fail);go_wp2;go_ret;rw[G.o];exact⟨by rw[eP K];rfl,a6 _ _,a7 _ _,by omega⟩
   .have D:aY s (ae bu s m)=E:=by rw[<-Q.o,<-F.o];exact it (by rw[F.o];exact K) (by rw[F.o];exact HH z)
    have G:=O D;have b4:=io K (HH z);have a4:=cH (f:=bu) (s:=s) (k:=m) W.2;clear D M;go_wp2;go_quiet (fail);go_wp2;go_quiet (fail);go_wp2_with fail;apply (rk (N _) W.2 b5).mono;rintro e w2 ⟨rfl,a3,a1⟩;have a2:=(U _).trans a1;clear a1;go_wp2;go_roundg (s.size+1-ae bu s m);case measure=>omega
    case rel=>exact⟨ae bu s m,a4.2,z,a3,G,a2⟩
  .obtain rfl:m=s.size:=by omega
   have D:E=s.size:=by rw[<-Q.o,<-F.o];exact es (fun h=>by have h1:=h.1;rw[F.o]at h1;omega)
   have G:=O D;have N:=O (show ∀n,Rd (w1.drewN n) b s s.size v0 v1 from fun n=>C);have U:=O (show ∀n,Kp w (w1.drewN n) b b from fun n=>⟨A.os,A.tape,A.output,A.size,A.block⟩);clear C A D;go_wp2;go_quiet (fail);go_wp2;go_ret;rw[G.o];exact⟨by rw[dv (Nat.lt_irrefl _)];rfl,N _,U _,rl⟩
end Go.Proofs.YtgppcdfgdaggjaaGreatDoor
