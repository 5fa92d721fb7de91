/- Texts laid together. No condition but what each law says. -/
import Derived.Test.YtgppcdfgdaggjaaGreatDoorR05
import Derived.Test.YtgppcdfgdaggjaaGreatDoorR04
set_option maxRecDepth 100000
set_option maxHeartbeats 4000000
namespace Go.Proofs.YtgppcdfgdaggjaaGreatDoor
open Go.RowKit Go.Maps
variable {w:World}{b g k n:Nat}{s:ByteArray}{v0 v1:Value}
def Rea(s:ByteArray)(w:World)(e:Ending)(w':World):Prop:=
 ∃b gk gs,e= .returned (.pointer (some ⟨b,0,none⟩))/\Rd w' b s 0 (.map (some gk)) (.map (some gs))/\w'.ownsMap Tryz.prog 9 (plainElem Tryz.prog 3) gk 20 (Lst kwL 20)/\w'.ownsMap Tryz.prog 9 (plainElem Tryz.prog 3) gs 20 (Lst sgL 20)/\Below w.1.size w w'/\w.1.size<=b/\b≠gk/\b≠gs
theorem owns_below{w':World}{B:Nat}{D:DataW Unit}(h:w.ownsMap Tryz.prog 9 (plainElem Tryz.prog 3) g n D)(F:Below B w w')(C:g<B):w'.ownsMap Tryz.prog 9 (plainElem Tryz.prog 3) g n D:=by obtain⟨E,j,G,A⟩:=h;exact⟨E,j,(F.block g C).trans G,A⟩
theorem owns_keep{w':World}{a:Nat}{D:DataW Unit}(h:w.ownsMap Tryz.prog 9 (plainElem Tryz.prog 3) g n D)(H:Kp w w' a b)(J:g≠a)(E:g≠b):w'.ownsMap Tryz.prog 9 (plainElem Tryz.prog 3) g n D:=by have F:=h.lt;obtain⟨G,C,A,j⟩:=h;exact⟨G,C,(H.block g F J E).trans A,j⟩
theorem read_any(s:ByteArray)(w:World):Calls Tryz.prog 59 #[.string s] w (Rea s w):=by
 go_in;go_wp2_with fail;apply (keywords_any w).mono;rintro e w1 ⟨gk,rfl,F,C,S⟩;go_wp2_with fail;apply (signs_any w1).mono;rintro e w2 ⟨j,rfl,G,A,R⟩;have E:=owns_below F A F.lt;have D:=C.trans (A.mono C.size);have sz:=D.size;have g:bL w2 (w2.alloc (.cells #[I 1,I 1,.string s,I 0,.map (some gk),.map (some j)] 150)):=(Below.refl _ w2).alloc rl _;have J:Rd (w2.alloc (.cells #[.int .i64 1,.int .i64 1,.string s,.int .i64 0,.map (some gk),.map (some j)] 150)) w2.1.size s 0 (.map (some gk)) (.map (some j)):=World.alloc_heap_new _ _;have M:=E.lt;have Q:=G.lt;have K:=owns_below E g M;have H:=owns_below G g Q;have N:=D.trans (g.mono sz);clear F C A E G D g;go_wp2;go_ret
 exact⟨w2.1.size,gk,j,z,J,K,H,N,sz,by omega,by omega⟩
theorem endOf_ge(f:UInt8->Bool)(s:ByteArray)(k:Nat):k<=endOf f s k:=by unfold endOf;omega
theorem hash_on(g:k<s.size)(h:(byte s k).toNat=35):k+1<=endOf isNoNl s k:=by rw[<-endOf_yes g (by unfold isNoNl;rw[h];rfl)];exact endOf_ge _ _ _
def gapAt(s:ByteArray)(k:Nat):Nat:=
 if _h:endOf isBl s k<s.size/\(byte s (endOf isBl s k)).toNat=35 then gapAt s (endOf isNoNl s (endOf isBl s k)) else endOf isBl s k
termination_by s.size-k
decreasing_by
 have h1:=hash_on _h.1 _h.2
 have h2:=endOf_ge isBl s k
 omega
theorem gap_hash(j:endOf isBl s k<s.size)(g:(byte s (endOf isBl s k)).toNat=35):gapAt s (endOf isNoNl s (endOf isBl s k))=gapAt s k:=by rw[gapAt.eq_def s k,dif_pos ⟨j,g⟩]
theorem gap_stop(h:¬ (endOf isBl s k<s.size/\(byte s (endOf isBl s k)).toNat=35)):gapAt s k=endOf isBl s k:=by rw[gapAt.eq_def s k,dif_neg h]
theorem gap_any(H:Rd w b s k v0 v1)(hk:k<=s.size)(Z:s.size<=4294967296):
  Calls Tryz.prog 104 #[Pt b] w fun e w'=>e= .returned (.bool (decide (gapAt s k<s.size)))/\Rd w' b s (gapAt s k) v0 v1/\Kp w w' b b/\gapAt s k<=s.size:=by
 obtain⟨E,V⟩:=eX (gapAt s k);have HE:=O V;rw[V];clear V;go_in;go_wp2;go_loopg [] (s.size+1-k) (fun g wr=>∃j:Nat,j<=s.size/\g=s.size+1-j/\Rd wr b s j v0 v1/\Hid (gapAt s j=E)/\Kp w wr b b);case atStart=>exact⟨k,hk,z,H,HE,Kp.refl _ _ _⟩
 case round=>
  clear H;obtain⟨j,hj,rfl,H,Q,hK⟩:=hrel;go_wp2_with fail;apply (pass_bl H hj Z).mono;rintro e w1 ⟨rfl,C,a0⟩;have A:=hK.trans a0;clear H hK a0;have W:=endOf_le (f:=isBl) hj;obtain⟨m,Y⟩:=eX (endOf isBl s j);have F:=O Y;rw[Y]at C W ⊢;clear Y;have b2:=C.c2;have b3:=C.c3;by_cases K:m<s.size
  .have hz:(m:Int)< (s.size:Int):=by omega
   have a8:((m:Int)==(s.size:Int))=false:=by rw[beq_eq_false_iff_ne];omega
   have a5:=byte_at K;obtain⟨c,R⟩:=eX (byte s m);have HC:=O R;rw[R]at a5;clear R;obtain⟨r,M⟩:=eX (((c.toNat:Int)==35));have a9:((c.toNat:Int) !=35)=!r:=by rw[<-M];rfl
   have S:=O M;have N:=O (show ∀n,Rd (w1.drewN n) b s m v0 v1 from fun n=>C);have U:=O (show ∀n,Kp w (w1.drewN n) b b from fun n=>⟨A.os,A.tape,A.output,A.size,A.block⟩);have a6:=O (show ∀n k,Rd ((w1.drewN n).drewN k) b s m v0 v1 from fun n k=>C);have a7:=O (show ∀n k,Kp w ((w1.drewN n).drewN k) b b from fun n k=>⟨A.os,A.tape,A.output,A.size,A.block⟩);clear C A;have HH:Hid (r=true->(byte s m).toNat=35):=fun h=>by rw[HC.o];have X:=S.o;rw[h,beq_iff_eq]at X;omega
   have HN:Hid (r=false->¬ (byte s m).toNat=35):=fun h J=>by rw[HC.o]at J;have X:=S.o;rw[h,beq_eq_false_iff_ne]at X;omega
   clear S;cases r
   .have D:E=m:=by rw[<-Q.o,<-F.o];exact gap_stop (fun h=>HN z (by have J:=h.2;rw[F.o]at J;exact J))
    have G:=O D;clear D M;go_wp2;go_quiet (fail);go_wp2;go_quiet (fail);go_wp2;go_ret;rw[G.o];exact⟨by rw[decide_eq_true K];rfl,a6 _ _,a7 _ _,by omega⟩
   .have D:gapAt s (endOf isNoNl s m)=E:=by rw[<-Q.o,<-F.o];exact gap_hash (by rw[F.o];exact K) (by rw[F.o];exact HH z)
    have G:=O D;have b4:=hash_on K (HH z);have a4:=endOf_le (f:=isNoNl) (s:=s) (k:=m) W.2;clear D M;go_wp2;go_quiet (fail);go_wp2;go_quiet (fail);go_wp2_with fail;apply (pass_nonl (N _) W.2 Z).mono;rintro e w2 ⟨rfl,a3,a1⟩;have a2:=(U _).trans a1;clear a1;go_wp2;go_roundg (s.size+1-endOf isNoNl s m);case measure=>omega
    case rel=>exact⟨endOf isNoNl s m,a4.2,z,a3,G,a2⟩
  .obtain rfl:m=s.size:=by omega
   have D:E=s.size:=by rw[<-Q.o,<-F.o];exact gap_stop (fun h=>by have h1:=h.1;rw[F.o]at h1;omega)
   have G:=O D;have N:=O (show ∀n,Rd (w1.drewN n) b s s.size v0 v1 from fun n=>C);have U:=O (show ∀n,Kp w (w1.drewN n) b b from fun n=>⟨A.os,A.tape,A.output,A.size,A.block⟩);clear C A D;go_wp2;go_quiet (fail);go_wp2;go_ret;rw[G.o];exact⟨by rw[decide_eq_false (Nat.lt_irrefl _)];rfl,N _,U _,rl⟩
end Go.Proofs.YtgppcdfgdaggjaaGreatDoor
