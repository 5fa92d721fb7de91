/- Texts laid together. No condition but what each law says. -/
import Derived.Test.YtgppcdfgdaggjaaGreatDoorM25
set_option maxRecDepth 100000
set_option maxHeartbeats 8000000
namespace Go.Proofs.YtgppcdfgdaggjaaGreatDoor
open Go.RowKit Go.Maps Go.Proofs.Tryz
open List renaming length_cons→FV,length_nil→Gg,size_toArray→Hh
theorem Cr(a:Array UInt8):(ByteArray.mk a).size=a.size:=rfl
theorem Ax(W:World)(x:Int)(w:0<=x)(A:x<256):(convert 52 9 (.slice (some ⟨W.1.size,0,none⟩) 1 1)).run prog (W.alloc (.cells #[.int .u8 x] 5))= .ok (.string ⟨#[UInt8.ofNat x.toNat]⟩) (W.alloc (.cells #[.int .u8 x] 5)):=by
 have h:=run_convert_bytes_back (P:=prog) (W.alloc (.cells #[.int .u8 x] 5)) 52 9 5 ⟨W.1.size,0,none⟩ 1 [UInt8.ofNat x.toNat] (by kernel_rfl) (by kernel_rfl) (by kernel_rfl) (fun j g=>by
  have:j=0:=by simp at g;omega
  subst this;have e:(((UInt8.ofNat x.toNat).toNat:Nat):Int)=x:=by rw[UInt8.toNat_ofNat'];omega
  simp only[Addr.add,List.getElem_cons_zero,e];simp)
 exact h
theorem qB(a:Option Addr)(n cap:Nat)(w:World)(H:Wn w)(hl:∀j,j<n->∃g F,∃v:Int,a=some ⟨g,F,none⟩/\w.cell? ⟨g,F+j,none⟩=some (.int .u8 v)/\0<=v/\v<256):
  Calls prog 6 #[.slice a n cap] w (sk w):=by
 have N:=O H;have HL:=O hl;clear H hl;have hk:=eh w N;go_in;refine wk fun E A=>?_;go_wp2;apply A;clear A E;refine wk fun E A=>?_;by_cases b5:(20:Int)< (n:Int)
 .go_wp2_with fail;apply hk.mono;rintro e X ⟨rfl,D⟩;have HE:=O D;clear D;go_wp2;go_ret;exact⟨z,HE⟩
 clear hk;go_wp2;apply A;clear A E;have S:n<=20:=by omega
 have M:=O fun _:True=>S;clear S b5;refine wk fun E A=>?_;go_wp2;apply A;clear A E;refine wk fun E A=>?_;go_wp2;go_loopg [3,4,5] n (fun x Q ov iv wr=>∃ (i:Nat) (o:Int) (s:ByteArray),i<=n/\x=n-i/\iv=I i/\ov=I o/\Q= .string s/\Hid (0<=o/\o<=i/\s.size<=25+40*i)/\Hid (bL w wr));case atStart=>exact⟨0,0,_,Nat.zero_le _,z,z,z,z,O ⟨by decide,by decide,by decide⟩,O (Below.refl _ _)⟩
 case round=>
  obtain⟨i,o,s,hi,rfl,rfl,rfl,rfl,G,C⟩:=hrel;have a9:s.size<=900:=by have:=G.o;have:=M trivial;omega
  have b4:o<=20:=by have:=G.o;have:=M trivial;omega
  have a2:=G.1;have a7:(0:Int)<=(i:Int):=by omega
  by_cases R:i<n
  .obtain⟨g,F,v,rfl,W,a6,a5⟩:=HL i R;have c1:=ai C g (F+i) _ W;have b6:(i:Int)< (n:Int):=by omega
   have a4:=Ax wr (97+v/4 % 5) (by omega) (by omega);have K:bL wr (wr.alloc (.cells #[.int .u8 (97+v/4 % 5)] 5)):=(Below.refl _ _).alloc rl _;have c2:=ai K g (F+i) _ c1;have a1:=O (C.trans (K.mono C.size));clear K W;obtain⟨q,hq⟩:=eX (v % 4);have a8:0<=q/\q<4:=by omega
   have U:Hid (i<n):=R;go_wp2;all_goals
    go_roundg (n- (i+1));case measure=>have:=U.o;omega
    case rel=> have h1:=G.o;have h2:=M.o trivial;have b5:=U.o;refine⟨i+1,_,_,by omega,z,congrArg (Value.int .i64) (IntWalk.wrap64_in _ (by omega)),z,z,O ⟨by omega,by omega,?_⟩,a1⟩;simp only[ByteArray.size_append,Cr,Hh,FV,Gg];omega
  .have b6:¬ (i:Int)< (n:Int):=by omega
   go_wp2;apply A;clear A;refine wk fun K2 Z=>?_;go_wp2;have HR:=O G;clear b6 R;go_loopg [3,7] (o.toNat) (fun x Q jv wr=>∃ (j:Nat) (t:ByteArray),(j:Int)<=o/\x=o.toNat-j/\jv=I j/\Q= .string t/\Hid (t.size<=1000+10*j)/\Hid (bL w wr));case atStart=>exact⟨0,s,a2,z,z,z,O (by omega),C⟩
   case round=>
    clear C;obtain⟨j,t,hj,rfl,rfl,rfl,V,C⟩:=hrel;have a3:t.size<=2000:=by have:=V.o;omega
    by_cases a0:(j:Int)<o
    .have Y:Hid ((j:Int)<o):=a0;go_wp2_with fail;go_roundg (o.toNat- (j+1));case measure=>have:=Y.o;omega
     case rel=> have h1:=Y.o;have h2:=V.o;refine⟨j+1,_,by omega,z,congrArg (Value.int .i64) (by omega),z,O ?_,C⟩;simp only[ByteArray.size_append,Cr,Hh,FV,Gg];omega
    .go_wp2;apply Z;clear Z;go_wp2_with fail;apply (nJ _ _ (N.below C)).mono;rintro e X ⟨rfl,D⟩;have J:=O (C.trans (D.mono C.size));clear D;go_wp2_with fail;apply (eh X (N.below J)).mono;rintro e W2 ⟨rfl,D⟩;have H2:=O (J.trans (D.mono J.size));clear D;go_wp2;go_ret;exact⟨z,H2⟩
end Go.Proofs.YtgppcdfgdaggjaaGreatDoor
