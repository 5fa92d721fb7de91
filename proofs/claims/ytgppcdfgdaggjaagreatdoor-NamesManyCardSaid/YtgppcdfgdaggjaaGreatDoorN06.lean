/- Texts laid together. No condition but what each law says. -/
import Derived.Test.YtgppcdfgdaggjaaGreatDoorN05
import Derived.Lib.SlicesS
set_option maxRecDepth 100000
set_option maxHeartbeats 2000000
namespace Go.Proofs.YtgppcdfgdaggjaaGreatDoor
open Go.RowKit Go.Maps Go.Proofs.Tryz
open _root_.ByteArray renaming empty→Hl
open List renaming getElem?_eq_getElem→FC
def dZ(t:List UInt8):Bool:=iy.any fun s=>s.data.toList==t
def hl(t:List UInt8):Bool:=kz.any fun s=>s.data.toList==t
theorem jY(g:List ByteArray)(t:List UInt8)(k:Nat)(C:k<=g.length):decide (0<dt g t k)=(g.take k).any fun s=>s.data.toList==t:=by
 induction k with
 |zero=>simp[dt]
 |succ k j=>
  have j:=j (by omega);rw[List.take_add_one,List.any_append,<-j];have w:k<g.length:=by omega
  rw[FC w];have e:g.getD k Hl=g[k]:=by rw[List.getD,FC w];rfl
  have A:dt g t (k+1)=if (g.getD k Hl).data.toList=t then (k:Int)+1 else dt g t k:=z
  rw[A,e];by_cases h:(g[k]).data.toList=t
  .rw[aD h,eP (by omega)];simp[h]
  .rw[am h];simp[h]
theorem us(t:List UInt8):decide (0<dt iy t 20)=dZ t:=jY iy t 20 (by decide)
theorem zH(t:List UInt8):decide (0<dt kz t 20)=hl t:=jY kz t 20 (by decide)
theorem kj(x s:ByteArray):(x.data.toList==s.data.toList)=(x.toList==s.toList):=by
 rw[Bool.eq_iff_iff,Lib.bytes_beq_iff,beq_iff_eq];constructor
 .intro h;exact ByteArray.ext (by simpa using h)
 .intro h;rw[h]
theorem oo(s:ByteArray)(w:World)(F:s.size<=4294967296):Calls prog 146 #[.string s] w fun e w'=>e= .returned (.bool (dZ s.data.toList))/\bL w w':=by
 let ⟨R,j⟩:=eX (dZ s.data.toList)
 rw[j];go_in;go_wp2_with fail;apply (im w).mono;rintro e w1 ⟨g,rfl,C,G,_⟩;let ⟨c,H,A,_⟩:=C.lookup_int Ci underlying148 underlying3 (xx _) (Go.WideMaps.keyOf_string_mk underlying9 (s:=s) (Nat.le_trans F (by decide)))
 rw[sY]at A;have D:dt iy s.data.toList 20=c:=by simpa using A
 have E:=us s.data.toList;rw[D]at E;clear A C D;rw[j]at E;clear j;go_wp2;go_ret;exact⟨z,G⟩
theorem ph(w:World):Calls prog 121 #[] w fun e w'=>e= .returned (.slice (some (ad w.1.size 0)) 20 20)/\w'=w.alloc (.cells (iy.map Value.string).toArray 9):=by go_in;go_wp2;go_ret;exact⟨z,z⟩
theorem hS(s:ByteArray)(w:World):Calls prog 83 #[.string s] w fun e w'=>e= .returned (.bool (dZ s.data.toList))/\bL w w':=by
 have K:=iv w iy;have F:bL w (w.alloc (.cells (iy.map Value.string).toArray 9)):=(Below.refl _ w).alloc rl _;let ⟨R,D⟩:=eX (dZ s.data.toList)
 have S:=O D;rw[D];clear D;go_in;go_wp2_with fail;apply (ph w).mono;rintro e w1 ⟨rfl,rfl⟩;generalize w.alloc (.cells (iy.map Value.string).toArray 9)=H at *;go_wp2;go_loopw [4] (fun i wr=>∃k:Nat,k<=20/\i=I k/\H=wr/\Hid ((iy.drop k).any (fun x=>x.data.toList==s.data.toList)=R)) (fun i _=>20- (intOf i).toNat);case atStart=>exact⟨0,by omega,z,z,S⟩
 case round=>
  obtain⟨k,U,rfl,rfl,j⟩:=hrel;by_cases Q:k<20
  .have W:(0:Int)<=(k:Int):=by omega
   have X:(k:Int)<20:=by omega
   have A:=Q;let ⟨x,g⟩:=eX (iy.getD k Hl)
   have V:H.cell? (ad w.1.size k)=some (.string x):=by rw[<-g];exact K.cell A
   have hd:iy.drop k=x::iy.drop (k+1):=by rw[List.drop_eq_getElem_cons A,<-g,List.getD,FC A];rfl
   let ⟨q,N⟩:=eX ((x.toList==s.toList))
   have E:(x.data.toList==s.data.toList)=q:=by rw[<-N];exact kj x s
   have J:=O E;have G:=O hd;clear g hd E;cases q
   .have M:=O (show ((iy.drop (k+1)).any fun x=>x.data.toList==s.data.toList)=R by rw[<-j.o,G.o,List.any_cons,J.o,Bool.false_or]);go_wp2;go_roundw;case rel=>exact⟨k+1,by omega,by go_num,trivial,M⟩
    case measure=>simp[intOf];omega
   .have C:R=true:=by rw[<-j.o,G.o,List.any_cons,J.o,Bool.true_or]
    subst C;go_wp2;go_ret;exact⟨z,F⟩
  .obtain rfl:k=20:=by omega
   have C:R=false:=by rw[<-j.o];rfl
   subst C;go_wp2;go_ret;exact⟨z,F⟩
end Go.Proofs.YtgppcdfgdaggjaaGreatDoor
