/- Texts laid together. No condition but what each law says. -/
import Derived.Test.YtgppcdfgdaggjaaGreatDoorR08
import Derived.Test.YtgppcdfgdaggjaaGreatDoorR07
import Derived.Lib.AtoiErrMem
import Derived.Lib.IfaceNeq
set_option maxRecDepth 100000
set_option maxHeartbeats 2000000
namespace Go.Proofs.YtgppcdfgdaggjaaGreatDoor
open Go.RowKit
variable {w:World}
def fv(acc:Nat):List UInt8->Nat
 | []=>acc
 |c::r=>fv (acc*10+(c.toNat-48)) r
theorem fv_ge(l:List UInt8):∀acc,acc<=fv acc l:=by
 induction l with
 |nil=>intro acc;exact rl
 |cons c r g=> intro acc;have:=g (acc*10+(c.toNat-48));unfold fv;omega
theorem dig_range{c:UInt8}(h:isDig c=true):48<=c.toNat/\c.toNat<=57:=by simpa [isDig]using h
theorem pm_dig(l:List UInt8)(g:∀c∈l,isDig c=true):∀acc,Lib.parseUintM 18446744073709551615 acc l= .ok (fv acc l)∨(Lib.parseUintM 18446744073709551615 acc l= .range/\9223372036854775807<fv acc l):=by
 induction l with
 |nil=>intro acc;exact .inl z
 |cons c r A=>
  intro acc;have C:=dig_range (g c (List.mem_cons_self ..));have j:=A (fun x w=>g x (List.mem_cons_of_mem _ w)) (acc*10+(c.toNat-48));have D:=fv_ge r (acc*10+(c.toNat-48));unfold Lib.parseUintM fv;rw[if_pos C];split
  .exact .inr ⟨z,by omega⟩
  .split
   .exact .inr ⟨z,by omega⟩
   .exact j
theorem pi_dig{l:List UInt8}(w:l≠[])(j:∀c∈l,isDig c=true):Lib.parseIntB 64 l= .ok (fv 0 l:Int)∨(Lib.parseIntB 64 l= .range/\2147483647<fv 0 l):=by
 match l,w with
 |c::r,_=>
  have F:=dig_range (j c (List.mem_cons_self ..));have D:¬ (c.toNat=43∨c.toNat=45):=by omega
  have C:¬ (c.toNat=45):=by omega
  have g:=pm_dig (c::r) j 0;unfold Lib.parseIntB Lib.parseUintB;have e:(2^64-1:Nat)=18446744073709551615:=by decide
  have A:¬ (c::r=[]):=by simp
  simp only[if_neg D,if_neg A,e];simp only[C];rcases g with g|⟨g,E⟩
  .rw[g];by_cases h:9223372036854775808<=fv 0 (c::r)
   .right;simp[h];omega
   .left;simp[h]
  .rw[g];exact .inr ⟨z,by omega⟩
def numP(t:List UInt8):Int×Bool:=if (1<t.length/\t.head? =some 48)∨2147483647<fv 0 t then (0,false) else (fv 0 t,true)
def ErrR(w:World):Prop:=7<w.1.size/\∃te pe,w.cell? ⟨7,0,none⟩=some (.iface te pe)
theorem ErrR.below{w':World}{B:Nat}(h:ErrR w)(g:Below B w w')(C:7<B):ErrR w':=by obtain⟨E,A,D,j⟩:=h;exact⟨Nat.lt_of_lt_of_le E g.size,A,D,(g.cell (p:=⟨7,0,none⟩) C).trans j⟩
theorem number_any(s:ByteArray)(w:World)(hs:s.size<=4294967296)(W:0<s.size)(hd:∀c∈s.data.toList,isDig c=true)(hE:ErrR w):
  Calls Tryz.prog 142 #[.string s] w fun e w'=>e= .returned (.tuple #[I (numP s.data.toList).1,.bool (numP s.data.toList).2])/\bL w w':=by
 have V:=size_list s;have Z:=byte_at W;obtain⟨c,C⟩:=eX (byte s 0);have H:s.data.toList.head? =some c:=by rw[<-C,<-List.drop_zero (l:=s.data.toList),drop_byte W];rfl
 rw[C]at Z;have S:s.data.toList≠[]:=by intro h;rw[h]at H;cases H
 have N:=pi_dig S hd;obtain⟨v,g⟩:=eX (fv 0 s.data.toList);rw[g]at N;have R:numP s.data.toList=if (1<s.size/\c=48)∨2147483647<v then (0,false) else ((v:Int),true):=by unfold numP;rw[V,H,g];simp
 rw[R];obtain⟨r,Q⟩:=eX (((c.toNat:Int)==48));have J:r=true->c=48:=fun h=>by
  rw[h,beq_iff_eq]at Q;have h':c.toNat=48:=by omega
  exact UInt8.toNat_inj.1 (by simpa using h')
 have K:r=false->c≠48:=fun h e=>by rw[e,h]at Q;simp at Q
 have Y:=O N;clear N R g H C V S;have hz:(0:Int)< (s.size:Int):=by omega
 have E:¬ (1<s.size/\c=48)->Calls Tryz.prog 167 #[.string s,I 10,I 64] w (fun e w'=> ((e= .returned (.tuple #[I v,.nilIface])∨(2147483647<v/\∃F x,e= .returned (.tuple #[I x,.iface 278 (Pt F)])))/\bL w w')):=fun _=>by
  rcases Y with h|⟨h,g⟩
  .apply (Tryz.strconv_ParseInt_10_at64_ok s (by omega) v h w).mono;rintro e w' ⟨rfl,hw⟩;refine⟨.inl z,?_⟩;rcases hw with rfl|⟨t,rfl⟩
   .exact Below.refl _ _
   .exact Lib.bytesWorld_below w 5 t
  .obtain⟨_,te,pe,a0⟩:=hE;refine(Tryz.strconv_ParseInt_10_at64_range s (by omega) h _ w a0 (.inr ⟨te,pe,z⟩)).mono ?_;rintro e w' ⟨F,rfl,_,_,j⟩;exact⟨.inr ⟨g,F,_,z⟩,j⟩
 by_cases U:1<s.size
 .have X:(1:Int)< (s.size:Int):=by omega
  cases r
  .have A:¬ (1<s.size/\c=48):=fun h=>K z h.2;have D:=E A;have G:((1<s.size/\c=48)∨2147483647<v)↔2147483647<v:=⟨fun h=>h.resolve_left A,.inr⟩;simp only[G];have HR:=O A;clear A J K E G;go_in;go_wp2_with fail;apply D.mono;clear D;rintro e w' ⟨h,j⟩;rcases h with rfl|⟨g,F,x,rfl⟩
   .by_cases g:2147483647<v
    .have M:(2147483647:Int)< (v:Int):=by omega
     go_wp2;go_ret2;exact⟨z,j⟩
    .have M:¬ (2147483647:Int)< (v:Int):=by omega
     go_wp2;go_ret2;exact⟨z,j⟩
   .go_wp2;go_ret2;exact⟨z,j⟩
  .have C:=J z;rw[if_pos (.inl ⟨U,C⟩)];clear E J K C;go_in;go_wp2;go_ret2;exact⟨z,Below.refl _ _⟩
 .have X:¬ (1:Int)< (s.size:Int):=by omega
  have A:¬ (1<s.size/\c=48):=fun h=>U h.1;have D:=E A;have G:((1<s.size/\c=48)∨2147483647<v)↔2147483647<v:=⟨fun h=>h.resolve_left A,.inr⟩;simp only[G];clear A J K E G;go_in;go_wp2_with fail;apply D.mono;clear D;rintro e w' ⟨h,j⟩;rcases h with rfl|⟨g,F,x,rfl⟩
  .by_cases g:2147483647<v
   .have M:(2147483647:Int)< (v:Int):=by omega
    go_wp2;go_ret2;exact⟨z,j⟩
   .have M:¬ (2147483647:Int)< (v:Int):=by omega
    go_wp2;go_ret2;exact⟨z,j⟩
  .go_wp2;go_ret2;exact⟨z,j⟩
end Go.Proofs.YtgppcdfgdaggjaaGreatDoor
