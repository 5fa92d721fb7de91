/- Texts laid together. No condition but what each law says. -/
import Derived.Test.YtgppcdfgdaggjaaGreatDoorN02
import Derived.Maps.Own
import Derived.Maps.OwnOps
import Derived.Maps.Views
import Derived.WalkArith
import Derived.StringKeys
set_option maxRecDepth 100000
set_option maxHeartbeats 1000000
namespace Go.Proofs.YtgppcdfgdaggjaaGreatDoor
open Go.RowKit Go.Maps Go.Proofs.Tryz
open Go renaming World→Fk,Calls→Jq,plainElem→GO
open _root_.ByteArray renaming empty→Hl
open Go.Value renaming string→Hk
open List renaming getElem?_eq_getElem→FC
variable {w:Fk}{b k:Nat}
theorem Ci:Keyed prog 9:=string_keyed underlying9
theorem xx(w:Fk):(zeroValue 3).run prog w= .ok (I 0) w:=by kernel_rfl
def lN(ss:List ByteArray)(k:Nat):Lit:= .string (ss.getD k Hl).data.toList
def jx(ss:List ByteArray):Nat->DataW Unit
 |0=> .map []
 |k+1=> (jx ss k).put (lN ss k) (.lit (.int .i64 ((k:Int)+1)))
def dt(ss:List ByteArray)(t:List UInt8):Nat->Int
 |0=>0
 |k+1=>if (ss.getD k Hl).data.toList=t then (k:Int)+1 else dt ss t k
theorem tt(w:Fk)(n:Int):(Instr.makeMap 148 (some (I n))).run prog w= .ok (.map (some w.1.size)) (w.alloc (.map #[] 0)):=by simp[Instr.makeMap,run_underlying underlying148,asInt,asIntOf,Result.andThen]
theorem uZ(g:List ByteArray)(k:Nat):IsMap (jx g k):=by
 induction k with
 |zero=>exact⟨[],z⟩
 |succ k j=>exact j.put _ _
theorem sY(g:List ByteArray)(t:List UInt8)(k:Nat):(jx g k).atKey (.string t) (.lit (.int .i64 0))= .lit (.int .i64 (dt g t k)):=by
 induction k with
 |zero=>rfl
 |succ k j=>
  unfold jx dt;by_cases h:(g.getD k Hl).data.toList=t
  .rw[aD h];have e:lN g k= .string t:=by unfold lN;rw[h]
   rw[e];exact atKey_put_same (uZ g k) (show WideAt.IsKeyLit (.string t) from trivial) _ _
  .rw[am h,atKey_put_other (fun e=>h (by unfold lN at e;simpa using e.symm)) _ _];exact j
def lm(w:Fk)(b:Nat)(ss:List ByteArray):Prop:=w.1[b]? =some (.cells (ss.map Hk).toArray 9 (0,0))
theorem lm.lt{g:List ByteArray}(h:lm w b g):b<w.1.size:=(Array.getElem?_eq_some_iff.1 h).1
theorem lm.cell{g:List ByteArray}(h:lm w b g)(j:k<g.length):w.cell? (ad b k)=some (.string (g.getD k Hl)):=by unfold lm at h;simp only[World.cell?,h];simp[List.getD,FC j]
theorem kR{g:List ByteArray}(F:lm w b g)(Q:g.length<=65536)(W:∀s∈g,s.size<=maxLen):
  Jq prog 136 #[.slice (some (ad b 0)) g.length g.length] w fun e w'=>e= .returned (.map (some w.1.size))/\w'.ownsMap prog 9 (GO prog 3) w.1.size g.length (jx g g.length)/\bL w w':=by
 have X:=tt;have V:=F.lt;let ⟨len,C⟩:=eX (g.length)
 rw[C];have G:=O C;rw[C]at Q;clear C;go_in;go_wp2;go_loopw [11] (fun i wr=>∃k:Nat,k<=len/\i=I k/\wr.ownsMap prog 9 (GO prog 3) w.1.size k (jx g k)/\bL w wr) (fun i _=>len- (intOf i).toNat);case atStart=>exact⟨0,Nat.zero_le _,z,World.ownsMap_made _ _ _ _,(Below.refl _ _).alloc rl _⟩
 case round=>
  obtain⟨k,Y,rfl,E,D⟩:=hrel;by_cases H:k<len
  .have Z:(0:Int)<=(k:Int):=by omega
   have a0:(k:Int)< (len:Int):=by omega
   let ⟨s,A⟩:=eX (g.getD k Hl)
   have U:wr.cell? (ad b k)=some (.string s):=by rw[<-A];exact(D.cell (p:=(ad b k)) V).trans (F.cell (by rw[G.o];exact H))
   have M:s.size<=maxLen:=by
    rw[<-A];have J:k<g.length:=by rw[G.o];exact H
    rw[List.getD,FC J];exact W _ (List.getElem_mem J)
   have N:keyOf prog 9 (.string s)=some (lN g k):=by unfold lN;rw[A];exact Go.WideMaps.keyOf_string_mk underlying9 M
   clear A M;go_wp2_with (first
    | (at_mapUpdate;refine wpList_mapUpdate_own _ z _ _ _ 148 z 9 3 Ci underlying148 _ w.1.size k _ z E (by unfold maxLen;omega) _ _ _ z z N _ [] (plainElem_int (a:=(k:Int)+1) underlying3 (WalkArith.wf_i64 (by omega))) ?_)
    |go_in)
   intro w1 R K;have R2:=D.grown K D.size (fun j S=>by cases S;exact Nat.le_refl _);clear K E U N;go_wp2;go_roundw;case rel=>exact⟨k+1,by omega,by go_num,R,R2⟩
   case measure=>simp[intOf];omega
  .obtain rfl:k=len:=by omega
   go_wp2;go_ret;exact⟨z,E,D⟩
def iy:List ByteArray:=[⟨#[118,97,114]⟩,⟨#[97,114,114,97,121]⟩,⟨#[109,117,116,101,120]⟩,⟨#[99,111,110,100]⟩,⟨#[99,104,97,110]⟩,⟨#[116,104,114,101,97,100]⟩,⟨#[108,101,116]⟩,⟨#[105,102]⟩,⟨#[101,108,115,101]⟩,⟨#[119,104,105,108,101]⟩,⟨#[108,111,99,107]⟩,⟨#[117,110,108,111,99,107]⟩,⟨#[119,97,105,116]⟩,⟨#[115,105,103,110,97,108]⟩,⟨#[97,108,108]⟩,⟨#[115,101,110,100]⟩,⟨#[114,101,99,118]⟩,⟨#[115,112,97,119,110]⟩,⟨#[106,111,105,110]⟩,⟨#[112,114,105,110,116]⟩]
def kz:List ByteArray:=[⟨#[59]⟩,⟨#[40]⟩,⟨#[41]⟩,⟨#[123]⟩,⟨#[125]⟩,⟨#[91]⟩,⟨#[93]⟩,⟨#[61]⟩,⟨#[61,61]⟩,⟨#[33,61]⟩,⟨#[60]⟩,⟨#[60,61]⟩,⟨#[43]⟩,⟨#[45]⟩,⟨#[42]⟩,⟨#[47]⟩,⟨#[37]⟩,⟨#[38,38]⟩,⟨#[124,124]⟩,⟨#[33]⟩]
theorem iv(w:Fk)(g:List ByteArray):lm (w.alloc (.cells (g.map Hk).toArray 9)) w.1.size g:=World.alloc_heap_new _ _
def Co(ss:List ByteArray)(w:Fk)(e:Ending)(w':Fk):Prop:=
 ∃g,e= .returned (.map (some g))/\w'.ownsMap prog 9 (GO prog 3) g 20 (jx ss 20)/\Below w.1.size w w'/\w.1.size<=g
theorem im(w:Fk):Jq prog 101 #[] w (Co iy w):=by have D:=iv w iy;have g:bL w (w.alloc (.cells (iy.map Hk).toArray 9)):=(Below.refl _ w).alloc rl _;have c1:=kR D (by decide) (by decide);go_in;go_wp2_with fail;change Jq _ _ _ (w.alloc (.cells (iy.map Hk).toArray 9)) _;apply c1.mono;generalize w.alloc (.cells (iy.map Hk).toArray 9)=C at *;rintro e w1 ⟨rfl,j,A⟩;clear c1;go_wp2;go_ret;exact⟨C.1.size,z,j,g.trans (A.mono g.size),g.size⟩
theorem qK(w:Fk):Jq prog 102 #[] w (Co kz w):=by have D:=iv w kz;have g:bL w (w.alloc (.cells (kz.map Hk).toArray 9)):=(Below.refl _ w).alloc rl _;have c1:=kR D (by decide) (by decide);go_in;go_wp2_with fail;change Jq _ _ _ (w.alloc (.cells (kz.map Hk).toArray 9)) _;apply c1.mono;generalize w.alloc (.cells (kz.map Hk).toArray 9)=C at *;rintro e w1 ⟨rfl,j,A⟩;clear c1;go_wp2;go_ret;exact⟨C.1.size,z,j,g.trans (A.mono g.size),g.size⟩
end Go.Proofs.YtgppcdfgdaggjaaGreatDoor
