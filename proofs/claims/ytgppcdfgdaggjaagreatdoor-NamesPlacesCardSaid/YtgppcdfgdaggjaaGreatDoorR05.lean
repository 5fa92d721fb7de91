/- Texts laid together. No condition but what each law says. -/
import Derived.Test.YtgppcdfgdaggjaaGreatDoorR03
import Derived.Maps.Own
import Derived.Maps.OwnOps
import Derived.Maps.Views
import Derived.WalkArith
import Derived.StringKeys
set_option maxRecDepth 100000
set_option maxHeartbeats 1000000
namespace Go.Proofs.YtgppcdfgdaggjaaGreatDoor
open Go.RowKit Go.Maps
variable {w:World}{b k:Nat}
theorem law:Keyed Tryz.prog 9:=string_keyed Tryz.underlying9
theorem zero3(w:World):(zeroValue 3).run Tryz.prog w= .ok (I 0) w:=by kernel_rfl
def keyAt(ss:List ByteArray)(k:Nat):Lit:= .string (ss.getD k ByteArray.empty).data.toList
def Lst(ss:List ByteArray):Nat->DataW Unit
 |0=> .map []
 |k+1=> (Lst ss k).put (keyAt ss k) (.lit (.int .i64 ((k:Int)+1)))
def lastOf(ss:List ByteArray)(t:List UInt8):Nat->Int
 |0=>0
 |k+1=>if (ss.getD k ByteArray.empty).data.toList=t then (k:Int)+1 else lastOf ss t k
theorem run_made(w:World)(n:Int):(Instr.makeMap 148 (some (I n))).run Tryz.prog w= .ok (.map (some w.1.size)) (w.alloc (.map #[] 0)):=by simp[Instr.makeMap,run_underlying Tryz.underlying148,asInt,asIntOf,Result.andThen]
theorem lst_map(g:List ByteArray)(k:Nat):IsMap (Lst g k):=by
 induction k with
 |zero=>exact⟨[],z⟩
 |succ k j=>exact j.put _ _
theorem lst_at(g:List ByteArray)(t:List UInt8)(k:Nat):(Lst g k).atKey (.string t) (.lit (.int .i64 0))= .lit (.int .i64 (lastOf g t k)):=by
 induction k with
 |zero=>rfl
 |succ k j=>
  unfold Lst lastOf;by_cases h:(g.getD k ByteArray.empty).data.toList=t
  .rw[if_pos h];have e:keyAt g k= .string t:=by unfold keyAt;rw[h]
   rw[e];exact atKey_put_same (lst_map g k) (show WideAt.IsKeyLit (.string t) from trivial) _ _
  .rw[if_neg h,atKey_put_other (fun e=>h (by unfold keyAt at e;simpa using e.symm)) _ _];exact j
def Txts(w:World)(b:Nat)(ss:List ByteArray):Prop:=w.1[b]? =some (.cells (ss.map Value.string).toArray 9 (0,0))
theorem Txts.lt{g:List ByteArray}(h:Txts w b g):b<w.1.size:=(Array.getElem?_eq_some_iff.1 h).1
theorem Txts.cell{g:List ByteArray}(h:Txts w b g)(j:k<g.length):w.cell? ⟨b,k,none⟩=some (.string (g.getD k ByteArray.empty)):=by unfold Txts at h;simp only[World.cell?,h];simp[List.getD,List.getElem?_eq_getElem j]
theorem places_any{g:List ByteArray}(F:Txts w b g)(Q:g.length<=65536)(W:∀s∈g,s.size<=maxLen):
  Calls Tryz.prog 136 #[.slice (some ⟨b,0,none⟩) g.length g.length] w fun e w'=>e= .returned (.map (some w.1.size))/\w'.ownsMap Tryz.prog 9 (plainElem Tryz.prog 3) w.1.size g.length (Lst g g.length)/\bL w w':=by
 have X:=run_made;have V:=F.lt;obtain⟨len,C⟩:=eX (g.length);rw[C];have G:=O C;rw[C]at Q;clear C;go_in;go_wp2;go_loopw [11] (fun i wr=>∃k:Nat,k<=len/\i=I k/\wr.ownsMap Tryz.prog 9 (plainElem Tryz.prog 3) w.1.size k (Lst g k)/\bL w wr) (fun i _=>len- (intOf i).toNat);case atStart=>exact⟨0,Nat.zero_le _,z,World.ownsMap_made _ _ _ _,(Below.refl _ _).alloc rl _⟩
 case round=>
  obtain⟨k,Y,rfl,E,D⟩:=hrel;by_cases H:k<len
  .have Z:(0:Int)<=(k:Int):=by omega
   have a0:(k:Int)< (len:Int):=by omega
   obtain⟨s,A⟩:=eX (g.getD k ByteArray.empty);have U:wr.cell? ⟨b,k,none⟩=some (.string s):=by rw[<-A];exact(D.cell (p:=⟨b,k,none⟩) V).trans (F.cell (by rw[G.o];exact H))
   have M:s.size<=maxLen:=by
    rw[<-A];have J:k<g.length:=by rw[G.o];exact H
    rw[List.getD,List.getElem?_eq_getElem J];exact W _ (List.getElem_mem J)
   have N:keyOf Tryz.prog 9 (.string s)=some (keyAt g k):=by unfold keyAt;rw[A];exact Go.WideMaps.keyOf_string_mk Tryz.underlying9 M
   clear A M;go_wp2_with (first
    | (at_mapUpdate;refine wpList_mapUpdate_own _ z _ _ _ 148 z 9 3 law Tryz.underlying148 _ w.1.size k _ z E (by unfold maxLen;omega) _ _ _ z z N _ [] (plainElem_int (a:=(k:Int)+1) Tryz.underlying3 (WalkArith.wf_i64 (by omega))) ?_)
    |go_in)
   intro w1 R K;have R2:=D.grown K D.size (fun j S=>by cases S;exact Nat.le_refl _);clear K E U N;go_wp2;go_roundw;case rel=>exact⟨k+1,by omega,by go_num,R,R2⟩
   case measure=>simp[intOf];omega
  .obtain rfl:k=len:=by omega
   go_wp2;go_ret;exact⟨z,E,D⟩
def kwL:List ByteArray:=[⟨#[118,97,114]⟩,⟨#[97,114,114,97,121]⟩,⟨#[109,117,116,101,120]⟩,⟨#[99,111,110,100]⟩,⟨#[99,104,97,110]⟩,⟨#[116,104,114,101,97,100]⟩,⟨#[108,101,116]⟩,⟨#[105,102]⟩,⟨#[101,108,115,101]⟩,⟨#[119,104,105,108,101]⟩,⟨#[108,111,99,107]⟩,⟨#[117,110,108,111,99,107]⟩,⟨#[119,97,105,116]⟩,⟨#[115,105,103,110,97,108]⟩,⟨#[97,108,108]⟩,⟨#[115,101,110,100]⟩,⟨#[114,101,99,118]⟩,⟨#[115,112,97,119,110]⟩,⟨#[106,111,105,110]⟩,⟨#[112,114,105,110,116]⟩]
def sgL:List ByteArray:=[⟨#[59]⟩,⟨#[40]⟩,⟨#[41]⟩,⟨#[123]⟩,⟨#[125]⟩,⟨#[91]⟩,⟨#[93]⟩,⟨#[61]⟩,⟨#[61,61]⟩,⟨#[33,61]⟩,⟨#[60]⟩,⟨#[60,61]⟩,⟨#[43]⟩,⟨#[45]⟩,⟨#[42]⟩,⟨#[47]⟩,⟨#[37]⟩,⟨#[38,38]⟩,⟨#[124,124]⟩,⟨#[33]⟩]
theorem txts_new(w:World)(g:List ByteArray):Txts (w.alloc (.cells (g.map Value.string).toArray 9)) w.1.size g:=World.alloc_heap_new _ _
def Mad(ss:List ByteArray)(w:World)(e:Ending)(w':World):Prop:=
 ∃g,e= .returned (.map (some g))/\w'.ownsMap Tryz.prog 9 (plainElem Tryz.prog 3) g 20 (Lst ss 20)/\Below w.1.size w w'/\w.1.size<=g
theorem keywords_any(w:World):Calls Tryz.prog 101 #[] w (Mad kwL w):=by have D:=txts_new w kwL;have g:bL w (w.alloc (.cells (kwL.map Value.string).toArray 9)):=(Below.refl _ w).alloc rl _;have c1:=places_any D (by decide) (by decide);go_in;go_wp2_with fail;change Calls _ _ _ (w.alloc (.cells (kwL.map Value.string).toArray 9)) _;apply c1.mono;generalize w.alloc (.cells (kwL.map Value.string).toArray 9)=C at *;rintro e w1 ⟨rfl,j,A⟩;clear c1;go_wp2;go_ret;exact⟨C.1.size,z,j,g.trans (A.mono g.size),g.size⟩
theorem signs_any(w:World):Calls Tryz.prog 102 #[] w (Mad sgL w):=by have D:=txts_new w sgL;have g:bL w (w.alloc (.cells (sgL.map Value.string).toArray 9)):=(Below.refl _ w).alloc rl _;have c1:=places_any D (by decide) (by decide);go_in;go_wp2_with fail;change Calls _ _ _ (w.alloc (.cells (sgL.map Value.string).toArray 9)) _;apply c1.mono;generalize w.alloc (.cells (sgL.map Value.string).toArray 9)=C at *;rintro e w1 ⟨rfl,j,A⟩;clear c1;go_wp2;go_ret;exact⟨C.1.size,z,j,g.trans (A.mono g.size),g.size⟩
end Go.Proofs.YtgppcdfgdaggjaaGreatDoor
