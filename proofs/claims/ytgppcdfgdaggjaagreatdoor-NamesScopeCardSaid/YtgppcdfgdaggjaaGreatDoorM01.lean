/- Texts laid together. No condition but what each law says. -/
import Derived.Test.YtgppcdfgdaggjaaGreatDoorM00
import Derived.Tactics2
namespace Go.Proofs.YtgppcdfgdaggjaaGreatDoor
open Go.RowKit
open Go renaming World→Fk,TypeId→GA,wpList→GY
open Go.Oper renaming mk→In
variable {A:Act}{w:Fk}
universe u
theorem am{c:Prop}{h:Decidable c}(g:¬c){j:Sort u}{t e:j}:ite c t e=e:=if_neg g
theorem aD{c:Prop}{h:Decidable c}(g:c){j:Sort u}{t e:j}:ite c t e=t:=if_pos g
theorem dv{p:Prop}[i:Decidable p]:¬p->decide p=false:=decide_eq_false
theorem eP{p:Prop}[i:Decidable p]:p->decide p=true:=decide_eq_true
abbrev I (x:Int):Value:= .int .i64 x
abbrev ad (b k:Nat):Addr:=⟨b,k,none⟩
abbrev Pt (b:Nat):Value:= .pointer (some ⟨b,0,none⟩)
theorem ws{P:Program}{j:Exit->Act->Fk->Prop}{a:Act}{w':Fk}{x y:Code}(h:y.wp P j A w')
  (D:∀g:Act->Fk->Prop,g A w'->x.wp P (Exit.then g j) a w:=by intro g C;go_wp2_with fail;exact C):(Code.seq x y).wp P j a w:=
 wp_seq_k fun g C=>D g (C _ _ h)
section
variable {P:Program} {ops:Array Oper} {Q:Exit→Act→Fk→Prop} {a:Act} {w:Fk} {rest:List Oper} {t:GA} {p:String} {e:Array Edge} {g:Option (Nat×Bool)}
theorem s0(T:GA){x y:Operand}(h:GY P ops Q (In none (.store T x y) t p e g::rest) a w):GY P ops Q (In none (.store T x y) t p e g::rest) a w:=h
theorem s1(T:GA)(x:Tmp){y:Operand}(h:GY P ops Q (In none (.store T (.tmp x) y) t p e g::rest) a w):GY P ops Q (In none (.store T (.tmp x) y) t p e g::rest) a w:=h
theorem l1(d:Tmp)(T:GA){x:Operand}(h:GY P ops Q (In (some d) (.load T x) t p e g::rest) a w):GY P ops Q (In (some d) (.load T x) t p e g::rest) a w:=h
theorem l0(T:GA){d:Option Tmp}{x:Operand}(h:GY P ops Q (In d (.load T x) t p e g::rest) a w):GY P ops Q (In d (.load T x) t p e g::rest) a w:=h
end
end Go.Proofs.YtgppcdfgdaggjaaGreatDoor
