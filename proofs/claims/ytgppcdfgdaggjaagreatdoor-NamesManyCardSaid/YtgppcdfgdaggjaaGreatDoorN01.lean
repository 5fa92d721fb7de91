/- Texts laid together. No condition but what each law says. -/
import Derived.Test.YtgppcdfgdaggjaaGreatDoorN00
import Derived.Tactics2
namespace Go.Proofs.YtgppcdfgdaggjaaGreatDoor
open Go.RowKit
open Go renaming TypeId→GA,wpList→GY
open Go.Oper renaming mk→In
universe u
theorem am{c:Prop}{h:Decidable c}(g:¬c){j:Sort u}{t e:j}:ite c t e=e:=if_neg g
theorem aD{c:Prop}{h:Decidable c}(g:c){j:Sort u}{t e:j}:ite c t e=t:=if_pos g
theorem dv{p:Prop}[i:Decidable p]:¬p->decide p=false:=decide_eq_false
theorem eP{p:Prop}[i:Decidable p]:p->decide p=true:=decide_eq_true
abbrev I (x:Int):Value:= .int .i64 x
abbrev ad (b k:Nat):Addr:=⟨b,k,none⟩
abbrev Pt (b:Nat):Value:= .pointer (some ⟨b,0,none⟩)
section
variable {P:Program} {ops:Array Oper} {Q:Exit→Act→World→Prop} {a:Act} {w:World} {rest:List Oper} {t:GA} {p:String} {e:Array Edge} {g:Option (Nat×Bool)}
theorem s0(T:GA){x y:Operand}(h:GY P ops Q (In none (.store T x y) t p e g::rest) a w):GY P ops Q (In none (.store T x y) t p e g::rest) a w:=h
theorem s1(T:GA)(x:Tmp){y:Operand}(h:GY P ops Q (In none (.store T (.tmp x) y) t p e g::rest) a w):GY P ops Q (In none (.store T (.tmp x) y) t p e g::rest) a w:=h
theorem l1(d:Tmp)(T:GA){x:Operand}(h:GY P ops Q (In (some d) (.load T x) t p e g::rest) a w):GY P ops Q (In (some d) (.load T x) t p e g::rest) a w:=h
theorem l0(T:GA){d:Option Tmp}{x:Operand}(h:GY P ops Q (In d (.load T x) t p e g::rest) a w):GY P ops Q (In d (.load T x) t p e g::rest) a w:=h
end
end Go.Proofs.YtgppcdfgdaggjaaGreatDoor
