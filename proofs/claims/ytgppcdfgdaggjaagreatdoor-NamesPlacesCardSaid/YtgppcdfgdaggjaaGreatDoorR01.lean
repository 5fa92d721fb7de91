/- Texts laid together. No condition but what each law says. -/
import Derived.Test.YtgppcdfgdaggjaaGreatDoorR00
import Derived.Tactics2
namespace Go.Proofs.YtgppcdfgdaggjaaGreatDoor
open Go.RowKit
universe u
abbrev I (x:Int):Value:= .int .i64 x
abbrev Pt (b:Nat):Value:= .pointer (some ⟨b,0,none⟩)
section
variable {P:Program} {ops:Array Oper} {Q:Exit→Act→World→Prop} {a:Act} {w:World} {rest:List Oper} {t:TypeId} {p:String} {e:Array Edge} {g:Option (Nat×Bool)}
theorem s0(T:TypeId){x y:Operand}(h:wpList P ops Q (Oper.mk none (.store T x y) t p e g::rest) a w):wpList P ops Q (Oper.mk none (.store T x y) t p e g::rest) a w:=h
theorem s1(T:TypeId)(x:Tmp){y:Operand}(h:wpList P ops Q (Oper.mk none (.store T (.tmp x) y) t p e g::rest) a w):wpList P ops Q (Oper.mk none (.store T (.tmp x) y) t p e g::rest) a w:=h
theorem l1(d:Tmp)(T:TypeId){x:Operand}(h:wpList P ops Q (Oper.mk (some d) (.load T x) t p e g::rest) a w):wpList P ops Q (Oper.mk (some d) (.load T x) t p e g::rest) a w:=h
theorem l0(T:TypeId){d:Option Tmp}{x:Operand}(h:wpList P ops Q (Oper.mk d (.load T x) t p e g::rest) a w):wpList P ops Q (Oper.mk d (.load T x) t p e g::rest) a w:=h
end
end Go.Proofs.YtgppcdfgdaggjaaGreatDoor
