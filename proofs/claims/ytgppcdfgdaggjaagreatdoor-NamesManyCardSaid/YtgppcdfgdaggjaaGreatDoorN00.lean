/- Texts laid together. No condition but what each law says. -/
import Derived.Below
import Derived.Tactics
import Derived.Control
import Derived.Lib.Hide
namespace Go.RowKit
theorem Hid.o{p:Prop}(h:Hid p):p:=h
end Go.RowKit
namespace Go.Proofs.YtgppcdfgdaggjaaGreatDoor
open Go.RowKit
open Go renaming World→Fk,wpList→GY
variable {w:Fk}{n:Nat}
universe u
theorem wk{P:Program}{j:Exit->Act->Fk->Prop}{a:Act}{x y:Code}(h:∀g:Act->Fk->Prop,Hid (∀a w,y.wp P j a w->g a w)->x.wp P (Exit.then g j) a w):(Code.seq x y).wp P j a w:=
 wp_seq_k fun g A=>h g (Lib.hid A)
theorem z {g : Sort u} {a : g} : a = a := rfl
theorem O{p:Prop}(h:p):Hid p:=h
theorem eX{g:Sort u}(e:g):∃x,e=x:=⟨_,rfl⟩
theorem rl:n<=n:=Nat.le_refl n
abbrev bL (w W:Fk):Prop:=Below w.1.size w W
section
variable {P:Program} {ops:Array Oper} {Q:Exit→Act→Fk→Prop} {a:Act} {w:Fk} {rest:List Oper} {t:TypeId} {p:String} {e:Array Edge} {g:Option (Nat×Bool)}
theorem cp(d:Tmp)(o:Op)(h:GY P ops Q (Oper.mk (some d) o t p e g::rest) a w):GY P ops Q (Oper.mk (some d) o t p e g::rest) a w:=h
theorem cY(o:Op)(h:GY P ops Q (Oper.mk none o t p e g::rest) a w):GY P ops Q (Oper.mk none o t p e g::rest) a w:=h
theorem gU(d:Option Tmp)(o:Op)(h:GY P ops Q (Oper.mk d o t p e g::rest) a w):GY P ops Q (Oper.mk d o t p e g::rest) a w:=h
end
def All:Nat->(List Value->Prop)->Prop
 |0,P=>P []
 |n+1,P=>∀u,All n fun l=>P (u::l)
theorem aN{P:List Value->Prop}(h:All n P):∀g:List Value,g.length=n->P g:=by
 induction n generalizing P with
 |zero=>intro g j;obtain rfl:=List.length_eq_zero_iff.1 j;exact h
 |succ n w=>
  intro g j;cases g with
  |nil=>cases j
  |cons u l=>exact w (h u) l (Nat.succ.inj j)
end Go.Proofs.YtgppcdfgdaggjaaGreatDoor
