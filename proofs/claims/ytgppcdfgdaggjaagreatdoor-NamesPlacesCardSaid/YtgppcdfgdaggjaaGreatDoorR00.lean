/- Texts laid together. No condition but what each law says. -/
import Derived.Below
import Derived.Tactics
import Derived.Control
import Derived.Lib.Hide
namespace Go.RowKit
theorem Hid.o{p:Prop}(h:Hid p):p:=h
end Go.RowKit
namespace Go.Proofs.YtgppcdfgdaggjaaGreatDoor
open Go.RowKit
variable {w:World}{n:Nat}
universe u
theorem wk{P:Program}{Q:Exit->Act->World->Prop}{a:Act}{x y:Code}(h:∀K:Act->World->Prop,Hid (∀a w,y.wp P Q a w->K a w)->x.wp P (Exit.then K Q) a w):(Code.seq x y).wp P Q a w:=
 wp_seq_k fun K hK=>h K (Lib.hid hK)
theorem z {α : Sort u} {a : α} : a = a := rfl
theorem O{p:Prop}(h:p):Hid p:=h
theorem eX{α:Sort u}(e:α):∃x,e=x:=⟨_,rfl⟩
theorem rl:n<=n:=Nat.le_refl n
abbrev bL (w W:World):Prop:=Below w.1.size w W
section
variable {P:Program} {ops:Array Oper} {Q:Exit→Act→World→Prop} {a:Act} {w:World} {rest:List Oper} {t:TypeId} {p:String} {e:Array Edge} {g:Option (Nat×Bool)}
theorem aa(d:Tmp)(o:Op)(h:wpList P ops Q (Oper.mk (some d) o t p e g::rest) a w):wpList P ops Q (Oper.mk (some d) o t p e g::rest) a w:=h
theorem ah(o:Op)(h:wpList P ops Q (Oper.mk none o t p e g::rest) a w):wpList P ops Q (Oper.mk none o t p e g::rest) a w:=h
theorem am(d:Option Tmp)(o:Op)(h:wpList P ops Q (Oper.mk d o t p e g::rest) a w):wpList P ops Q (Oper.mk d o t p e g::rest) a w:=h
end
def All:Nat->(List Value->Prop)->Prop
 |0,P=>P []
 |n+1,P=>∀u,All n fun l=>P (u::l)
theorem aN{P:List Value->Prop}(h:All n P):∀U:List Value,U.length=n->P U:=by
 induction n generalizing P with
 |zero=>intro U hU;obtain rfl:=List.length_eq_zero_iff.1 hU;exact h
 |succ n ih=>
  intro U hU;cases U with
  |nil=>cases hU
  |cons u l=>exact ih (h u) l (Nat.succ.inj hU)
end Go.Proofs.YtgppcdfgdaggjaaGreatDoor
