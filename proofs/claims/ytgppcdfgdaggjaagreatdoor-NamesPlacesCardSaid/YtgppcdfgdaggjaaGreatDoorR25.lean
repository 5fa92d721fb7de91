/- Texts laid together. No condition but what each law says. -/
import Derived.Test.YtgppcdfgdaggjaaGreatDoorR01
import Derived.Defers
namespace Go.Proofs.YtgppcdfgdaggjaaGreatDoor
open Go
variable {w:World}{v:Value}
section
variable {P:Program}
theorem step_defer_b{fr:Frame}{cs:List Frame}{w':World}{b:Builtin}{ta:Array TypeId}{t:TypeId}{cn:Array Bool}{args:Array Value}{ds:List Deferred}
  (hm:fr.mode= .returning)(hd:fr.defers=⟨.builtin b ta t cn,args⟩::ds)(hi:(invoke (.builtin b ta t cn) args).run P w= .ok (.value v) w'):
  step P (lone fr cs w)= .next (lone {fr with defers:=ds} cs w'):=by
 refine step_lone_go ?_;simp[stepG,unwind,callDeferred,hm,hd,hi]
def bodyPostB(P:Program)(fn:Func)(R:Ending->World->Prop):Exit->Act->World->Prop
 | .normal,a,w| .ret,a,w=>∃b ta t cn args v w',a.defers=[⟨.builtin b ta t cn,args⟩]/\(invoke (.builtin b ta t cn) args).run P w= .ok (.value v) w'/\∃v,(results fn a.tmps).run P w'= .ok v w'/\R (.returned v) w'
 | .outgrown,_,w=>R .outgrown w
 |_,_,_=>False
theorem calls_of_wp_b{f:FuncId}{fn:Func}{c:Code}{args:Array Value}{R:Ending->World->Prop}(hf:P.funcs[f]? =some fn)(hb:fn.body=some c)
  (h:c.wp P (bodyPostB P fn R) {tmps:=args++Array.replicate (fn.ntmps-args.size) undef,defers:=[]} w):Calls P f args w R:=by
 intro cs;let b:Frame:={(default:Frame) with fn:=f,kind:= .normal}
 have henter:Frame.enter P f args .normal=b.at {tmps:=args++Array.replicate (fn.ntmps-args.size) undef,defers:=[]} [.code c]:=by simp[Frame.enter,Frame.at,hf,hb,b]
 obtain⟨e,a',w',hq,harr⟩:=h b [] cs;rw[<-henter]at harr;cases e with
 |normal=>
  obtain⟨q,ta,t,cn,as,v,w2,hd,hi,v2,hr,hR⟩:=hq;refine⟨.returned v2,w2,{({b.at a' []with mode:= .returning}:Frame) with defers:=[]},hR,Steps.trans harr (Steps.trans (.one step_end) (.one ?_)),z,z,z,z,fn,hf,hr⟩;exact step_defer_b (fr:={b.at a' []with mode:= .returning}) z hd hi
 |ret=>
  obtain⟨q,ta,t,cn,as,v,w2,hd,hi,v2,hr,hR⟩:=hq;obtain⟨todo,hs⟩:=harr;refine⟨.returned v2,w2,{({b.at a' todo with mode:= .returning}:Frame) with defers:=[]},hR,Steps.trans hs (.one ?_),z,z,z,z,fn,hf,hr⟩;exact step_defer_b (fr:={b.at a' todo with mode:= .returning}) z hd hi
 |panic chain=>exact hq.elim
 |exit id=>exact hq.elim
 |goto l=>exact hq.elim
 |outgrown=>exact⟨.outgrown,w',b,hq,harr.resolve_left (by simp[b]),z,trivial⟩
end
end Go.Proofs.YtgppcdfgdaggjaaGreatDoor
