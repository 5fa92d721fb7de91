/- Texts laid together. No condition but what each law says. -/
import Derived.Test.YtgppcdfgdaggjaaGreatDoorR49
import Derived.Test.YtgppcdfgdaggjaaGreatDoorR16
import Derived.MapKept
set_option maxRecDepth 100000
namespace Go.Proofs.YtgppcdfgdaggjaaGreatDoor
open Go.RowKit Go.Maps
variable {m:Nat}
def PtF(w:World)(a:Addr):Prop:=∃v,w.cellF a=some v
section
variable {P:Program} {w:World} {a b:Addr}
theorem PtF.sh(h:PtF w a):∃c ty,w.1[a.block]? =some (.cells c ty (0,0)):=by obtain⟨v,h⟩:=h;exact World.cellF_shape h
theorem PtF.view(h:PtF w a):(noView a).run P w= .ok () w:=by obtain⟨c,ty,hc⟩:=h.sh;simp[noView,viewAt,World.shape?,hc]
theorem PtF.one(ha:PtF w a)(hb:PtF w b):(mayBeOne a b).run P w= .ok false w:=by obtain⟨c,ty,hc⟩:=ha.sh;obtain⟨d,ty2,hd⟩:=hb.sh;simp[mayBeOne,stringish,frozen,shape,Sem.run,World.shape?,World.frozen?,hc,hd]
theorem PtF.same(ha:PtF w a)(hb:PtF w b):(sameAddr a b).run P w= .ok (a==b) w:=by
 by_cases hbl:a.block=b.block
 .simp[sameAddr,hbl]
 .obtain⟨c,ty,hc⟩:=ha.sh;have hne:(a==b)=false:=by rw[beq_eq_false_iff_ne];intro e;exact hbl (by rw[e])
  have hf:w.frozen? a=false:=by simp[World.frozen?,hc]
  have hm:=PtF.one (P:=P) ha hb;simp[sameAddr,hbl,hf,ha.view,hb.view,hm,hne]
end
structure PtrKey (P:Program) (pt et:TypeId):Prop where
 ptr:P.underlying pt=some (.pointer et)
 info:∃n,(P.info? et).map (·.size)=some (n+1)
section
variable {P:Program} {pt et:TypeId} {w:World} {a b:Addr}
theorem PtrKey.eqIn(h:PtrKey P pt et)(d:Nat)(ha:PtF w a)(hb:PtF w b):(Op.equalIn (d+1) pt (.pointer (some a)) (.pointer (some b))).run P w= .ok (a==b) w:=by
 obtain⟨i,hi,hz⟩:∃i,P.info? et=some i/\i.size≠0:=by
  obtain⟨n,hn⟩:=h.info;cases hi:P.info? et with
  |none=>rw[hi]at hn;cases hn
  |some i=> refine⟨i,z,?_⟩;rw[hi]at hn;simp only[Option.map_some,Option.some.injEq]at hn;omega
 have hq:=PtF.same (P:=P) ha hb;simp[Op.equalIn,run_underlying h.ptr,sizeOf,typeInfo,hi,hz,hq]
theorem PtrKey.eq(h:PtrKey P pt et)(ha:PtF w a)(hb:PtF w b):(Op.equal pt (.pointer (some a)) (.pointer (some b))).run P w= .ok (a==b) w:=by unfold Op.equal;exact h.eqIn 9999 ha hb
def Keys1(w:World)(l:List MapEntry):Prop:=∀x∈l,∃b,x.key= .pointer (some b)/\PtF w b
theorem PtrKey.none(h:PtrKey P pt et):∀ (l:List MapEntry) (i:Nat),PtF w a->Keys1 w l->(∀x∈l,x.key≠ .pointer (some a))->(Instr.findAsking pt (.pointer (some a)) l i).run P w= .ok none w
 | [],i,_,_,_=>by simp[Instr.findAsking]
 |e::l,i,ha,hk,hn=>by
  obtain⟨b,hb,hp⟩:=hk e (List.mem_cons_self ..)
  have hq:=h.eq ha hp
  rw[<-hb]at hq
  have hne:(a==b)=false:=by
   rw[beq_eq_false_iff_ne]
   intro e2
   exact hn e (List.mem_cons_self ..) (by rw[hb,e2])
  rw[hne]at hq
  have ih:=h.none l (i+1) ha (fun x hx=>hk x (List.mem_cons_of_mem _ hx)) (fun x hx=>hn x (List.mem_cons_of_mem _ hx))
  simp[Instr.findAsking,hq,ih]
end
section
variable {P:Program} {pt et:TypeId} {w:World} {a b:Addr}
theorem PtrKey.findKey0(h:PtrKey P pt et)(l:List MapEntry)(ha:PtF w a)(hk:Keys1 w l)(hn:∀x∈l,x.key≠ .pointer (some a)):(Instr.findKey pt (.pointer (some a)) l).run P w= .ok Option.none w:=by
 cases l with
 |nil=>simp[Instr.findKey,run_underlying h.ptr,Instr.findNow]
 |cons e l=> have h1:=h.none (e::l) 0 ha hk hn;simp[Instr.findKey,run_underlying h.ptr,Instr.findNow,Instr.sameNow,h1]
theorem PtrKey.check(h:PtrKey P pt et)(em:Bool)(n:Nat):(Instr.checkKey em (n+1) pt (.pointer (some a))).run P w= .ok () w:=by unfold Instr.checkKey;simp[run_underlying h.ptr]
theorem PtrKey.lookup0(h:PtrKey P pt et){mt vt:TypeId}(hm:P.underlying mt=some (.map pt vt))(hz:∀w,(zeroValue vt).run P w= .ok (.agg #[]) w){es:Array MapEntry}{ck:Nat}(h1:w.1[m]? =some (.map es ck))(ha:PtF w a)(hk:Keys1 w es.toList)(hn:∀x∈es.toList,x.key≠ .pointer (some a)):
  (Instr.lookup mt (.map (some m)) (.pointer (some a)) true).run P w= .ok (.tuple #[.agg #[],.bool false]) w:=by
 have h4:=h.findKey0 es.toList ha hk hn;have hc:∀em,(Instr.checkKey em 10000 pt (.pointer (some a))).run P w= .ok () w:=fun em=>h.check em 9999;have hg:(getObj m).run P w= .ok (.map es ck) w:=by simp[getObj,Sem.run,h1]
 unfold Instr.lookup;simp only[Sem.run_bind,run_underlying hm,Result.andThen_ok,hg,Sem.run_pure,hc,h4,hz];rfl
end
section
variable {P:Program} {pt et mt vt:TypeId} {w:World} {a:Addr} {m:Nat} {es:Array MapEntry} {ck:Nat}
theorem PtrKey.last(h:PtrKey P pt et)(v:Value)(born:Nat):∀ (l:List MapEntry) (i:Nat),PtF w a->Keys1 w l->(∀x∈l,x.key≠ .pointer (some a))->(Instr.findAsking pt (.pointer (some a)) (l++[⟨.pointer (some a),v,born⟩]) i).run P w= .ok (some (i+l.length,v)) w
 | [],i,ha,_,_=>by
  have hq:=h.eq ha ha
  rw[beq_self_eq_true]at hq
  simp[Instr.findAsking,hq]
 |e::l,i,ha,hk,hn=>by
  obtain⟨b,hb,hp⟩:=hk e (List.mem_cons_self ..)
  have hq:=h.eq ha hp
  rw[<-hb]at hq
  have hne:(a==b)=false:=by
   rw[beq_eq_false_iff_ne]
   intro e2
   exact hn e (List.mem_cons_self ..) (by rw[hb,e2])
  rw[hne]at hq
  have ih:=h.last v born l (i+1) ha (fun x hx=>hk x (List.mem_cons_of_mem _ hx)) (fun x hx=>hn x (List.mem_cons_of_mem _ hx))
  simp[Instr.findAsking,hq,ih]
  omega
theorem PtrKey.findKeyL(h:PtrKey P pt et)(v:Value)(born:Nat)(l:List MapEntry)(ha:PtF w a)(hk:Keys1 w l)(hn:∀x∈l,x.key≠ .pointer (some a)):(Instr.findKey pt (.pointer (some a)) (l++[⟨.pointer (some a),v,born⟩])).run P w= .ok (some (l.length,v)) w:=by
 have h1:=h.last v born l 0 ha hk hn;rw[Nat.zero_add]at h1;cases l with
 |nil=>simpa [Instr.findKey,run_underlying h.ptr,Instr.findNow,Instr.sameNow]using h1
 |cons e l=>simpa [Instr.findKey,run_underlying h.ptr,Instr.findNow,Instr.sameNow]using h1
theorem PtrKey.update0(h:PtrKey P pt et)(hm:P.underlying mt=some (.map pt vt))(v:Value)(h1:w.1[m]? =some (.map es ck))(ha:PtF w a)(hk:Keys1 w es.toList)(hn:∀x∈es.toList,x.key≠ .pointer (some a)):
  (Instr.mapUpdate mt (.map (some m)) (.pointer (some a)) v).run P w= .ok () (w.putObj m (.map (es.push ⟨.pointer (some a),v,ck⟩) (ck+1))):=by
 have h4:=h.findKey0 es.toList ha hk hn;have hc:(Instr.checkKey false 10000 pt (.pointer (some a))).run P w= .ok () w:=h.check false 9999;have hg:(getObj m).run P w= .ok (.map es ck) w:=by simp[getObj,Sem.run,h1]
 unfold Instr.mapUpdate;simp only[Sem.run_bind,run_underlying hm,Result.andThen_ok,hg,hc,h4];simp[setObj,Sem.run,h1,World.putObj]
theorem PtrKey.delete(h:PtrKey P pt et)(hm:P.underlying mt=some (.map pt vt))(v:Value)(born:Nat)(t kt:TypeId)(h1:w.1[m]? =some (.map (es.push ⟨.pointer (some a),v,born⟩) ck))(ha:PtF w a)(hk:Keys1 w es.toList)(hn:∀x∈es.toList,x.key≠ .pointer (some a)):
  (Builtin.delete_ #[mt,kt] t #[.map (some m),.pointer (some a)]).run P w= .ok (.tuple #[]) (w.putObj m (.map es ck)):=by
 have h4:=h.findKeyL v born es.toList ha hk hn;have hc:∀em,(Instr.checkKey em 10000 pt (.pointer (some a))).run P w= .ok () w:=fun em=>h.check em 9999;have hg:(getObj m).run P w= .ok (.map (es.push ⟨.pointer (some a),v,born⟩) ck) w:=by simp[getObj,Sem.run,h1]
 have he:(es.push ⟨.pointer (some a),v,born⟩).eraseIdxIfInBounds es.size=es:=by unfold Array.eraseIdxIfInBounds;rw[dif_pos (by simp)];apply Array.toList_inj.1;rw[Array.toList_eraseIdx,Array.toList_push];rw[List.eraseIdx_append_of_length_le (by simp)];simp
 unfold Builtin.delete_;simp only[List.getElem?_toArray,List.getElem?_cons_zero,List.getElem?_cons_succ,Sem.run_bind,run_underlying hm,Result.andThen_ok,hg,hc,Array.toList_push,h4];simp[setObj,Sem.run,h1,World.putObj,he]
end
end Go.Proofs.YtgppcdfgdaggjaaGreatDoor
