/- V2: texts of one kind, one behind the other. No condition but what each law says. -/
import Derived.Test.YtjmlmelcppbefaaGreatDoorT01
import Derived.Test.YtjmlmelcppbefaaGreatDoorX1
import Derived.Test.YtjmlmelcppbefaaGreatDoorT43
set_option maxRecDepth 100000
namespace Go.Proofs.YtjmlmelcppbefaaGreatDoor
open Go.RowKit
theorem wpX_takeD {P : Program} {ops : Array Oper} {Q : Exit → Act → World → Prop} {md : Region.Mode} {late : List Nat} {S : World → Prop} (i : Nat) (d : Option Tmp) {oi : Oper} {v : Value} {fuel : Nat} {listed : Array Bool} {a : Act} {w : World} (hi : ops[i]? = some oi) (hd : oi.dst = d)
  (hb : (Region.noSelect ops && (Region.free md ops listed i && ((Region.ready md ops listed).contains i && waits md ops late i))) = true)
  (hQ : ∀ c a w, Q (.panic c) (a.put d v) w → Q (.panic c) a w) (hS : S w) (hy : YieldsIf P ops S oi v a)
  (h : wpX P md ops Q late S fuel (listed.setIfInBounds i true) (a.put d v) w) : wpX P md ops Q late S (fuel + 1) listed a w := by
 subst hd
 simp only [Bool.and_eq_true] at hb
 exact wpX_take i hi hb.1 hb.2.1 hb.2.2.1 hb.2.2.2 hQ hS hy h
end Go.Proofs.YtjmlmelcppbefaaGreatDoor
namespace Go.Proofs.YtjmlmelcppbefaaGreatDoor
open Go.RowKit Go.Maps
end Go.Proofs.YtjmlmelcppbefaaGreatDoor
namespace Go.Proofs.YtjmlmelcppbefaaGreatDoor
open Go.RowKit Go.Maps
end Go.Proofs.YtjmlmelcppbefaaGreatDoor
namespace Go.Proofs.YtjmlmelcppbefaaGreatDoor
open Go.RowKit Go.Maps
end Go.Proofs.YtjmlmelcppbefaaGreatDoor
namespace Go.Proofs.YtjmlmelcppbefaaGreatDoor
open Go.RowKit Go.Maps
end Go.Proofs.YtjmlmelcppbefaaGreatDoor
