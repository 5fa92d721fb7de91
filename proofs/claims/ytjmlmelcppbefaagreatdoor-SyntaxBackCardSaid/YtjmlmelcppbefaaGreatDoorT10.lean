/- What the syntax texts share, part 10. No condition. -/
import Derived.Lib.ItoaLen
import Derived.Test.YtjmlmelcppbefaaGreatDoorT09
namespace Go.Proofs.YtjmlmelcppbefaaGreatDoor
def bS (l : List UInt8) : ByteArray := ⟨l.toArray⟩
def Ex.bind : Ex → Nat
 | .mk k _ _ _ _ o _ => if k = 6 then rankOf o.toNat else if k = 4 ∨ k = 5 then 6 else 7
def par (b n : Nat) (t : List UInt8) : List UInt8 := if b < n then 40 :: (t ++ [41]) else t
def exT : Ex → List UInt8
 | .mk k n s _ _ _ [] => if k = 1 then Lib.itoa n else s.data.toList
 | .mk k _ s _ _ _ [x] => if k = 3 then s.data.toList ++ (91 :: (exT x ++ [93])) else (if k = 4 then 45 else 33) :: par x.bind 6 (exT x)
 | .mk _ _ _ _ _ o [x, y] => par x.bind (if rankOf o.toNat = 3 then 4 else rankOf o.toNat) (exT x) ++ (32 :: ((opS.getD o.toNat noB).data.toList ++ (32 :: par y.bind (rankOf o.toNat + 1) (exT y))))
 | _ => []
def tabs (n : Nat) : List UInt8 := List.replicate n 9
def exW (e : Ex) (n : Nat) : List UInt8 := par e.bind n (exT e)
mutual
def stT : St → Nat → List UInt8
 | .mk k _ _ s t x y body els _ _ _ _, n =>
  if k = 1 then [108, 101, 116, 32] ++ (s.data.toList ++ ([32, 61, 32] ++ (exT x ++ [59])))
  else if k = 2 then s.data.toList ++ ([32, 61, 32] ++ (exT x ++ [59]))
  else if k = 3 then s.data.toList ++ ([91] ++ (exT y ++ ([93, 32, 61, 32] ++ (exT x ++ [59]))))
  else if k = 4 then [105, 102, 32] ++ (exT x ++ ([32] ++ (([123, 10] ++ (blT body (n + 1) ++ (tabs n ++ [125]))) ++ (if els = [] then [] else [32, 101, 108, 115, 101, 32] ++ ([123, 10] ++ (blT els (n + 1) ++ (tabs n ++ [125])))))))
  else if k = 5 then [119, 104, 105, 108, 101, 32] ++ (exT x ++ ([32] ++ ([123, 10] ++ (blT body (n + 1) ++ (tabs n ++ [125])))))
  else if k = 8 ∨ k = 12 then (stW.getD k.toNat noB).data.toList ++ ([32] ++ (s.data.toList ++ ([32] ++ (t.data.toList ++ [59]))))
  else if k = 11 then [115, 101, 110, 100, 32] ++ (s.data.toList ++ ([32] ++ (exT x ++ [59])))
  else if k = 14 then [106, 111, 105, 110, 59]
  else if k = 15 then [112, 114, 105, 110, 116, 32] ++ (exT x ++ [59])
  else (stW.getD k.toNat noB).data.toList ++ ([32] ++ (s.data.toList ++ [59]))
def blT : List St → Nat → List UInt8
 | [], _ => []
 | s :: r, n => tabs n ++ (stT s n ++ ([10] ++ blT r n))
end
def blockT (l : List St) (n : Nat) : List UInt8 := [123, 10] ++ (blT l (n + 1) ++ (tabs n ++ [125]))
def deT (d : De) : List UInt8 :=
 if d.kind = 1 then [118, 97, 114, 32] ++ (d.name.data.toList ++ ([32, 61, 32] ++ (Lib.itoa d.num ++ [59, 10])))
 else if d.kind = 2 then [97, 114, 114, 97, 121, 32] ++ (d.name.data.toList ++ ([32] ++ (Lib.itoa d.num ++ [59, 10])))
 else if d.kind = 3 then [109, 117, 116, 101, 120, 32] ++ (d.name.data.toList ++ [59, 10])
 else if d.kind = 4 then [99, 111, 110, 100, 32] ++ (d.name.data.toList ++ [59, 10])
 else if d.kind = 5 then [99, 104, 97, 110, 32] ++ (d.name.data.toList ++ ([32] ++ (Lib.itoa d.num ++ [59, 10])))
 else [116, 104, 114, 101, 97, 100, 32] ++ (d.name.data.toList ++ ([32] ++ (blockT d.body 0 ++ [10])))
def prT (l : List De) : List UInt8 := l.flatMap deT
def exR (nm : ByteArray → Bool) : Ex → Nat → Bool
 | .mk k n s _ _ o args, d => decide (1 ≤ d) && ((decide (k = 1) || decide (n = 0)) && ((decide (k = 6) || decide (o = 0)) && ((if k = 2 ∨ k = 3 then nm s else decide (s = noB)) && match args with
  | [] => (decide (k = 1) && (decide (0 ≤ n) && decide (n ≤ 2147483647))) || decide (k = 2)
  | [x] => (decide (k = 3) || (decide (k = 4) || decide (k = 5))) && exR nm x (d - 1)
  | [x, y] => (decide (k = 6) && (decide (1 ≤ o) && decide (o ≤ 11))) && (exR nm x (d - 1) && exR nm y (d - 1))
  | _ => false)))
def nName (k : Int) : Bool := decide (k ≠ 4) && (decide (k ≠ 5) && decide (k < 14))
def nWith (k : Int) : Bool := decide (k = 8) || decide (k = 12)
def nExpr (k : Int) : Bool := decide (k ≤ 5) || (decide (k = 11) || decide (k = 15))
def exZ : Ex → Bool
 | .mk k n s _ _ o args => decide (k = 0) && (decide (n = 0) && (decide (s = noB) && (decide (o = 0) && decide (args.length = 0))))
mutual
def stR (nm : ByteArray → Bool) : St → Nat → Bool
 | .mk k _ _ s t x y body els _ _ _ _, d => (decide (1 ≤ k) && decide (k ≤ 15)) && (decide (d ≤ 24) && ((if nName k = true then nm s else decide (s = noB)) && ((if nWith k = true then nm t else decide (t = noB)) &&
  ((if k = 3 then exR nm y 24 else exZ y) && ((if nExpr k = true then exR nm x 24 else exZ x) && (((decide (k = 4) || decide (k = 5)) || decide (body.length = 0)) && ((decide (k = 4) || decide (els.length = 0)) && (stsR nm body (d + 1) && stsR nm els (d + 1)))))))))
def stsR (nm : ByteArray → Bool) : List St → Nat → Bool
 | [], _ => true
 | s :: r, d => stR nm s d && stsR nm r d
end
def deR (nm : ByteArray → Bool) (d : De) : Bool := nm d.name && ((decide (d.kind = 6) || decide (d.body.length = 0)) &&
 (if d.kind = 1 then decide (-2147483647 ≤ d.num) && decide (d.num ≤ 2147483647)
  else if d.kind = 2 ∨ d.kind = 5 then decide (0 ≤ d.num) && decide (d.num ≤ 2147483647)
  else if d.kind = 3 ∨ d.kind = 4 then decide (d.num = 0)
  else if d.kind = 6 then decide (d.num = 0) && stsR nm d.body 1
  else false))
def desR (nm : ByteArray → Bool) (l : List De) : Bool := l.all (deR nm)
end Go.Proofs.YtjmlmelcppbefaaGreatDoor
namespace Go.Proofs.YtjmlmelcppbefaaGreatDoor
def arity (k : Int) : Nat := if k = 1 ∨ k = 2 then 0 else if k = 6 then 2 else 1
def kindOk (k n o : Int) : Bool := if k = 1 then decide (0 ≤ n) && decide (n ≤ 2147483647) else if k = 6 then decide (1 ≤ o) && decide (o ≤ 11) else decide (2 ≤ k) && decide (k ≤ 5)
def exsR (nm : ByteArray → Bool) (l : List Ex) (d : Nat) : Bool := l.all fun x => exR nm x d
theorem exR_eq (nm : ByteArray → Bool) (k n : Int) (s : ByteArray) (sl : Int) (lo : Bool) (o : Int) (args : List Ex) (d : Nat) :
  exR nm (.mk k n s sl lo o args) d = (decide (1 ≤ d) && ((decide (k = 1) || decide (n = 0)) && ((decide (k = 6) || decide (o = 0)) && ((if k = 2 ∨ k = 3 then nm s else decide (s = noB)) && (kindOk k n o && (decide (args.length = arity k) && exsR nm args (d - 1))))))) := by
 unfold exR kindOk arity exsR
 congr 4
 rcases args with _ | ⟨x, _ | ⟨y, _ | ⟨z, r⟩⟩⟩
 ·by_cases h1 : k = 1
  ·subst h1
   simp
  ·by_cases h2 : k = 2
   ·subst h2
    simp
   ·by_cases h6 : k = 6
    ·subst h6
     simp
    ·simp [h1, h2, h6]
 ·by_cases h1 : k = 1
  ·subst h1
   simp
  ·by_cases h6 : k = 6
   ·subst h6
    simp
   ·by_cases h2 : k = 2
    ·subst h2
     simp
    ·by_cases h3 : k = 3
     ·subst h3
      simp
     ·by_cases h4 : k = 4
      ·subst h4
       simp
      ·by_cases h5 : k = 5
       ·subst h5
        simp
       ·have : ¬ (2 ≤ k ∧ k ≤ 5) := by omega
        have h7 : (decide (2 ≤ k) && decide (k ≤ 5)) = false := by
         rw [← Bool.not_eq_true, Bool.and_eq_true, decide_eq_true_eq, decide_eq_true_eq]
         exact this
        simp [h1, h2, h3, h4, h5, h6]
        intro h8 h9
        omega
 ·by_cases h1 : k = 1
  ·subst h1
   simp
  ·by_cases h6 : k = 6
   ·subst h6
    simp [Bool.and_assoc]
   ·by_cases h2 : k = 2
    ·subst h2
     simp
    ·simp [h1, h2, h6]
 ·by_cases h1 : k = 1
  ·subst h1
   simp
  ·by_cases h6 : k = 6
   ·subst h6
    simp
   ·by_cases h2 : k = 2
    ·subst h2
     simp
    ·simp [h1, h2, h6]
theorem exsR_drop {nm : ByteArray → Bool} {l : List Ex} {i d : Nat} (h : i < l.length) : exsR nm (l.drop i) d = (exR nm (l.getD i zEx) d && exsR nm (l.drop (i + 1)) d) := by
 unfold exsR
 rw [List.drop_eq_getElem_cons h, List.all_cons]
 simp [List.getD_eq_getElem?_getD, h]
mutual
def Ex.nb : Ex → Prop
 | .mk _ _ s _ _ _ args => s.size ≤ 9223372036854775807 ∧ Ex.nbs args
def Ex.nbs : List Ex → Prop
 | [] => True
 | x :: r => x.nb ∧ Ex.nbs r
end
theorem Ex.nbs_at : ∀ {l : List Ex}, Ex.nbs l → ∀ {j : Nat}, j < l.length → (l.getD j zEx).nb
 | [], _, j, h => by cases h
 | x :: r, h1, j, h => by
  unfold Ex.nbs at h1
  cases j with
  | zero => exact h1.1
  | succ j => simpa using Ex.nbs_at h1.2 (j := j) (by simpa using h)
mutual
def St.nb : St → Prop
 | .mk _ _ _ s t x y b e _ _ _ _ => s.size ≤ 9223372036854775807 ∧ t.size ≤ 9223372036854775807 ∧ x.nb ∧ y.nb ∧ St.nbs b ∧ St.nbs e
def St.nbs : List St → Prop
 | [] => True
 | x :: r => x.nb ∧ St.nbs r
end
theorem St.nbs_at : ∀ {l : List St}, St.nbs l → ∀ {j : Nat} {s : St}, l[j]? = some s → s.nb
 | [], _, _, _, h => by simp at h
 | s :: r, h1, j, t, h => by
  unfold St.nbs at h1
  cases j with
  | zero =>
   simp only [List.getElem?_cons_zero, Option.some.injEq] at h
   subst h
   exact h1.1
  | succ j => exact St.nbs_at h1.2 (by simpa using h)
def De.nb (d : De) : Prop := d.name.size ≤ 9223372036854775807 ∧ St.nbs d.body
theorem stsR_drop {nm : ByteArray → Bool} {l : List St} {i d : Nat} {s : St} (h : l[i]? = some s) : stsR nm (l.drop i) d = (stR nm s d && stsR nm (l.drop (i + 1)) d) := by
 obtain ⟨hi, rfl⟩ := List.getElem?_eq_some_iff.1 h
 rw [List.drop_eq_getElem_cons hi, stsR]
end Go.Proofs.YtjmlmelcppbefaaGreatDoor
