/- The model's comparison of two clocks: true just where their eight parts are the same. No condition. -/
import Derived.Test.YtnalpladieoegaaDoorBase
import Derived.Laws.StructEq
namespace Go.Proofs.YtnalpladieoegaaDoor
open Go.RowKit Go.Shelf

theorem part_cl (c : Ck) {k : Nat} (h : k < 8) (w : World) : (part 2 (cl c) (k * 1)).run Tryd.prog w = .ok (.int .i64 (c k)) w := by
  rcases lt8 h with rfl | rfl | rfl | rfl | rfl | rfl | rfl | rfl <;> kernel_rfl

theorem size2 (w : World) : (sizeOf 2).run Tryd.prog w = .ok 1 w := by kernel_rfl

theorem eqB_step (a b : Ck) : eqB a b = (a 0 == b 0 && (a 1 == b 1 && (a 2 == b 2 && (a 3 == b 3 && (a 4 == b 4 && (a 5 == b 5 && (a 6 == b 6 && (a 7 == b 7 && true)))))))) := rfl

theorem eq_loop (d : Nat) (a b : Ck) (w : World) (xs : List Nat) (hx : ∀ i ∈ xs, i < 8) :
    (forIn xs ((none, ()) : Option Bool × Unit) fun i _ => do
      let u ← part 2 (cl a) (i * 1)
      let v ← part 2 (cl b) (i * 1)
      let r ← Op.equalIn (d + 1) 2 u v
      if (!r) = true then pure (ForInStep.done (some false, ())) else pure (ForInStep.yield (none, ()))).run Tryd.prog w =
      .ok (if xs.all (fun i => a i == b i) then (none, ()) else (some false, ())) w := by
  induction xs with
  | nil => simp
  | cons x xs ih =>
    have hx0 := hx x (by simp)
    have ih' := ih (fun i hi => hx i (by simp [hi]))
    rw [List.forIn_cons]
    simp only [Sem.run_bind, part_cl a hx0, part_cl b hx0, Result.andThen_ok, run_equalIn_int (P := Tryd.prog) _ d 2 .i64 .i64 _ _ Tryd.underlying2, Sem.run_ite]
    cases hab : (a x == b x) with
    | false => simp [hab]
    | true =>
      simp only [Bool.not_true, Bool.false_eq_true, if_false, Sem.run_pure, Result.andThen_ok, List.all_cons, hab, Bool.true_and]
      exact ih'

theorem eqc_run1 {t : TypeId} (ht : Tryd.prog.underlying t = some (.array 8 2)) (d : Nat) (a b : Ck) (w : World) : (Op.equalIn (d + 1 + 1) t (.agg (cl a)) (.agg (cl b))).run Tryd.prog w = .ok (eqB a b) w := by
  have hl := eq_loop d a b w (List.range' 0 8 1) (by decide)
  rw [Op.equalIn]
  simp only [Sem.run_bind, run_underlying ht, Result.andThen_ok, size2]
  rw [Std.Legacy.Range.forIn_eq_forIn_range']
  have hr : List.range' [:8].start [:8].size [:8].step = List.range' 0 8 1 := rfl
  rw [hr, hl]
  have he : eqB a b = (List.range' 0 8 1).all (fun i => a i == b i) := rfl
  rw [he]
  cases (List.range' 0 8 1).all (fun i => a i == b i) <;> simp
theorem eqc_run {t : TypeId} (ht : Tryd.prog.underlying t = some (.array 8 2)) (a b : Ck) (w : World) : (Op.equalIn 10000 t (.agg (cl a)) (.agg (cl b))).run Tryd.prog w = .ok (eqB a b) w := eqc_run1 ht 9998 a b w
end Go.Proofs.YtnalpladieoegaaDoor
