/- Lists of words are compared by the document. Asked: they lie there. -/
import Derived.Test.YtinfocnihngbiaaDoorTok
import Derived.Laws.StructEq
namespace Go.Proofs.YtinfocnihngbiaaDoor
open Go.RowKit

/-- A word: kind, bytes, number, place. -/
structure Wd where
  kind : Int
  text : ByteArray
  num : Int
  line : Int
  col : Int
def Wd.cells (t : Wd) : List Value := [.int .i64 t.kind, .string t.text, .int .i64 t.num, .int .i64 t.line, .int .i64 t.col]
def Wd.val (t : Wd) : Value := .agg #[.int .i64 t.kind, .string t.text, .int .i64 t.num, .int .i64 t.line, .int .i64 t.col]
def Wd.eqB (a b : Wd) : Bool := decide (a.kind = b.kind) && (a.text.toList == b.text.toList) && decide (a.num = b.num) && decide (a.line = b.line) && decide (a.col = b.col)

theorem flds39 : (Tryd.prog.fieldsOf 39).toList = [⟨"Kind", 37, 0, false, "", "", 0⟩, ⟨"Text", 9, 1, false, "", "", 8⟩, ⟨"Num", 2, 2, false, "", "", 24⟩, ⟨"Pos", 25, 3, false, "", "", 32⟩] := by kernel_rfl
theorem flds25 : (Tryd.prog.fieldsOf 25).toList = [⟨"Line", 3, 0, false, "", "", 0⟩, ⟨"Col", 3, 1, false, "", "", 8⟩] := by kernel_rfl
theorem st39 : Tryd.prog.underlying 39 = some (.struct (Tryd.prog.fieldsOf 39)) := by kernel_rfl
theorem st25 : Tryd.prog.underlying 25 = some (.struct (Tryd.prog.fieldsOf 25)) := by kernel_rfl
theorem held39 : Tryd.prog.stoodInHeld 39 = false := by kernel_rfl
theorem held25 : Tryd.prog.stoodInHeld 25 = false := by kernel_rfl
section
variable (t : Wd) (w : World)
theorem part_k : (part 37 #[.int .i64 t.kind, .string t.text, .int .i64 t.num, .int .i64 t.line, .int .i64 t.col] 0).run Tryd.prog w = .ok (.int .i64 t.kind) w := by kernel_rfl
theorem part_t : (part 9 #[.int .i64 t.kind, .string t.text, .int .i64 t.num, .int .i64 t.line, .int .i64 t.col] 1).run Tryd.prog w = .ok (.string t.text) w := by kernel_rfl
theorem part_n : (part 2 #[.int .i64 t.kind, .string t.text, .int .i64 t.num, .int .i64 t.line, .int .i64 t.col] 2).run Tryd.prog w = .ok (.int .i64 t.num) w := by kernel_rfl
theorem part_p : (part 25 #[.int .i64 t.kind, .string t.text, .int .i64 t.num, .int .i64 t.line, .int .i64 t.col] 3).run Tryd.prog w = .ok (.agg #[.int .i64 t.line, .int .i64 t.col]) w := by kernel_rfl
theorem part_l (x y : Int) : (part 3 #[.int .i64 x, .int .i64 y] 0).run Tryd.prog w = .ok (.int .i64 x) w := by kernel_rfl
theorem part_c (x y : Int) : (part 3 #[.int .i64 x, .int .i64 y] 1).run Tryd.prog w = .ok (.int .i64 y) w := by kernel_rfl
end

set_option maxRecDepth 100000 in
theorem eqp_run (d : Nat) (x y x' y' : Int) (w : World) : (Op.equalIn (d + 1 + 1) 25 (.agg #[.int .i64 x, .int .i64 y]) (.agg #[.int .i64 x', .int .i64 y'])).run Tryd.prog w = .ok (x == x' && y == y') w := by
  rw [run_equalIn_struct w (d + 1) 25 _ _ st25 held25, flds25]
  simp only [Op.eqFields, ne_eq, String.reduceEq, not_false_eq_true, if_true, Sem.run_bind, part_l, part_c, Result.andThen_ok, run_equalIn_int (P := Tryd.prog) w d 3 .i64 .i64 _ _ Tryd.underlying3, Sem.run_ite, Sem.run_pure]
  cases h1 : (x == x')
  · simp
  · cases h2 : (y == y')
    · simp
    · simp

set_option maxRecDepth 100000 in
theorem eqw_run (a b : Wd) (w : World) : (Op.equalIn 10000 39 a.val b.val).run Tryd.prog w = .ok ((a.kind == b.kind) && ((a.text.toList == b.text.toList) && ((a.num == b.num) && ((a.line == b.line) && (a.col == b.col))))) w := by
  have he := eqp_run 9997 a.line a.col b.line b.col w
  unfold Wd.val
  rw [show (10000 : Nat) = 9999 + 1 from rfl, run_equalIn_struct w 9999 39 _ _ st39 held39, flds39]
  simp only [Op.eqFields, ne_eq, String.reduceEq, not_false_eq_true, if_true, Sem.run_bind, part_k, part_t, part_n, part_p, Result.andThen_ok, run_equalIn_int (P := Tryd.prog) w 9998 37 .i64 .i64 _ _ Tryd.underlying37, run_equalIn_int (P := Tryd.prog) w 9998 2 .i64 .i64 _ _ Tryd.underlying2, run_equalIn_string (P := Tryd.prog) w 9998 9 _ _ Tryd.underlying9, he, Sem.run_ite, Sem.run_pure]
  cases h1 : (a.kind == b.kind)
  · simp
  · cases h2 : (a.text.toList == b.text.toList)
    · simp
    · cases h3 : (a.num == b.num)
      · simp
      · cases h4 : (a.line == b.line && a.col == b.col)
        · simp
        · simp

/-- Two words are the same. -/
def wdE (a b : Wd) : Bool := (a.kind == b.kind) && ((a.text.toList == b.text.toList) && ((a.num == b.num) && ((a.line == b.line) && (a.col == b.col))))
instance : Inhabited Wd := ⟨⟨0, ⟨#[]⟩, 0, 0, 0⟩⟩
/-- The slice at a holds the words l. -/
def Wds (w : World) (a : Option Addr) (l : List Wd) : Prop := ∀ i, i < l.length → ∃ b off, a = some ⟨b, off, none⟩ ∧
  w.cell? ⟨b, off + i * 5, none⟩ = some (.int .i64 (l.getD i default).kind) ∧ w.cell? ⟨b, off + i * 5 + 1, none⟩ = some (.string (l.getD i default).text) ∧ w.cell? ⟨b, off + i * 5 + 2, none⟩ = some (.int .i64 (l.getD i default).num) ∧
  w.cell? ⟨b, off + i * 5 + 3, none⟩ = some (.int .i64 (l.getD i default).line) ∧ w.cell? ⟨b, off + i * 5 + 4, none⟩ = some (.int .i64 (l.getD i default).col)
def wdsE (l m : List Wd) : Bool := l.length == m.length && (List.range l.length).all fun k => wdE (l.getD k default) (m.getD k default)

set_option maxRecDepth 100000 in
set_option maxHeartbeats 4000000 in
theorem wsame_in {w : World} {a1 a2 : Option Addr} {c1 c2 n1 n2 : Nat} {l1 l2 : List Wd} (hn1 : l1.length = n1) (hn2 : l2.length = n2) (hm : n1 ≤ 1000000) (h1 : Wds w a1 l1) (h2 : Wds w a2 l2) :
    Calls Tryd.prog 13 #[.slice a1 n1 c1, .slice a2 n2 c2] w fun e w' => e = .returned (.bool (wdsE l1 l2)) ∧ ∃ n, w' = w.drewN n := by
  by_cases hne : n1 = n2
  · subst hne
    have HN := Lib.hid (And.intro hn1 hn2)
    obtain ⟨r, hr⟩ : ∃ r, wdsE l1 l2 = r := ⟨_, rfl⟩
    have hr0 : r = (List.range n1).all fun k => wdE (l1.getD k default) (l2.getD k default) := by
      rw [← hr]
      unfold wdsE
      rw [hn1, hn2, beq_self_eq_true, Bool.true_and]
    have HR := Lib.hid hr0
    rw [hr]
    clear hr hr0 hn1 hn2
    go_enter Tryd.func13, Tryd.ntmps13
    go_wp2_with fail
    go_loopw [5] (fun i wr => ∃ k : Nat, k ≤ n1 ∧ i = .int .i64 k ∧ Hid (∀ j, j < k → wdE (l1.getD j default) (l2.getD j default) = true) ∧ ∃ n, wr = w.drewN n) (fun i _ => n1 - (intOf i).toNat)
    case atStart => exact ⟨0, by omega, rfl, Lib.hid (fun j hj => by omega), 0, rfl⟩
    case round =>
      obtain ⟨k, hk, rfl, HE, n, rfl⟩ := hrel
      by_cases hlk : k < n1
      · have hp0 : (0 : Int) ≤ (k : Int) := by omega
        have hp1 : (k : Int) < (n1 : Int) := by omega
        obtain ⟨b, off, rfl, x0, x1, x2, x3, x4⟩ := h1 k (by have := HN.out; omega)
        obtain ⟨b', off', rfl, y0, y1, y2, y3, y4⟩ := h2 k (by have := HN.out; omega)
        obtain ⟨c, hc⟩ : ∃ c, l1.getD k default = c := ⟨_, rfl⟩
        obtain ⟨d, hd⟩ : ∃ d, l2.getD k default = d := ⟨_, rfl⟩
        rw [hc] at x0 x1 x2 x3 x4
        rw [hd] at y0 y1 y2 y3 y4
        obtain ⟨q, hq⟩ : ∃ q, wdE c d = q := ⟨_, rfl⟩
        have heq := fun w => eqw_run c d w
        rw [show (c.kind == d.kind && (c.text.toList == d.text.toList && (c.num == d.num && (c.line == d.line && c.col == d.col)))) = q from hq] at heq
        unfold Wd.val at heq
        have HQ := Lib.hid (show wdE (l1.getD k default) (l2.getD k default) = q by rw [hc, hd]; exact hq)
        clear hq hc hd
        go_wp2_with fail
        go_quiet (fail)
        cases q
        · have hrf : r = false := by
            rw [HR.out, List.all_eq_false]
            exact ⟨k, by simpa using hlk, by rw [HQ.out]; decide⟩
          subst hrf
          go_wp2
          go_ret
          exact ⟨rfl, _, by first | rfl | (rw [World.drewN_drewN])⟩
        · have HE2 := Lib.hid (show ∀ j, j < k + 1 → wdE (l1.getD j default) (l2.getD j default) = true from fun j hj => by
            rcases Nat.lt_or_ge j k with h | h
            · exact HE.out j h
            · obtain rfl : j = k := by omega
              exact HQ.out)
          go_wp2
          go_roundw
          case rel => exact ⟨k + 1, by omega, by go_num, HE2, _, by first | rfl | (rw [World.drewN_drewN])⟩
          case measure => simp [intOf]; omega
      · obtain rfl : k = n1 := by omega
        have hrt : r = true := by
          rw [HR.out, List.all_eq_true]
          intro j hj
          exact HE.out j (by simpa using hj)
        subst hrt
        go_wp2
        go_ret
        exact ⟨rfl, n, rfl⟩
  · have hi : ¬ ((n1 : Int) = (n2 : Int)) := by omega
    rw [show wdsE l1 l2 = false by unfold wdsE; rw [hn1, hn2, beq_false_of_ne hne]; rfl]
    clear hn1 hn2 hne h1 h2
    go_enter Tryd.func13, Tryd.ntmps13
    go_wp2
    go_ret
    exact ⟨rfl, 0, rfl⟩
end Go.Proofs.YtinfocnihngbiaaDoor
