/- What one call changes of a watch, as a relation, and that the program and the document both follow it. Asked: the watch and the document's lists lie there. -/
import Derived.Test.YtnalpladieoegaaDoorRefD
namespace Go.Proofs.YtnalpladieoegaaDoor
open Go.RowKit Go.Shelf

/-- Of what was there nothing is written but blocks a and b. -/
structure Kp (w w' : World) (a b : Nat) : Prop where
  os : w'.os = w.os
  tape : w'.tape = w.tape
  output : w'.output = w.output
  size : w.heap.size ≤ w'.heap.size
  block : ∀ k, k < w.heap.size → k ≠ a → k ≠ b → w'.heap[k]? = w.heap[k]?
theorem Kp.a {w w' : World} {a b : Nat} (h : w.grownBy w' (some a)) : Kp w w' a b := ⟨h.os, h.tape, h.output, h.size, fun k hk h1 _ => h.block k hk (nesome h1)⟩
theorem Kp.b {w w' : World} {a b : Nat} (h : w.grownBy w' (some b)) : Kp w w' a b := ⟨h.os, h.tape, h.output, h.size, fun k hk _ h1 => h.block k hk (nesome h1)⟩
theorem Kp.none {w w' : World} {a b : Nat} (h : w.grownBy w' none) : Kp w w' a b := ⟨h.os, h.tape, h.output, h.size, fun k hk _ _ => h.block k hk (by simp)⟩
theorem Kp.below {w w' : World} {a b : Nat} (h : Below w.heap.size w w') : Kp w w' a b := Kp.none (grown_none h)
theorem Kp.refl {w : World} {a b : Nat} : Kp w w a b := ⟨rfl, rfl, rfl, Nat.le_refl _, fun _ _ _ _ => rfl⟩
theorem Kp.trans {w w1 w2 : World} {a b : Nat} (h : Kp w w1 a b) (h' : Kp w1 w2 a b) : Kp w w2 a b :=
  ⟨h'.os.trans h.os, h'.tape.trans h.tape, h'.output.trans h.output, Nat.le_trans h.size h'.size, fun k hk h1 h2 => (h'.block k (Nat.lt_of_lt_of_le hk h.size) h1 h2).trans (h.block k hk h1 h2)⟩
theorem Kp.to_below {w0 w w' : World} {B a b : Nat} (h : Kp w w' a b) (h0 : Below B w0 w) (hB : B ≤ w.heap.size) (h1 : B ≤ a) (h2 : B ≤ b) : Below B w0 w' :=
  h0.trans ⟨h.os, h.tape, h.output, h.size, fun k hk => h.block k (by omega) (by omega) (by omega)⟩
theorem RL.keep {w w' : World} {a b g cap : Nat} {l : List Ck} (h : RL w g cap l) (hk : Kp w w' a b) (h1 : g ≠ a) (h2 : g ≠ b) : RL w' g cap l := h.of (hk.block g h.lt h1 h2)

/-- What Give, Take, Spawn, Meet do: the lists behind the call, and the error's number. -/
inductive Mv : Int → Int → Int → List Ck → List Ck → List Ck → List Ck → Int → Prop
  | no (a t n : Int) (th pl : List Ck) (ha : a = 0 ∨ a = 1 ∨ a = 2 ∨ a = 3) (ht : t < 0 ∨ (th.length : Int) ≤ t) : Mv a t n th pl th pl 4
  | outp (a : Int) (i : Nat) (n : Int) (th pl : List Ck) (ha : a = 0 ∨ a = 1) (hi : i < th.length) (hn : n < 0 ∨ (pl.length : Int) ≤ n) : Mv a i n th pl th pl 4
  | outt (a : Int) (i : Nat) (n : Int) (th pl : List Ck) (ha : a = 2 ∨ a = 3) (hi : i < th.length) (hn : n < 0 ∨ (th.length : Int) ≤ n) : Mv a i n th pl th pl 4
  | give (i j : Nat) (th pl : List Ck) (hi : i < th.length) (hj : j < pl.length) : Mv 0 i j th pl th (pl.set j (jn (at_ pl j) (at_ th i))) 0
  | take (i j : Nat) (th pl : List Ck) (hi : i < th.length) (hj : j < pl.length) : Mv 1 i j th pl (th.set i (jn (at_ th i) (at_ pl j))) pl 0
  | spawn (i j : Nat) (th pl : List Ck) (hi : i < th.length) (hj : j < th.length) : Mv 2 i j th pl (th.set j (jn (at_ th j) (at_ th i))) pl 0
  | meet (i j : Nat) (th pl : List Ck) (hi : i < th.length) (hj : j < th.length) : Mv 3 i j th pl (th.set i (jn (at_ th i) (at_ th j))) pl 0
theorem in_or (t : Int) (n : Nat) : (t < 0 ∨ (n : Int) ≤ t) ∨ ∃ i : Nat, t = (i : Int) ∧ i < n := by
  by_cases h : t < 0 ∨ (n : Int) ≤ t
  · exact .inl h
  · exact .inr ⟨t.toNat, by omega, by omega⟩
theorem Mv.total (a t n : Int) (th pl : List Ck) (ha : a = 0 ∨ a = 1 ∨ a = 2 ∨ a = 3) : ∃ th' pl' e, Mv a t n th pl th' pl' e := by
  rcases in_or t th.length with ht | ⟨i, rfl, hi⟩
  · exact ⟨_, _, _, .no a t n th pl ha ht⟩
  · rcases ha with rfl | rfl | rfl | rfl
    · rcases in_or n pl.length with hn | ⟨j, rfl, hj⟩
      · exact ⟨_, _, _, .outp 0 i n th pl (.inl rfl) hi hn⟩
      · exact ⟨_, _, _, .give i j th pl hi hj⟩
    · rcases in_or n pl.length with hn | ⟨j, rfl, hj⟩
      · exact ⟨_, _, _, .outp 1 i n th pl (.inr rfl) hi hn⟩
      · exact ⟨_, _, _, .take i j th pl hi hj⟩
    · rcases in_or n th.length with hn | ⟨j, rfl, hj⟩
      · exact ⟨_, _, _, .outt 2 i n th pl (.inl rfl) hi hn⟩
      · exact ⟨_, _, _, .spawn i j th pl hi hj⟩
    · rcases in_or n th.length with hn | ⟨j, rfl, hj⟩
      · exact ⟨_, _, _, .outt 3 i n th pl (.inr rfl) hi hn⟩
      · exact ⟨_, _, _, .meet i j th pl hi hj⟩
theorem Mv.len {a t n e : Int} {th pl th' pl' : List Ck} (h : Mv a t n th pl th' pl' e) : th'.length = th.length ∧ pl'.length = pl.length := by
  cases h <;> simp
/-- What Step does: the threads' clocks behind it, the clock that is told, the error's number. -/
inductive St : Int → List Ck → List Ck → Ck → Int → Prop
  | out (t : Int) (th : List Ck) (ht : t < 0 ∨ (th.length : Int) ≤ t) : St t th th z0 4
  | bad (i : Nat) (th : List Ck) (d : Ck) (n : Int) (hi : i < th.length) (hT : tk (at_ th i) i = (d, n)) (hz : (n != 0) = true) : St i th th z0 n
  | ok (i : Nat) (th : List Ck) (d : Ck) (hi : i < th.length) (hT : tk (at_ th i) i = (d, 0)) : St i th (th.set i d) d 0
theorem St.total (t : Int) (th : List Ck) : ∃ th' c e, St t th th' c e := by
  rcases in_or t th.length with ht | ⟨i, rfl, hi⟩
  · exact ⟨_, _, _, .out t th ht⟩
  · obtain ⟨d, n, hT⟩ : ∃ d n, tk (at_ th i) i = (d, n) := ⟨_, _, rfl⟩
    by_cases hz : n = 0
    · subst hz
      exact ⟨_, _, _, .ok i th d hi hT⟩
    · exact ⟨_, _, _, .bad i th d n hi hT (by simpa using hz)⟩
theorem St.len {t e : Int} {th th' : List Ck} {c : Ck} (h : St t th th' c e) : th'.length = th.length := by
  cases h <;> simp

set_option maxHeartbeats 1000000 in
theorem move_0 {w : World} {p : Nat} {t n e : Int} {R : World → Prop}
    (h : Calls Tryd.prog 36 #[.pointer (some ⟨p, 0, none⟩), .int .i64 t, .int .i64 n] (w.alloc (.cells #[.int .i64 0, .int .i64 t, .int .i64 n] 46)) fun x w' => x = .returned (.int .i64 e) ∧ R w') :
    Calls Tryd.prog 33 #[.pointer (some ⟨p, 0, none⟩), .agg #[.int .i64 0, .int .i64 t, .int .i64 n]] w fun x w' => x = .returned (.int .i64 e) ∧ R w' := by
  go_enter Tryd.func33, Tryd.ntmps33
  go_wp2_with fail
  refine h.mono ?_
  rintro x w1 ⟨rfl, hr⟩
  go_wp2
  go_ret
  exact ⟨rfl, hr⟩

set_option maxHeartbeats 1000000 in
theorem move_1 {w : World} {p : Nat} {t n e : Int} {R : World → Prop}
    (h : Calls Tryd.prog 37 #[.pointer (some ⟨p, 0, none⟩), .int .i64 t, .int .i64 n] (w.alloc (.cells #[.int .i64 1, .int .i64 t, .int .i64 n] 46)) fun x w' => x = .returned (.int .i64 e) ∧ R w') :
    Calls Tryd.prog 33 #[.pointer (some ⟨p, 0, none⟩), .agg #[.int .i64 1, .int .i64 t, .int .i64 n]] w fun x w' => x = .returned (.int .i64 e) ∧ R w' := by
  go_enter Tryd.func33, Tryd.ntmps33
  go_wp2_with fail
  refine h.mono ?_
  rintro x w1 ⟨rfl, hr⟩
  go_wp2
  go_ret
  exact ⟨rfl, hr⟩

set_option maxHeartbeats 1000000 in
theorem move_2 {w : World} {p : Nat} {t n e : Int} {R : World → Prop}
    (h : Calls Tryd.prog 38 #[.pointer (some ⟨p, 0, none⟩), .int .i64 t, .int .i64 n] (w.alloc (.cells #[.int .i64 2, .int .i64 t, .int .i64 n] 46)) fun x w' => x = .returned (.int .i64 e) ∧ R w') :
    Calls Tryd.prog 33 #[.pointer (some ⟨p, 0, none⟩), .agg #[.int .i64 2, .int .i64 t, .int .i64 n]] w fun x w' => x = .returned (.int .i64 e) ∧ R w' := by
  go_enter Tryd.func33, Tryd.ntmps33
  go_wp2_with fail
  refine h.mono ?_
  rintro x w1 ⟨rfl, hr⟩
  go_wp2
  go_ret
  exact ⟨rfl, hr⟩

set_option maxHeartbeats 1000000 in
theorem move_3 {w : World} {p : Nat} {t n e : Int} {R : World → Prop}
    (h : Calls Tryd.prog 39 #[.pointer (some ⟨p, 0, none⟩), .int .i64 t, .int .i64 n] (w.alloc (.cells #[.int .i64 3, .int .i64 t, .int .i64 n] 46)) fun x w' => x = .returned (.int .i64 e) ∧ R w') :
    Calls Tryd.prog 33 #[.pointer (some ⟨p, 0, none⟩), .agg #[.int .i64 3, .int .i64 t, .int .i64 n]] w fun x w' => x = .returned (.int .i64 e) ∧ R w' := by
  go_enter Tryd.func33, Tryd.ntmps33
  go_wp2_with fail
  refine h.mono ?_
  rintro x w1 ⟨rfl, hr⟩
  go_wp2
  go_ret
  exact ⟨rfl, hr⟩

/-- Give, Take, Spawn, Meet of the program, by number. -/
theorem move_mv {w : World} {p tb pb : Nat} {th pl th' pl' : List Ck} {a t n e : Int} (hW : Wt w p tb pb th pl) (h : Mv a t n th pl th' pl' e) (h1 : 0 < th.length) (h8 : th.length ≤ 8) (hm : pl.length ≤ 65536) :
    Calls Tryd.prog 33 #[.pointer (some ⟨p, 0, none⟩), .agg #[.int .i64 a, .int .i64 t, .int .i64 n]] w fun x w' => x = .returned (.int .i64 e) ∧ (Wt w' p tb pb th' pl' ∧ Kp w w' tb pb) := by
  have g0 : ∀ o : Obj, Kp w (w.alloc o) tb pb := fun o => Kp.none (grown_alloc w o)
  have hW0 : ∀ o : Obj, Wt (w.alloc o) p tb pb th pl := fun o => hW.kept (grown_alloc w o)
  cases h with
  | no a t n th pl ha ht =>
    rcases ha with rfl | rfl | rfl | rfl
    · refine move_0 ((give_no (hW0 _) n ht h1).mono ?_)
      rintro x w' ⟨rfl, rfl⟩
      exact ⟨rfl, hW0 _, g0 _⟩
    · refine move_1 ((take_no (hW0 _) n ht h1).mono ?_)
      rintro x w' ⟨rfl, rfl⟩
      exact ⟨rfl, hW0 _, g0 _⟩
    · refine move_2 ((spawn_no (hW0 _) n ht h1).mono ?_)
      rintro x w' ⟨rfl, rfl⟩
      exact ⟨rfl, hW0 _, g0 _⟩
    · refine move_3 ((meet_no (hW0 _) n ht h1).mono ?_)
      rintro x w' ⟨rfl, rfl⟩
      exact ⟨rfl, hW0 _, g0 _⟩
  | outp a i n th pl ha hi hn =>
    rcases ha with rfl | rfl
    · refine move_0 ((give_out (hW0 _) hi hn h8).mono ?_)
      rintro x w' ⟨rfl, rfl⟩
      exact ⟨rfl, hW0 _, g0 _⟩
    · refine move_1 ((take_out (hW0 _) hi hn h8).mono ?_)
      rintro x w' ⟨rfl, rfl⟩
      exact ⟨rfl, hW0 _, g0 _⟩
  | outt a i n th pl ha hi hn =>
    rcases ha with rfl | rfl
    · refine move_2 ((spawn_out (hW0 _) hi hn h8).mono ?_)
      rintro x w' ⟨rfl, rfl⟩
      exact ⟨rfl, hW0 _, g0 _⟩
    · refine move_3 ((meet_out (hW0 _) hi hn h8).mono ?_)
      rintro x w' ⟨rfl, rfl⟩
      exact ⟨rfl, hW0 _, g0 _⟩
  | give i j th pl hi hj =>
    refine move_0 ((give_in (hW0 _) hi hj h8 hm).mono ?_)
    rintro x w' ⟨rfl, hW', hg⟩
    exact ⟨rfl, hW', (g0 _).trans (Kp.b hg)⟩
  | take i j th pl hi hj =>
    refine move_1 ((take_in (hW0 _) hi hj h8 hm).mono ?_)
    rintro x w' ⟨rfl, hW', hg⟩
    exact ⟨rfl, hW', (g0 _).trans (Kp.a hg)⟩
  | spawn i j th pl hi hj =>
    refine move_2 ((spawn_in (hW0 _) hi hj h8 hm).mono ?_)
    rintro x w' ⟨rfl, hW', hg⟩
    exact ⟨rfl, hW', (g0 _).trans (Kp.a hg)⟩
  | meet i j th pl hi hj =>
    refine move_3 ((meet_in (hW0 _) hi hj h8 hm).mono ?_)
    rintro x w' ⟨rfl, hW', hg⟩
    exact ⟨rfl, hW', (g0 _).trans (Kp.a hg)⟩
theorem step_st {w : World} {p tb pb : Nat} {th pl th' : List Ck} {t e : Int} {c : Ck} (hW : Wt w p tb pb th pl) (h : St t th th' c e) (h1 : 0 < th.length) (h8 : th.length ≤ 8) :
    Calls Tryd.prog 29 #[.pointer (some ⟨p, 0, none⟩), .int .i64 t] w fun x w' => x = .returned (.tuple #[.agg (cl c), .int .i64 e]) ∧ (Wt w' p tb pb th' pl ∧ Kp w w' tb pb) := by
  cases h with
  | out t th ht =>
    refine (step_out hW ht h1).mono ?_
    rintro x w' ⟨rfl, hW', hg⟩
    exact ⟨rfl, hW', Kp.none hg⟩
  | bad i th d n hi hT hz =>
    refine (step_bad hW hi h8 hT hz).mono ?_
    rintro x w' ⟨rfl, hW', hg⟩
    exact ⟨rfl, hW', Kp.none hg⟩
  | ok i th d hi hT =>
    refine (step_ok hW hi h8 hT).mono ?_
    rintro x w' ⟨rfl, hW', hg⟩
    exact ⟨rfl, hW', Kp.a hg⟩
/-- What the document's call leaves: lists that are the old ones or lie in new memory. -/
def RQ (w w' : World) (v : Value) (g1 g2 : Nat) (th' pl' : List Ck) : Prop :=
  ∃ a1 k1 a2 k2, v = .agg #[.slice (some ⟨a1, 0, none⟩) th'.length k1, .slice (some ⟨a2, 0, none⟩) pl'.length k2] ∧ RL w' a1 k1 th' ∧ RL w' a2 k2 pl' ∧ (a1 = g1 ∨ w.heap.size ≤ a1) ∧ (a2 = g2 ∨ w.heap.size ≤ a2)
theorem rmove_mv {w : World} {g1 k1 g2 k2 : Nat} {th pl th' pl' : List Ck} {a t n e : Int} (h1 : RL w g1 k1 th) (h2 : RL w g2 k2 pl) (h : Mv a t n th pl th' pl' e) (h8 : th.length ≤ 8) (hm : pl.length ≤ 65536) :
    Calls Tryd.prog 56 #[.agg #[.slice (some ⟨g1, 0, none⟩) th.length k1, .slice (some ⟨g2, 0, none⟩) pl.length k2], .int .i64 a, .int .i64 t, .int .i64 n] w fun x w' =>
      ∃ v, x = .returned (.tuple #[v, .int .i64 e]) ∧ RQ w w' v g1 g2 th' pl' ∧ Below w.heap.size w w' := by
  have same : ∀ w', Below w.heap.size w w' → RQ w w' (.agg #[.slice (some ⟨g1, 0, none⟩) th.length k1, .slice (some ⟨g2, 0, none⟩) pl.length k2]) g1 g2 th pl :=
    fun w' hb => ⟨g1, k1, g2, k2, rfl, h1.belowS hb, h2.belowS hb, .inl rfl, .inl rfl⟩
  cases h with
  | no a t n th pl ha ht =>
    refine (rmove_no w g1 th.length k1 g2 pl.length k2 a t n ht).mono ?_
    rintro x w' ⟨rfl, hb⟩
    exact ⟨_, rfl, same w' hb, hb⟩
  | outp a i n th pl ha hi hn =>
    rcases ha with rfl | rfl
    · refine (rmove_out0 w g1 th.length k1 g2 pl.length k2 i n (by omega) (by omega) hn).mono ?_
      rintro x w' ⟨rfl, hb⟩
      exact ⟨_, rfl, same w' hb, hb⟩
    · refine (rmove_out1 w g1 th.length k1 g2 pl.length k2 i n (by omega) (by omega) hn).mono ?_
      rintro x w' ⟨rfl, hb⟩
      exact ⟨_, rfl, same w' hb, hb⟩
  | outt a i n th pl ha hi hn =>
    rcases ha with rfl | rfl
    · refine (rmove_out2 w g1 th.length k1 g2 pl.length k2 i n (by omega) (by omega) hn).mono ?_
      rintro x w' ⟨rfl, hb⟩
      exact ⟨_, rfl, same w' hb, hb⟩
    · refine (rmove_out3 w g1 th.length k1 g2 pl.length k2 i n (by omega) (by omega) hn).mono ?_
      rintro x w' ⟨rfl, hb⟩
      exact ⟨_, rfl, same w' hb, hb⟩
  | give i j th pl hi hj =>
    refine (rmove_give h1 h2 hi hj h8 hm).mono ?_
    rintro x w' ⟨g, k, rfl, hr, hb, hg⟩
    exact ⟨_, rfl, ⟨g1, k1, g, k, by rw [List.length_set], h1.belowS hb, hr, .inl rfl, .inr hg⟩, hb⟩
  | take i j th pl hi hj =>
    refine (rmove_take h1 h2 hi hj h8 hm).mono ?_
    rintro x w' ⟨g, k, rfl, hr, hb, hg⟩
    exact ⟨_, rfl, ⟨g, k, g2, k2, by rw [List.length_set], hr, h2.belowS hb, .inr hg, .inl rfl⟩, hb⟩
  | spawn i j th pl hi hj =>
    refine (rmove_spawn h1 h2 hi hj h8 hm).mono ?_
    rintro x w' ⟨g, k, rfl, hr, hb, hg⟩
    exact ⟨_, rfl, ⟨g, k, g2, k2, by rw [List.length_set], hr, h2.belowS hb, .inr hg, .inl rfl⟩, hb⟩
  | meet i j th pl hi hj =>
    refine (rmove_meet h1 h2 hi hj h8 hm).mono ?_
    rintro x w' ⟨g, k, rfl, hr, hb, hg⟩
    exact ⟨_, rfl, ⟨g, k, g2, k2, by rw [List.length_set], hr, h2.belowS hb, .inr hg, .inl rfl⟩, hb⟩
theorem rstep_st {w : World} {g1 k1 g2 k2 : Nat} {th pl th' : List Ck} {t e : Int} {c : Ck} (h1 : RL w g1 k1 th) (h2 : RL w g2 k2 pl) (h : St t th th' c e) (h8 : th.length ≤ 8) :
    Calls Tryd.prog 28 #[.agg #[.slice (some ⟨g1, 0, none⟩) th.length k1, .slice (some ⟨g2, 0, none⟩) pl.length k2], .int .i64 t] w fun x w' =>
      ∃ v, x = .returned (.tuple #[v, .agg (cl c), .int .i64 e]) ∧ RQ w w' v g1 g2 th' pl ∧ Below w.heap.size w w' := by
  have same : ∀ w', Below w.heap.size w w' → RQ w w' (.agg #[.slice (some ⟨g1, 0, none⟩) th.length k1, .slice (some ⟨g2, 0, none⟩) pl.length k2]) g1 g2 th pl :=
    fun w' hb => ⟨g1, k1, g2, k2, rfl, h1.belowS hb, h2.belowS hb, .inl rfl, .inl rfl⟩
  cases h with
  | out t th ht =>
    refine (rstep_out w g1 th.length k1 g2 pl.length k2 t ht).mono ?_
    rintro x w' ⟨rfl, hb⟩
    exact ⟨_, rfl, same w' hb, hb⟩
  | bad i th d n hi hT hz =>
    refine (rstep_bad h1 g2 pl.length k2 hi hT hz).mono ?_
    rintro x w' ⟨rfl, hb⟩
    exact ⟨_, rfl, same w' hb, hb⟩
  | ok i th d hi hT =>
    refine (rstep_ok h1 g2 pl.length k2 hi h8 hT).mono ?_
    rintro x w' ⟨g, k, rfl, hr, hb, hg⟩
    exact ⟨_, rfl, ⟨g, k, g2, k2, by rw [List.length_set], hr, h2.belowS hb, .inr hg, .inl rfl⟩, hb⟩
end Go.Proofs.YtnalpladieoegaaDoor
