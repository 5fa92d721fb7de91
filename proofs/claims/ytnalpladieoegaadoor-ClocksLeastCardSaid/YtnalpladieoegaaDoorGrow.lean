/- What the law on the least walks by: Join is the least of all above both; just one of four holds of two clocks; no call makes a clock less. No condition. -/
import Derived.Test.YtnalpladieoegaaDoorCopy
namespace Go.Proofs.YtnalpladieoegaaDoor
open Go.RowKit Go.Shelf

theorem wiB_iff (a b : Ck) : wiB a b = true ↔ ∀ k, k < 8 → a k ≤ b k := by
  simp [wiB]
theorem wi_refl (a : Ck) : wiB a a = true := wiB_yes fun _ _ => Int.le_refl _
theorem wi_jl (a b : Ck) : wiB a (jn a b) = true := wiB_yes fun k _ => by simp only [jn]; omega
theorem wi_jr (a b : Ck) : wiB b (jn a b) = true := wiB_yes fun k _ => by simp only [jn]; omega
theorem wi_jc (a b c : Ck) : wiB (jn a b) c = (wiB a c && wiB b c) := by
  rw [Bool.eq_iff_iff, Bool.and_eq_true, wiB_iff, wiB_iff, wiB_iff]
  constructor
  · intro h
    refine ⟨fun k hk => ?_, fun k hk => ?_⟩
    · have := h k hk; simp only [jn] at this; omega
    · have := h k hk; simp only [jn] at this; omega
  · rintro ⟨h1, h2⟩ k hk
    have := h1 k hk
    have := h2 k hk
    simp only [jn]
    omega
theorem eq_wi (a b : Ck) : eqB a b = (wiB a b && wiB b a) := by
  rw [Bool.eq_iff_iff, Bool.and_eq_true, wiB_iff, wiB_iff]
  simp only [eqB, List.all_eq_true, List.mem_range, decide_eq_true_eq]
  constructor
  · intro h
    exact ⟨fun k hk => by have := h k hk; omega, fun k hk => by have := h k hk; omega⟩
  · rintro ⟨h1, h2⟩ k hk
    have := h1 k hk
    have := h2 k hk
    omega
theorem wi_trans {a b c : Ck} (h1 : wiB a b = true) (h2 : wiB b c = true) : wiB a c = true :=
  wiB_yes fun k hk => Int.le_trans ((wiB_iff a b).1 h1 k hk) ((wiB_iff b c).1 h2 k hk)
theorem wi_tk {c d : Ck} {i : Nat} (h : tk c i = (d, 0)) : wiB c d = true := by
  unfold tk at h
  split at h
  · split at h
    · simp at h
    · split at h
      · simp at h
      · obtain rfl : upd c (Int.toNat i) (c (Int.toNat i) + 1) = d := (Prod.mk.inj h).1
        rw [Int.toNat_natCast]
        refine wiB_yes fun k _ => ?_
        unfold upd
        split
        · next hk => subst hk; omega
        · exact Int.le_refl _
  · simp at h
theorem wi_set (l : List Ck) (i : Nat) (c : Ck) (h : wiB (at_ l i) c = true) (k : Nat) : wiB (at_ l k) (at_ (l.set i c) k) = true := by
  by_cases hk : i = k
  · subst hk
    by_cases hl : i < l.length
    · rw [at_set l hl]
      exact h
    · rw [List.set_eq_of_length_le (by omega)]
      exact wi_refl _
  · rw [at_set_ne l hk]
    exact wi_refl _
/-- No clock of the list is less. -/
def Up (l l' : List Ck) : Prop := ∀ k, wiB (at_ l k) (at_ l' k) = true
theorem Up.refl (l : List Ck) : Up l l := fun _ => wi_refl _
theorem Up.set (l : List Ck) (i : Nat) (c : Ck) (h : wiB (at_ l i) c = true) : Up l (l.set i c) := wi_set l i c h
theorem Mv.up {a t n e : Int} {th pl th' pl' : List Ck} (h : Mv a t n th pl th' pl' e) : Up th th' ∧ Up pl pl' := by
  cases h with
  | no a t n th pl ha ht => exact ⟨Up.refl _, Up.refl _⟩
  | outp a i n th pl ha hi hn => exact ⟨Up.refl _, Up.refl _⟩
  | outt a i n th pl ha hi hn => exact ⟨Up.refl _, Up.refl _⟩
  | give i j th pl hi hj => exact ⟨Up.refl _, Up.set _ _ _ (wi_jl _ _)⟩
  | take i j th pl hi hj => exact ⟨Up.set _ _ _ (wi_jl _ _), Up.refl _⟩
  | spawn i j th pl hi hj => exact ⟨Up.set _ _ _ (wi_jl _ _), Up.refl _⟩
  | meet i j th pl hi hj => exact ⟨Up.set _ _ _ (wi_jl _ _), Up.refl _⟩
theorem St.up {t e : Int} {th th' : List Ck} {c : Ck} (h : St t th th' c e) : Up th th' := by
  cases h with
  | out t th ht => exact Up.refl _
  | bad i th d n hi hT hz => exact Up.refl _
  | ok i th d hi hT => exact Up.set _ _ _ (wi_tk hT)

/-- Block b holds a life: how many threads, how many places, the calls. -/
def Lif (w : World) (b : Nat) (n m : Int) (s : Value) : Prop := w.heap[b]? = some (.cells #[.int .i64 n, .int .i64 m, s] 59 (0, 0))
theorem Lif.lt {w : World} {b : Nat} {n m : Int} {s : Value} (h : Lif w b n m s) : b < w.heap.size := (Array.getElem?_eq_some_iff.1 h).1
theorem Lif.of {w w' : World} {b : Nat} {n m : Int} {s : Value} (h : Lif w b n m s) (he : w'.heap[b]? = w.heap[b]?) : Lif w' b n m s := he.trans h
theorem Lif.belowS {w w' : World} {b : Nat} {n m : Int} {s : Value} (h : Lif w b n m s) (hb : Below w.heap.size w w') : Lif w' b n m s := h.of (hb.block b h.lt)
theorem Lif.c0 {w : World} {b : Nat} {n m : Int} {s : Value} (h : Lif w b n m s) : w.cell? ⟨b, 0, none⟩ = some (.int .i64 n) := by
  unfold Lif at h
  simp [World.cell?, h]
theorem Lif.c1 {w : World} {b : Nat} {n m : Int} {s : Value} (h : Lif w b n m s) : w.cell? ⟨b, 1, none⟩ = some (.int .i64 m) := by
  unfold Lif at h
  simp [World.cell?, h]
theorem Lif.c2 {w : World} {b : Nat} {n m : Int} {s : Value} (h : Lif w b n m s) : w.cell? ⟨b, 2, none⟩ = some s := by
  unfold Lif at h
  simp [World.cell?, h]

/-- What the law keeps beside it: three clocks and a life in the four blocks from w's end on. -/
structure Four (w W : World) (a b c : Ck) (n m : Int) (s : Value) : Prop where
  bel : Below w.heap.size w W
  a : Blk W w.heap.size 23 a
  b : Blk W (w.heap.size + 1) 23 b
  c : Blk W (w.heap.size + 1 + 1) 23 c
  l : Lif W (w.heap.size + 1 + 1 + 1) n m s
theorem Four.belowS {w W W' : World} {a b c : Ck} {n m : Int} {s : Value} (h : Four w W a b c n m s) (hb : Below W.heap.size W W') : Four w W' a b c n m s :=
  ⟨h.bel.trans (hb.mono h.bel.size), h.a.below hb h.a.lt, h.b.below hb h.b.lt, h.c.below hb h.c.lt, h.l.belowS hb⟩
theorem Four.alloc {w W : World} {a b c : Ck} {n m : Int} {s : Value} (h : Four w W a b c n m s) (o : Obj) : Four w (W.alloc o) a b c n m s :=
  h.belowS ((Below.refl _ W).alloc (Nat.le_refl _) o)
theorem Four.new (w : World) (a b c : Ck) (n m : Int) (s : Value) :
    Four w ((((w.alloc (.cells (cl a) 23)).alloc (.cells (cl b) 23)).alloc (.cells (cl c) 23)).alloc (.cells #[.int .i64 n, .int .i64 m, s] 59)) a b c n m s := by
  have h1 := Blk.new w 23 a
  have h2 := Blk.new (w.alloc (.cells (cl a) 23)) 23 b
  have h3 := Blk.new ((w.alloc (.cells (cl a) 23)).alloc (.cells (cl b) 23)) 23 c
  have h4 : Lif ((((w.alloc (.cells (cl a) 23)).alloc (.cells (cl b) 23)).alloc (.cells (cl c) 23)).alloc (.cells #[.int .i64 n, .int .i64 m, s] 59)) (((w.alloc (.cells (cl a) 23)).alloc (.cells (cl b) 23)).alloc (.cells (cl c) 23)).heap.size n m s := World.alloc_heap_new _ _
  simp only [World.size_alloc] at h2 h3 h4
  exact ⟨((((Below.refl _ w).alloc (Nat.le_refl _) _).alloc (by simp) _).alloc (by simp; omega) _).alloc (by simp; omega) _, ((h1.alloc _).alloc _).alloc _, (h2.alloc _).alloc _, h3.alloc _, h4⟩
end Go.Proofs.YtnalpladieoegaaDoor
