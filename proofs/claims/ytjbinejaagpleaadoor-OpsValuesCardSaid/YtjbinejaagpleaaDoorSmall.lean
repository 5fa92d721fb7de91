/- The bounds of numbers, parts and instructions, as the program tells them. Asked: the table of codes lies. -/
import Derived.Test.YtjbinejaagpleaaDoorBase
import Derived.Test.YtjbinejaagpleaaDoorPure
namespace Go.Proofs.YtjbinejaagpleaaDoor
open Go.RowKit

def vMay (x : Int) : Bool := decide (-2147483648 ≤ x ∧ x ≤ 2147483647)
def bMay (a b x : Int) : Bool := decide (a ≤ x ∧ x ≤ b)

theorem valueMay_any (x : Int) (w : World) : Calls Tryd.prog 38 #[.int .i64 x] w fun e w' => e = .returned (.bool (vMay x)) ∧ w = w' := by
  by_cases h1 : -2147483648 ≤ x
  · by_cases h2 : x ≤ 2147483647
    · rw [show vMay x = true from decide_eq_true ⟨h1, h2⟩]
      go_enter Tryd.func38, Tryd.ntmps38
      go_wp2
      go_ret
      exact ⟨rfl, rfl⟩
    · rw [show vMay x = false from decide_eq_false (fun h => h2 h.2)]
      go_enter Tryd.func38, Tryd.ntmps38
      go_wp2
      go_ret
      exact ⟨rfl, rfl⟩
  · rw [show vMay x = false from decide_eq_false (fun h => h1 h.1)]
    go_enter Tryd.func38, Tryd.ntmps38
    go_wp2
    go_ret
    exact ⟨rfl, rfl⟩
theorem within_any (a b : Int) (w : World) : Calls Tryd.prog 36 #[.int .i64 a, .int .i64 b] w fun e w' => e = .returned (.func (.func 64) #[] #[.pointer (some ⟨w.heap.size, 0, none⟩), .pointer (some ⟨w.heap.size + 1, 0, none⟩)]) ∧ w' = (w.alloc (.cells #[.int .i64 a] 3)).alloc (.cells #[.int .i64 b] 3) := by
  go_enter Tryd.func36, Tryd.ntmps36
  go_wp2
  go_ret
  exact ⟨rfl, rfl⟩
theorem within1_any (a b x : Int) (p q : Addr) (w : World) (hp : w.cell? p = some (.int .i64 a)) (hq : w.cell? q = some (.int .i64 b)) :
    Calls Tryd.prog 64 #[.int .i64 x, .pointer (some p), .pointer (some q)] w fun e w' => e = .returned (.bool (bMay a b x)) ∧ w = w' := by
  by_cases h1 : a ≤ x
  · by_cases h2 : x ≤ b
    · rw [show bMay a b x = true from decide_eq_true ⟨h1, h2⟩]
      go_enter Tryd.func64, Tryd.ntmps64
      go_wp2
      go_ret
      exact ⟨rfl, rfl⟩
    · rw [show bMay a b x = false from decide_eq_false (fun h => h2 h.2)]
      go_enter Tryd.func64, Tryd.ntmps64
      go_wp2
      go_ret
      exact ⟨rfl, rfl⟩
  · rw [show bMay a b x = false from decide_eq_false (fun h => h1 h.1)]
    go_enter Tryd.func64, Tryd.ntmps64
    go_wp2
    go_ret
    exact ⟨rfl, rfl⟩

def pMay (n : Int) (named : Bool) : Bool := if named then bMay 0 65535 n else n == 0
theorem partMay_any (n : Int) (named : Bool) (w : World) : Calls Tryd.prog 72 #[.int .i64 n, .bool named] w fun e w' => e = .returned (.bool (pMay n named)) ∧ w = w' := by
  cases named
  · rw [show pMay n false = (n == 0) from rfl]
    go_enter Tryd.func72, Tryd.ntmps72
    go_wp2
    go_ret
    exact ⟨rfl, rfl⟩
  · by_cases h1 : 0 ≤ n
    · by_cases h2 : n ≤ 65535
      · rw [show pMay n true = true from decide_eq_true ⟨h1, h2⟩]
        go_enter Tryd.func72, Tryd.ntmps72
        go_wp2
        go_ret
        exact ⟨rfl, rfl⟩
      · rw [show pMay n true = false from decide_eq_false (fun h => h2 h.2)]
        go_enter Tryd.func72, Tryd.ntmps72
        go_wp2
        go_ret
        exact ⟨rfl, rfl⟩
    · rw [show pMay n true = false from decide_eq_false (fun h => h1 h.1)]
      go_enter Tryd.func72, Tryd.ntmps72
      go_wp2
      go_ret
      exact ⟨rfl, rfl⟩

/-- The codes' names, and what they name: nothing, A, A and B, Num. -/
def nmL : List ByteArray := [⟨#[]⟩, ⟨#[112, 117, 115, 104]⟩, ⟨#[118, 97, 114]⟩, ⟨#[108, 111, 99, 97, 108]⟩, ⟨#[99, 101, 108, 108]⟩, ⟨#[115, 101, 116, 118, 97, 114]⟩, ⟨#[115, 101, 116, 108, 111, 99, 97, 108]⟩, ⟨#[115, 101, 116, 99, 101, 108, 108]⟩, ⟨#[110, 101, 103]⟩, ⟨#[110, 111, 116]⟩, ⟨#[101, 113]⟩, ⟨#[110, 101]⟩, ⟨#[108, 116]⟩, ⟨#[108, 101]⟩, ⟨#[97, 100, 100]⟩, ⟨#[115, 117, 98]⟩, ⟨#[109, 117, 108]⟩, ⟨#[100, 105, 118]⟩, ⟨#[109, 111, 100]⟩, ⟨#[106, 117, 109, 112]⟩, ⟨#[106, 117, 109, 112, 122]⟩, ⟨#[106, 117, 109, 112, 110, 122]⟩, ⟨#[98, 111, 111, 108]⟩, ⟨#[109, 97, 114, 107]⟩, ⟨#[108, 111, 99, 107]⟩, ⟨#[117, 110, 108, 111, 99, 107]⟩, ⟨#[119, 97, 105, 116]⟩, ⟨#[115, 105, 103, 110, 97, 108]⟩, ⟨#[97, 108, 108]⟩, ⟨#[115, 101, 110, 100]⟩, ⟨#[114, 101, 99, 118]⟩, ⟨#[115, 112, 97, 119, 110]⟩, ⟨#[106, 111, 105, 110]⟩, ⟨#[112, 114, 105, 110, 116]⟩, ⟨#[101, 110, 100]⟩]
def wtL : List Int := [0, 3, 1, 1, 1, 1, 1, 1, 0, 0, 0, 0, 0, 0, 0, 0, 0, 0, 0, 1, 1, 1, 0, 1, 1, 1, 2, 1, 1, 1, 1, 1, 0, 0, 0]
/-- The table of codes lies. -/
def TabC (w : World) : Prop := 0 < w.heap.size ∧ ∀ c, c < 35 → w.cell? ⟨0, c * 2, none⟩ = some (.string (nmL.getD c ⟨#[]⟩)) ∧ w.cell? ⟨0, c * 2 + 1, none⟩ = some (.int .i64 (wtL.getD c 0))
theorem TabC.below {w w' : World} {B : Nat} (h : TabC w) (hb : Below B w w') (hB : 0 < B) : TabC w' :=
  ⟨Nat.lt_of_lt_of_le h.1 hb.size, fun c hc => ⟨(hb.cell (p := ⟨0, _, none⟩) hB).trans (h.2 c hc).1, (hb.cell (p := ⟨0, _, none⟩) hB).trans (h.2 c hc).2⟩⟩
theorem TabC.kp {w w' : World} {a b : Nat} (h : TabC w) (hk : Kp w w' a b) (ha : a ≠ 0) (hb : b ≠ 0) : TabC w' := by
  have he := hk.block 0 h.1 (Ne.symm ha) (Ne.symm hb)
  have hc : ∀ o, w'.cell? ⟨0, o, none⟩ = w.cell? ⟨0, o, none⟩ := fun o => by simp [World.cell?, he]
  exact ⟨Nat.lt_of_lt_of_le h.1 hk.size, fun c hcc => ⟨(hc _).trans (h.2 c hcc).1, (hc _).trans (h.2 c hcc).2⟩⟩
/-- Is a number a code's, what does it name? -/
def isC (c : Int) : Bool := decide (1 ≤ c ∧ c ≤ 34)
def wt (c : Int) : Int := if isC c then wtL.getD c.toNat 0 else 0
def nm (c : Int) : ByteArray := if isC c then nmL.getD c.toNat ⟨#[]⟩ else ⟨#[]⟩
def fA (c : Int) : Bool := wt c == 1 || wt c == 2
def fB (c : Int) : Bool := wt c == 2
def fN (c : Int) : Bool := wt c == 3
/-- What formOf leaves. -/
def FPost (c : Int) (w : World) (e : Ending) (w' : World) : Prop :=
  e = .returned (.tuple #[.agg #[.string (nm c), .bool (fA c), .bool (fB c), .bool (fN c)], .bool (isC c)]) ∧ Below w.heap.size w w'
def Fr (w : World) (b : Nat) (n : ByteArray) (x y z : Bool) : Prop := w.heap[b]? = some (.cells #[.string n, .bool x, .bool y, .bool z] 86 (0, 0))
theorem end_fr {fn : Func} {R : Ending → World → Prop} {act : Act} {W : World} {b : Nat} {s u : Tmp} {n : ByteArray} {x y z : Bool} {v : Value} (h : Fr W b n x y z) (hres : fn.results = #[.cell s 86, .tmp u])
    (hs : act.tmps.getD s undef = .pointer (some ⟨b, 0, none⟩)) (hu : act.tmps.getD u undef = v) (hd : act.defers = []) (hR : R (.returned (.tuple #[.agg #[.string n, .bool x, .bool y, .bool z], v])) W) : bodyPost Tryd.prog fn R .ret act W := by
  have e0 : W.cell? ⟨b, 0, none⟩ = some (.string n) := by unfold Fr at h; simp [World.cell?, h]
  have e1 : W.cell? ⟨b, 1, none⟩ = some (.bool x) := by unfold Fr at h; simp [World.cell?, h]
  have e2 : W.cell? ⟨b, 2, none⟩ = some (.bool y) := by unfold Fr at h; simp [World.cell?, h]
  have e3 : W.cell? ⟨b, 3, none⟩ = some (.bool z) := by unfold Fr at h; simp [World.cell?, h]
  have hs' : act.tmps[s]?.getD undef = .pointer (some ⟨b, 0, none⟩) := by rw [← hs]; simp
  have hu' : act.tmps[u]?.getD undef = v := by rw [← hu]; simp
  refine bodyPost_ret (v := .tuple #[.agg #[.string n, .bool x, .bool y, .bool z], v]) ?_ hd hR
  simp [results, hres, go_sem, hs', hu', e0, e1, e2, e3]

set_option maxRecDepth 100000 in
set_option maxHeartbeats 2000000 in
theorem formOf_no (c : Int) (w : World) (hc : isC c = false) : Calls Tryd.prog 48 #[.int .i64 c] w (FPost c w) := by
  have e : nm c = ⟨#[]⟩ ∧ fA c = false ∧ fB c = false ∧ fN c = false := by
    unfold nm fA fB fN wt
    rw [hc]
    exact ⟨rfl, rfl, rfl, rfl⟩
  unfold FPost
  rw [e.1, e.2.1, e.2.2.1, e.2.2.2, hc]
  clear e
  unfold isC at hc
  simp only [decide_eq_false_iff_not] at hc
  by_cases h0 : c ≤ 0
  · clear hc
    go_enter Tryd.func48, Tryd.ntmps48
    go_wp2
    exact end_fr (b := w.heap.size) (World.alloc_heap_new _ _) rfl rfl rfl rfl ⟨rfl, (Below.refl _ _).alloc (Nat.le_refl _) _⟩
  · have h1 : 35 ≤ c := by omega
    clear hc
    go_enter Tryd.func48, Tryd.ntmps48
    go_wp2
    exact end_fr (b := w.heap.size) (World.alloc_heap_new _ _) rfl rfl rfl rfl ⟨rfl, (Below.refl _ _).alloc (Nat.le_refl _) _⟩
set_option maxRecDepth 100000 in
set_option maxHeartbeats 2000000 in
theorem formOf_yes (c : Int) (w : World) (hc : isC c = true) (hT : TabC w) : Calls Tryd.prog 48 #[.int .i64 c] w (FPost c w) := by
  unfold FPost fA fB fN
  rw [hc]
  have h2 : 1 ≤ c ∧ c ≤ 34 := by simpa [isC] using hc
  obtain ⟨k, rfl⟩ : ∃ k : Nat, c = (k : Int) := ⟨c.toNat, by omega⟩
  have hk : k < 35 := by omega
  obtain ⟨t1, t2⟩ := hT.2 k hk
  have en : nm (k : Int) = nmL.getD k ⟨#[]⟩ := by unfold nm; rw [hc]; rfl
  have ew : wt (k : Int) = wtL.getD k 0 := by unfold wt; rw [hc]; rfl
  rw [← en] at t1
  rw [← ew] at t2
  obtain ⟨N, hN⟩ : ∃ N, nm (k : Int) = N := ⟨_, rfl⟩
  obtain ⟨T, hTt⟩ : ∃ T, wt (k : Int) = T := ⟨_, rfl⟩
  rw [hN] at t1 ⊢
  rw [hTt] at t2 ⊢
  have h0 : ¬ (k : Int) ≤ 0 := by omega
  have h3 : ¬ (35 : Int) ≤ (k : Int) := by omega
  have hlt : 0 < w.heap.size := hT.1
  clear en ew hN hTt hc h2
  obtain ⟨q1, hq1⟩ : ∃ q, (T == 1) = q := ⟨_, rfl⟩
  rw [hq1]
  cases q1
  · simp only [Bool.false_or]
    go_enter Tryd.func48, Tryd.ntmps48
    go_wp2_with fail
    exact end_fr (b := w.heap.size) ((Below.heap_alloc _ _ _ (by simp)).trans (World.alloc_heap_new w _)) rfl rfl rfl rfl ⟨rfl, ((Below.refl _ _).alloc (Nat.le_refl _) _).alloc (by simp) _⟩
  · simp only [Bool.true_or]
    go_enter Tryd.func48, Tryd.ntmps48
    go_wp2_with fail
    exact end_fr (b := w.heap.size) ((Below.heap_alloc _ _ _ (by simp)).trans (World.alloc_heap_new w _)) rfl rfl rfl rfl ⟨rfl, ((Below.refl _ _).alloc (Nat.le_refl _) _).alloc (by simp) _⟩
theorem formOf_any (c : Int) (w : World) (hT : TabC w) : Calls Tryd.prog 48 #[.int .i64 c] w (FPost c w) := by
  cases hc : isC c with
  | false => exact formOf_no c w hc
  | true => exact formOf_yes c w hc hT

/-- An instruction: its code, A, B, Num. -/
structure InsP where
  c : Int
  a : Int
  b : Int
  n : Int
def InsP.val (i : InsP) : Value := .agg #[.int .i64 i.c, .int .i64 i.a, .int .i64 i.b, .int .i64 i.n]
def iMay (i : InsP) : Bool := isC i.c && (pMay i.a (fA i.c) && (pMay i.b (fB i.c) && (if fN i.c then vMay i.n else i.n == 0)))

set_option maxRecDepth 100000 in
set_option maxHeartbeats 4000000 in
theorem insMay_any (i : InsP) (w : World) (hT : TabC w) : Calls Tryd.prog 47 #[.agg #[.int .i64 i.c, .int .i64 i.a, .int .i64 i.b, .int .i64 i.n]] w fun e w' => e = .returned (.bool (iMay i)) ∧ Below w.heap.size w w' := by
  obtain ⟨c, a, b, n⟩ := i
  unfold iMay
  simp only
  have cf := fun w hT => formOf_any c w hT
  unfold FPost at cf
  have pa := partMay_any a (fA c)
  have pb := partMay_any b (fB c)
  have pv := valueMay_any n
  obtain ⟨ok, hok⟩ : ∃ x, isC c = x := ⟨_, rfl⟩
  obtain ⟨N, hN⟩ : ∃ x, nm c = x := ⟨_, rfl⟩
  obtain ⟨xa, hxa⟩ : ∃ x, fA c = x := ⟨_, rfl⟩
  obtain ⟨xb, hxb⟩ : ∃ x, fB c = x := ⟨_, rfl⟩
  obtain ⟨xn, hxn⟩ : ∃ x, fN c = x := ⟨_, rfl⟩
  rw [hok, hxa, hxb, hxn]
  rw [hxa] at pa
  rw [hxb] at pb
  simp only [hok, hN, hxa, hxb, hxn] at cf
  obtain ⟨ra, hra⟩ : ∃ x, pMay a xa = x := ⟨_, rfl⟩
  obtain ⟨rb, hrb⟩ : ∃ x, pMay b xb = x := ⟨_, rfl⟩
  obtain ⟨rv, hrv⟩ : ∃ x, vMay n = x := ⟨_, rfl⟩
  obtain ⟨rz, hrz⟩ : ∃ x, (n == 0) = x := ⟨_, rfl⟩
  rw [hra, hrb, hrv, hrz]
  rw [hra] at pa
  rw [hrb] at pb
  rw [hrv] at pv
  clear hok hN hxa hxb hxn hra hrb hrv
  have hBx : Below w.heap.size w (w.alloc (.cells #[.int .i64 c, .int .i64 a, .int .i64 b, .int .i64 n] 48)) := (Below.refl _ _).alloc (Nat.le_refl _) _
  have hX : (w.alloc (.cells #[.int .i64 c, .int .i64 a, .int .i64 b, .int .i64 n] 48)).heap[w.heap.size]? = some (.cells #[.int .i64 c, .int .i64 a, .int .i64 b, .int .i64 n] 48 (0, 0)) := World.alloc_heap_new _ _
  have hTx := hT.below hBx hT.1
  cases ok
  · simp only [Bool.false_and]
    clear pa pb pv hrz
    go_enter Tryd.func47, Tryd.ntmps47
    go_wp2_with fail
    refine (cf _ hTx).mono ?_
    rintro e w1 ⟨rfl, hb1⟩
    have hB1 := hBx.trans (hb1.mono (by simp))
    clear cf hb1 hX
    go_wp2
    go_ret
    exact ⟨rfl, hB1.alloc hB1.size _⟩
  · simp only [Bool.true_and]
    have hlt : w.heap.size < (w.alloc (.cells #[.int .i64 c, .int .i64 a, .int .i64 b, .int .i64 n] 48)).heap.size := by simp
    generalize hW0 : w.alloc (.cells #[.int .i64 c, .int .i64 a, .int .i64 b, .int .i64 n] 48) = W0 at *
    have HW0 := Lib.hid hW0
    clear hW0
    cases ra
    · simp only [Bool.false_and]
      clear pb pv hrz
      go_enter Tryd.func47, Tryd.ntmps47
      go_wp2_with fail
      rw [HW0.out]
      refine (cf _ hTx).mono ?_
      rintro e w1 ⟨rfl, hb1⟩
      have hX1 := (hb1.block _ hlt).trans hX
      have hB1 := hBx.trans (hb1.mono hBx.size)
      have c1 : w1.cell? ⟨w.heap.size, 1, none⟩ = some (.int .i64 a) := by simp [World.cell?, hX1]
      have hl1 : w.heap.size < w1.heap.size := Nat.lt_of_lt_of_le hlt hb1.size
      clear cf hb1 hX HW0 hTx hX1
      go_wp2_with (go_at_call 72; refine (pa _).mono ?_; rintro e w' ⟨rfl, rfl⟩)
      go_ret
      exact ⟨rfl, hB1.alloc hB1.size _⟩
    · simp only [Bool.true_and]
      cases rb
      · simp only [Bool.false_and]
        clear pv hrz
        go_enter Tryd.func47, Tryd.ntmps47
        go_wp2_with fail
        rw [HW0.out]
        refine (cf _ hTx).mono ?_
        rintro e w1 ⟨rfl, hb1⟩
        have hX1 := (hb1.block _ hlt).trans hX
        have hB1 := hBx.trans (hb1.mono hBx.size)
        have c1 : w1.cell? ⟨w.heap.size, 1, none⟩ = some (.int .i64 a) := by simp [World.cell?, hX1]
        have c2 : w1.cell? ⟨w.heap.size, 2, none⟩ = some (.int .i64 b) := by simp [World.cell?, hX1]
        have hl1 : w.heap.size < w1.heap.size := Nat.lt_of_lt_of_le hlt hb1.size
        clear cf hb1 hX HW0 hTx hX1
        go_wp2_with (go_at_call 72; first | ((with_reducible refine (pa _).mono ?_); rintro e w' ⟨rfl, rfl⟩) | ((with_reducible refine (pb _).mono ?_); rintro e w' ⟨rfl, rfl⟩))
        go_ret
        exact ⟨rfl, hB1.alloc hB1.size _⟩
      · simp only [Bool.true_and]
        cases xn
        all_goals
          simp only [Bool.false_eq_true, if_false, if_true]
          go_enter Tryd.func47, Tryd.ntmps47
          go_wp2_with fail
          rw [HW0.out]
          refine (cf _ hTx).mono ?_
          rintro e w1 ⟨rfl, hb1⟩
          have hX1 := (hb1.block _ hlt).trans hX
          have hB1 := hBx.trans (hb1.mono hBx.size)
          have c1 : w1.cell? ⟨w.heap.size, 1, none⟩ = some (.int .i64 a) := by simp [World.cell?, hX1]
          have c2 : w1.cell? ⟨w.heap.size, 2, none⟩ = some (.int .i64 b) := by simp [World.cell?, hX1]
          have c3 : w1.cell? ⟨w.heap.size, 3, none⟩ = some (.int .i64 n) := by simp [World.cell?, hX1]
          have hl1 : w.heap.size < w1.heap.size := Nat.lt_of_lt_of_le hlt hb1.size
          clear cf hb1 hX HW0 hTx hX1
          go_wp2_with (first | (go_at_call 72; first | ((with_reducible refine (pa _).mono ?_); rintro e w' ⟨rfl, rfl⟩) | ((with_reducible refine (pb _).mono ?_); rintro e w' ⟨rfl, rfl⟩)) | (go_at_call 38; refine (pv _).mono ?_; rintro e w' ⟨rfl, rfl⟩))
          go_ret
          exact ⟨rfl, hB1.alloc hB1.size _⟩
end Go.Proofs.YtjbinejaagpleaaDoor
