/- A module as plain lists, its bytes, how they are read, and that the one undoes the other. No condition but those that the laws name. -/
import Derived.Test.YtjbinejaagpleaaDoorPure
namespace Go.Proofs.YtjbinejaagpleaaDoor

theorem rdNum_rest {l : List Nat} {n : Nat} {r : List Nat} (hl : ∀ x ∈ l, x < 256) (h : rdNum l = some (n, r)) : ∀ x ∈ r, x < 256 := by
  have := (rdNum_inv hl h).1
  subst this
  intro x hx
  exact hl x (List.mem_append_right _ hx)

abbrev Rdr (α : Type) := List Nat → Option (α × List Nat)
def cntB (x : Int) : List Nat := numB x.toNat
def rdCnt : Rdr Int := fun l => match rdNum l with
  | none => none
  | some (n, r) => some ((n : Int), r)
def rdSgn : Rdr Int := fun l => match rdNum l with
  | none => none
  | some (n, r) => some (unsN n, r)
def rdTimes {α : Type} (one : Rdr α) : Nat → Rdr (List α)
  | 0, l => some ([], l)
  | n + 1, l => match one l with
    | none => none
    | some (x, r) => match rdTimes one n r with
      | none => none
      | some (xs, q) => some (x :: xs, q)
def rdList {α : Type} (most : Nat) (one : Rdr α) : Rdr (List α) := fun l => match rdNum l with
  | none => none
  | some (n, r) => if most < n then none else rdTimes one n r
def listB {α : Type} (one : α → List Nat) (l : List α) : List Nat := numB l.length ++ l.flatMap one

/-- What is written so is read so. -/
def Fwd {α : Type} (wr : α → List Nat) (rd : Rdr α) (P : α → Prop) : Prop := ∀ x r, P x → rd (wr x ++ r) = some (x, r)
/-- What is read so is written so. -/
def Bwd {α : Type} (wr : α → List Nat) (rd : Rdr α) : Prop := ∀ l x r, (∀ y ∈ l, y < 256) → rd l = some (x, r) → l = wr x ++ r
theorem Bwd.rest {α : Type} {wr : α → List Nat} {rd : Rdr α} (h : Bwd wr rd) {l : List Nat} {x : α} {r : List Nat} (hl : ∀ y ∈ l, y < 256) (he : rd l = some (x, r)) : ∀ y ∈ r, y < 256 := by
  have := h l x r hl he
  subst this
  intro y hy
  exact hl y (List.mem_append_right _ hy)
theorem cnt_fwd : Fwd cntB rdCnt (fun x => 0 ≤ x ∧ x < 34359738368) := by
  intro x r ⟨h0, h1⟩
  unfold rdCnt cntB
  rw [rdNum_numB (by omega)]
  simp only [Option.some.injEq, Prod.mk.injEq, and_true]
  omega
theorem cnt_bwd : Bwd cntB rdCnt := by
  intro l x r hl h
  unfold rdCnt at h
  split at h
  · cases h
  · rename_i n q e
    simp only [Option.some.injEq, Prod.mk.injEq] at h
    obtain ⟨rfl, rfl⟩ := h
    exact (rdNum_inv hl e).1
theorem sgn_fwd : Fwd sgnB rdSgn (fun x => -17179869184 ≤ x ∧ x < 17179869184) := by
  intro x r ⟨h0, h1⟩
  unfold rdSgn sgnB
  rw [rdNum_numB (by unfold sgnN; split <;> omega)]
  simp only [unsN_sgnN]
theorem sgn_bwd : Bwd sgnB rdSgn := by
  intro l x r hl h
  unfold rdSgn at h
  split at h
  · cases h
  · rename_i n q e
    simp only [Option.some.injEq, Prod.mk.injEq] at h
    obtain ⟨rfl, rfl⟩ := h
    unfold sgnB
    rw [sgnN_unsN]
    exact (rdNum_inv hl e).1
theorem times_fwd {α : Type} {wr : α → List Nat} {rd : Rdr α} {P : α → Prop} (h : Fwd wr rd P) : ∀ (xs : List α) (r : List Nat), (∀ x ∈ xs, P x) → rdTimes rd xs.length (xs.flatMap wr ++ r) = some (xs, r)
  | [], r, _ => rfl
  | x :: xs, r, hp => by
    simp only [List.length_cons, List.flatMap_cons, List.append_assoc, rdTimes]
    rw [h x _ (hp x (List.mem_cons_self ..))]
    simp only
    rw [times_fwd h xs r (fun y hy => hp y (List.mem_cons_of_mem _ hy))]
theorem times_bwd {α : Type} {wr : α → List Nat} {rd : Rdr α} (h : Bwd wr rd) : ∀ (n : Nat) (l : List Nat) (xs : List α) (r : List Nat), (∀ y ∈ l, y < 256) → rdTimes rd n l = some (xs, r) → l = xs.flatMap wr ++ r ∧ xs.length = n
  | 0, l, xs, r, _, e => by
    simp only [rdTimes, Option.some.injEq, Prod.mk.injEq] at e
    obtain ⟨rfl, rfl⟩ := e
    exact ⟨rfl, rfl⟩
  | n + 1, l, xs, r, hl, e => by
    simp only [rdTimes] at e
    split at e
    · cases e
    · rename_i x q e1
      have h1 := h _ _ _ hl e1
      have hq := h.rest hl e1
      split at e
      · cases e
      · rename_i ys q2 e2
        simp only [Option.some.injEq, Prod.mk.injEq] at e
        obtain ⟨rfl, rfl⟩ := e
        obtain ⟨h2, h3⟩ := times_bwd h n _ _ _ hq e2
        refine ⟨?_, by rw [List.length_cons, h3]⟩
        rw [h1, h2, List.flatMap_cons, List.append_assoc]
theorem list_fwd {α : Type} {wr : α → List Nat} {rd : Rdr α} {P : α → Prop} (most : Nat) (hm : most < 34359738368) (h : Fwd wr rd P) : Fwd (listB wr) (rdList most rd) (fun xs => xs.length ≤ most ∧ ∀ x ∈ xs, P x) := by
  intro xs r ⟨h0, h1⟩
  unfold rdList listB
  rw [List.append_assoc, rdNum_numB (by omega)]
  simp only
  rw [if_neg (by omega), times_fwd h xs r h1]
theorem list_bwd {α : Type} {wr : α → List Nat} {rd : Rdr α} (most : Nat) (h : Bwd wr rd) : Bwd (listB wr) (rdList most rd) := by
  intro l xs r hl e
  unfold rdList at e
  split at e
  · cases e
  · rename_i n q e1
    split at e
    · cases e
    · obtain ⟨h1, h2⟩ := times_bwd h n _ _ _ (rdNum_rest hl e1) e
      rw [(rdNum_inv hl e1).1, h1]
      unfold listB
      rw [h2, List.append_assoc]

def stepN (n x : Nat) : Nat := (n * 33 + x) % 4294967296
theorem stepN_lt (n x : Nat) : stepN n x < 4294967296 := Nat.mod_lt _ (by decide)
theorem solve33 {n m x M : Nat} (hco : Nat.Coprime M 33) (hn : n < M) (hle : m ≤ n) (h : (n * 33 + x) % M = (m * 33 + x) % M) : n = m := by
  have h1 := Nat.sub_mod_eq_zero_of_mod_eq h
  rw [show n * 33 + x - (m * 33 + x) = 33 * (n - m) by omega] at h1
  have h2 := Nat.eq_zero_of_dvd_of_lt (Nat.Coprime.dvd_of_dvd_mul_left hco (Nat.dvd_of_mod_eq_zero h1)) (by omega)
  omega
theorem stepN_inj {n m x : Nat} (hn : n < 4294967296) (hm : m < 4294967296) (h : stepN n x = stepN m x) : n = m := by
  rcases Nat.le_total m n with hle | hle
  · exact solve33 (by decide) hn hle h
  · exact (solve33 (by decide) hm hle h.symm).symm
theorem solve1 {n x y M : Nat} (hM : 256 ≤ M) (hx : x < 256) (hle : y ≤ x) (h : (n * 33 + x) % M = (n * 33 + y) % M) : x = y := by
  have h1 := Nat.sub_mod_eq_zero_of_mod_eq h
  rw [show n * 33 + x - (n * 33 + y) = x - y by omega] at h1
  have h2 := Nat.eq_zero_of_dvd_of_lt (Nat.dvd_of_mod_eq_zero h1) (by omega)
  omega
theorem stepN_ne {n x y : Nat} (hx : x < 256) (hy : y < 256) (h : stepN n x = stepN n y) : x = y := by
  rcases Nat.le_total y x with hle | hle
  · exact solve1 (by decide) hx hle h
  · exact (solve1 (by decide) hy hle h.symm).symm
def sumN (l : List Nat) : Nat := l.foldl stepN 5381
def sum4 (n : Nat) : List Nat := [n % 256, n / 256 % 256, n / 65536 % 256, n / 16777216 % 256]
def sealB (l : List Nat) : List Nat := l ++ sum4 (sumN l)
theorem foldl_inj : ∀ (l : List Nat) (n m : Nat), n < 4294967296 → m < 4294967296 → l.foldl stepN n = l.foldl stepN m → n = m
  | [], _, _, _, _, h => h
  | x :: l, n, m, hn, hm, h => by
    simp only [List.foldl_cons] at h
    exact stepN_inj hn hm (foldl_inj l _ _ (stepN_lt _ _) (stepN_lt _ _) h)
theorem foldl_lt : ∀ (l : List Nat) (n : Nat), n < 4294967296 → l.foldl stepN n < 4294967296
  | [], _, h => h
  | x :: l, n, _ => by
    simp only [List.foldl_cons]
    exact foldl_lt l _ (stepN_lt _ _)
theorem sumN_lt (l : List Nat) : sumN l < 4294967296 := foldl_lt l 5381 (by decide)
theorem sumN_ne {a b : List Nat} {x y : Nat} (hx : x < 256) (hy : y < 256) (h : x ≠ y) : sumN (a ++ x :: b) ≠ sumN (a ++ y :: b) := by
  intro e
  unfold sumN at e
  rw [List.foldl_append, List.foldl_append, List.foldl_cons, List.foldl_cons] at e
  exact h (stepN_ne hx hy (foldl_inj b _ _ (stepN_lt _ _) (stepN_lt _ _) e))
theorem sum4_inj {n m : Nat} (hn : n < 4294967296) (hm : m < 4294967296) (h : sum4 n = sum4 m) : n = m := by
  simp only [sum4, List.cons.injEq, and_true] at h
  omega
theorem sum4_len (n : Nat) : (sum4 n).length = 4 := rfl
theorem seal_len (l : List Nat) : (sealB l).length = l.length + 4 := by simp [sealB, sum4_len]
theorem seal_take (l : List Nat) : (sealB l).take ((sealB l).length - 4) = l := by
  rw [seal_len]
  simp [sealB]
theorem seal_drop (l : List Nat) : (sealB l).drop ((sealB l).length - 4) = sum4 (sumN l) := by
  rw [seal_len]
  simp [sealB]
/-- Does the sum stand behind the bytes? -/
def sealed (l : List Nat) : Bool := decide (8 ≤ l.length) && (l.drop (l.length - 4) == sum4 (sumN (l.take (l.length - 4))))
theorem sealed_seal {l : List Nat} (h : 4 ≤ l.length) : sealed (sealB l) = true := by
  unfold sealed
  rw [seal_take, seal_drop, seal_len]
  simp
  omega
theorem sealed_inv {l : List Nat} (h : sealed l = true) : sealB (l.take (l.length - 4)) = l := by
  unfold sealed at h
  simp only [Bool.and_eq_true, decide_eq_true_eq, beq_iff_eq] at h
  unfold sealB
  rw [← h.2, List.take_append_drop]
theorem sealed_set {l : List Nat} (i y : Nat) (hi : i < (sealB l).length) (hy : y < 256) (hx : (sealB l).getD i 0 < 256) (hne : (sealB l).getD i 0 ≠ y) : sealed ((sealB l).set i y) = false := by
  unfold sealed
  simp only [Bool.and_eq_false_iff, decide_eq_false_iff_not, beq_eq_false_iff_ne]
  right
  rw [List.length_set, seal_len, Nat.add_sub_cancel]
  rw [seal_len] at hi
  have hg : (sealB l).getD i 0 = (sealB l)[i]'(by rw [seal_len]; exact hi) := by simp [List.getD_eq_getElem?_getD, seal_len, hi]
  rw [hg] at hx hne
  by_cases hl : i < l.length
  · have e1 : (sealB l).set i y = l.set i y ++ sum4 (sumN l) := by unfold sealB; rw [List.set_append_left _ _ hl]
    rw [e1]
    have hls : (l.set i y).length = l.length := List.length_set
    rw [List.drop_left' hls, List.take_left' hls]
    have e2 : l = l.take i ++ l[i] :: l.drop (i + 1) := by
      rw [← List.drop_eq_getElem_cons hl, List.take_append_drop]
    have e3 : l.set i y = l.take i ++ y :: l.drop (i + 1) := by
      rw [List.set_eq_take_append_cons_drop, if_pos hl]
    have e4 : (sealB l)[i]'(by rw [seal_len]; exact hi) = l[i] := by unfold sealB; rw [List.getElem_append_left hl]
    rw [e4] at hx hne
    intro hc
    have hs := sum4_inj (sumN_lt _) (sumN_lt _) hc
    rw [e3] at hs
    have hs2 : sumN (l.take i ++ l[i] :: l.drop (i + 1)) = sumN (l.take i ++ y :: l.drop (i + 1)) := by rw [← e2]; exact hs
    exact sumN_ne hx hy hne hs2
  · have hge : l.length ≤ i := by omega
    have e1 : (sealB l).set i y = l ++ (sum4 (sumN l)).set (i - l.length) y := by unfold sealB; rw [List.set_append_right _ _ hge]
    rw [e1, List.drop_left, List.take_left]
    have e4 : (sealB l)[i]'(by rw [seal_len]; exact hi) = (sum4 (sumN l))[i - l.length]'(by rw [sum4_len]; omega) := by unfold sealB; rw [List.getElem_append_right hge]
    rw [e4] at hne
    intro hc
    have h5 : ((sum4 (sumN l)).set (i - l.length) y)[i - l.length]? = (sum4 (sumN l))[i - l.length]? := by rw [hc]
    rw [List.getElem?_set_self (by rw [sum4_len]; omega), List.getElem?_eq_getElem (by rw [sum4_len]; omega)] at h5
    exact hne (Option.some.inj h5).symm
theorem sum4_small (n : Nat) : ∀ x ∈ sum4 n, x < 256 := by
  intro x hx
  simp only [sum4, List.mem_cons, List.not_mem_nil, or_false] at hx
  omega
end Go.Proofs.YtjbinejaagpleaaDoor
