/- What the syntax texts share, part 11. No condition. -/
import Derived.Test.YtjmlmelcppbefaaGreatDoorT09
namespace Go.Proofs.YtjmlmelcppbefaaGreatDoor
section
variable (T : List Wd)
theorem dep1 (k n : Int) (s : ByteArray) (sl : Int) (lo : Bool) (o : Int) : (Ex.mk k n s sl lo o []).depth = 1 := by simp [Ex.depth, Ex.depths]
theorem dep2 (k n : Int) (s : ByteArray) (sl : Int) (lo : Bool) (o : Int) (x : Ex) : (Ex.mk k n s sl lo o [x]).depth = x.depth + 1 := by simp [Ex.depth, Ex.depths]
theorem dep3 (k n : Int) (s : ByteArray) (sl : Int) (lo : Bool) (o : Int) (x y : Ex) : (Ex.mk k n s sl lo o [x, y]).depth = max x.depth y.depth + 1 := by simp [Ex.depth, Ex.depths]
theorem pE_dep : ∀ f,
  (∀ n i x j, pE T f n i = some (.ok (x, j)) → x.depth + i ≤ j) ∧ (∀ n m l i i0 x j, l.depth + i0 ≤ i → pL T f n m l i = some (.ok (x, j)) → x.depth + i0 ≤ j) ∧
  (∀ i x j, pU T f i = some (.ok (x, j)) → x.depth + i ≤ j) ∧ (∀ i x j, pP T f i = some (.ok (x, j)) → x.depth + i ≤ j) := by
 intro f
 induction f with
 | zero => exact ⟨fun _ _ _ _ h => by simp [pE] at h, fun _ _ _ _ _ _ _ _ h => by simp [pL] at h, fun _ _ _ h => by simp [pU] at h, fun _ _ _ h => by simp [pP] at h⟩
 | succ f ih =>
  obtain ⟨hE, hL, hU, hP⟩ := ih
  refine ⟨fun n i x j h => ?_, fun n m l i i0 x j hl h => ?_, fun i x j h => ?_, fun i x j h => ?_⟩
  ·rw [pE] at h
   obtain ⟨l, k, h1, h2⟩ := andT_inv h
   exact hL _ _ _ _ i _ _ (hU _ _ _ h1) h2
  ·rw [pL] at h
   split at h
   ·cases h
    exact hl
   ·obtain ⟨y, k, h1, h2⟩ := andT_inv h
    have h3 := hE _ _ _ _ h1
    refine hL _ _ _ _ i0 _ _ ?_ h2
    unfold exBin
    rw [dep3]
    omega
  ·rw [pU] at h
   split at h
   ·obtain ⟨y, k, h1, h2⟩ := andT_inv h
    have h3 := hU _ _ _ h1
    cases h2
    unfold exNeg
    rw [dep2]
    omega
   split at h
   ·obtain ⟨y, k, h1, h2⟩ := andT_inv h
    have h3 := hU _ _ _ h1
    cases h2
    unfold exNot
    rw [dep2]
    omega
   ·exact hP _ _ _ h
  ·rw [pP] at h
   split at h
   ·obtain ⟨y, k, h1, h2⟩ := andT_inv h
    have h3 := hE _ _ _ _ h1
    obtain ⟨_, m, h4, h5⟩ := andT_inv h2
    have h6 := want_ok T h4
    cases h5
    omega
   split at h
   ·cases h
    unfold exNum
    rw [dep1]
    omega
   ·obtain ⟨s, k, h1, h2⟩ := andT_inv h
    have hk : k = i + 1 := by
     unfold pName at h1
     split at h1 <;> cases h1
     rfl
    split at h2
    ·obtain ⟨y, m, h3, h4⟩ := andT_inv h2
     have h5 := hE _ _ _ _ h3
     obtain ⟨_, q, h6, h7⟩ := andT_inv h4
     have h8 := want_ok T h6
     cases h7
     unfold exCell
     rw [dep2]
     omega
    ·cases h2
     unfold exName
     rw [dep1]
     omega
theorem pX_dep {i j : Nat} {x : Ex} (hi : i ≤ T.length) (h : pX T i = some (.ok (x, j))) : x.depth ≤ T.length + 1 := by
 have h1 := (pE_dep T _).1 _ _ _ _ h
 have h2 := pX_go T hi h
 omega
end
mutual
def St.xb (n : Nat) : St → Prop
 | .mk _ _ _ _ _ x y b e _ _ _ _ => x.depth ≤ n ∧ y.depth ≤ n ∧ St.xbs n b ∧ St.xbs n e
def St.xbs (n : Nat) : List St → Prop
 | [] => True
 | s :: r => St.xb n s ∧ St.xbs n r
end
theorem xbs_app {n : Nat} : ∀ {l m : List St}, St.xbs n l → St.xbs n m → St.xbs n (l ++ m)
 | [], _, _, h => h
 | s :: r, m, h1, h2 => by
  rw [List.cons_append]
  unfold St.xbs at h1 ⊢
  exact ⟨h1.1, xbs_app h1.2 h2⟩
theorem xbs_at {n : Nat} : ∀ {l : List St}, St.xbs n l → ∀ {j : Nat} {s : St}, l[j]? = some s → St.xb n s
 | [], _, _, _, h => by simp at h
 | s :: r, h1, j, t, h => by
  unfold St.xbs at h1
  cases j with
  | zero =>
   simp only [List.getElem?_cons_zero, Option.some.injEq] at h
   subst h
   exact h1.1
  | succ j => exact xbs_at h1.2 (by simpa using h)
theorem z_dep : zEx.depth = 1 := dep1 _ _ _ _ _ _
section
variable (T : List Wd)
theorem xb_mk {n : Nat} {k : Int} {p : Int × Int} {s t : ByteArray} {x y : Ex} {b e : List St} (h1 : x.depth ≤ n) (h2 : y.depth ≤ n) (h3 : St.xbs n b) (h4 : St.xbs n e) : St.xb n (mkSt k p s t x y b e) := by
 unfold mkSt St.xb
 exact ⟨h1, h2, h3, h4⟩
theorem xbs_nil (n : Nat) : St.xbs n [] := by unfold St.xbs; trivial
theorem z_le : zEx.depth ≤ T.length + 1 := by rw [z_dep]; omega
theorem pPlain_xb {p : Int × Int} {k i j : Nat} {s : St} (hi : i ≤ T.length) (h : pPlain T p k i = some (.ok (s, j))) : St.xb (T.length + 1) s := by
 have hz := z_le T
 have hn := xbs_nil (T.length + 1)
 unfold pPlain at h
 split at h
 ·obtain ⟨_, _, -, h2⟩ := andT_inv h
  cases h2
  exact xb_mk hz hz hn hn
 split at h
 ·obtain ⟨x, _, h1, h2⟩ := andT_inv h
  obtain ⟨_, _, -, h4⟩ := andT_inv h2
  cases h4
  exact xb_mk (pX_dep T hi h1) hz hn hn
 obtain ⟨s, j1, h1, h2⟩ := andT_inv h
 have h3 := pName_ok T h1
 split at h2
 ·obtain ⟨_, m, h4, h5⟩ := andT_inv h2
  have h6 := want_ok T h4
  obtain ⟨x, _, h7, h8⟩ := andT_inv h5
  obtain ⟨_, _, -, h9⟩ := andT_inv h8
  cases h9
  exact xb_mk (pX_dep T (by omega) h7) hz hn hn
 split at h2
 ·obtain ⟨_, m, -, h5⟩ := andT_inv h2
  obtain ⟨_, _, -, h9⟩ := andT_inv h5
  cases h9
  exact xb_mk hz hz hn hn
 split at h2
 ·obtain ⟨x, m, h4, h5⟩ := andT_inv h2
  obtain ⟨_, _, -, h9⟩ := andT_inv h5
  cases h9
  exact xb_mk (pX_dep T (by omega) h4) hz hn hn
 ·obtain ⟨_, _, -, h9⟩ := andT_inv h2
  cases h9
  exact xb_mk hz hz hn hn
theorem pAssign_xb {p : Int × Int} {i j : Nat} {s : St} (h : pAssign T p i = some (.ok (s, j))) : St.xb (T.length + 1) s := by
 have hz := z_le T
 have hn := xbs_nil (T.length + 1)
 unfold pAssign at h
 obtain ⟨s, j1, h1, h2⟩ := andT_inv h
 have h3 := pName_ok T h1
 split at h2
 ·rename_i hc
  have hc2 := isT_lt T hc
  obtain ⟨y, m, h4, h5⟩ := andT_inv h2
  have h6 := pX_go T (by omega) h4
  obtain ⟨_, n, h7, h8⟩ := andT_inv h5
  have h9 := want_ok T h7
  obtain ⟨_, q, h10, h11⟩ := andT_inv h8
  have h12 := want_ok T h10
  obtain ⟨x, r, h13, h14⟩ := andT_inv h11
  obtain ⟨_, _, -, h16⟩ := andT_inv h14
  cases h16
  exact xb_mk (pX_dep T (by omega) h13) (pX_dep T (by omega) h4) hn hn
 ·obtain ⟨_, q, h10, h11⟩ := andT_inv h2
  have h12 := want_ok T h10
  obtain ⟨x, r, h13, h14⟩ := andT_inv h11
  obtain ⟨_, _, -, h16⟩ := andT_inv h14
  cases h16
  exact xb_mk (pX_dep T (by omega) h13) hz hn hn
theorem pS_xb : ∀ f,
  (∀ i l j, i ≤ T.length → pB T f i = some (.ok (l, j)) → St.xbs (T.length + 1) l) ∧ (∀ acc i l j, i ≤ T.length → St.xbs (T.length + 1) acc → pSs T f acc i = some (.ok (l, j)) → St.xbs (T.length + 1) l) ∧
  (∀ i s j, i ≤ T.length → pS T f i = some (.ok (s, j)) → St.xb (T.length + 1) s) := by
 intro f
 induction f with
 | zero => exact ⟨fun _ _ _ _ h => by simp [pB] at h, fun _ _ _ _ _ _ h => by simp [pSs] at h, fun _ _ _ _ h => by simp [pS] at h⟩
 | succ f ih =>
  obtain ⟨hB, hSs, hS⟩ := ih
  refine ⟨fun i l j hi h => ?_, fun acc i l j hi ha h => ?_, fun i s j hi h => ?_⟩
  ·rw [pB] at h
   obtain ⟨_, k, h1, h2⟩ := andT_inv h
   have h3 := want_ok T h1
   exact hSs _ _ _ _ (by omega) (xbs_nil _) h2
  ·rw [pSs] at h
   split at h
   ·cases h
    exact ha
   ·obtain ⟨s, k, h1, h2⟩ := andT_inv h
    have h3 := (pS_adv T f).2.2 _ _ _ hi h1
    exact hSs _ _ _ _ h3.2 (xbs_app ha (by unfold St.xbs; exact ⟨hS _ _ _ hi h1, xbs_nil _⟩)) h2
  ·rw [pS] at h
   split at h
   ·exact pAssign_xb T h
   split at h
   ·cases h
   rename_i h0 hc
   have hk3 : kindAt T i = 3 := by
    rcases Int.decEq (kindAt T i) 3 with h | h
    ·exact absurd (.inl h) hc
    ·exact h
   have hlt := kind_lt T (i := i) (by rw [hk3]; decide)
   have hz := z_le T
   split at h
   ·obtain ⟨x, k, h1, h2⟩ := andT_inv h
    obtain ⟨b, m, h3, h4⟩ := andT_inv h2
    have h5 := pX_go T (by omega) h1
    cases h4
    exact xb_mk (pX_dep T (by omega) h1) hz (hB _ _ _ h5.2 h3) (xbs_nil _)
   split at h
   ·obtain ⟨x, k, h1, h2⟩ := andT_inv h
    obtain ⟨b, m, h3, h4⟩ := andT_inv h2
    have h5 := pX_go T (by omega) h1
    have h6 := (pS_adv T f).1 _ _ _ h5.2 h3
    split at h4
    ·rename_i hc2
     have hlt2 := isT_lt T hc2
     obtain ⟨c, q, h7, h8⟩ := andT_inv h4
     cases h8
     exact xb_mk (pX_dep T (by omega) h1) hz (hB _ _ _ h5.2 h3) (hB _ _ _ (by omega) h7)
    ·cases h4
     exact xb_mk (pX_dep T (by omega) h1) hz (hB _ _ _ h5.2 h3) (xbs_nil _)
   ·exact pPlain_xb T (by omega) h
theorem pD_xb {i j : Nat} {d : De} (h : pD T i = some (.ok (d, j))) : St.xbs (T.length + 1) d.body := by
 have hn := xbs_nil (T.length + 1)
 unfold pD at h
 split at h
 ·cases h
 rename_i h0
 have hlt := deAt_lt T h0
 obtain ⟨s, j1, h1, h2⟩ := andT_inv h
 have h3 := pName_ok T h1
 split at h2
 ·obtain ⟨_, m, -, h5⟩ := andT_inv h2
  split at h5
  ·obtain ⟨_, _, -, h6⟩ := andT_inv h5
   obtain ⟨_, _, -, h7⟩ := andT_inv h6
   cases h7
   exact hn
  ·obtain ⟨_, _, -, h6⟩ := andT_inv h5
   obtain ⟨_, _, -, h7⟩ := andT_inv h6
   cases h7
   exact hn
 split at h2
 ·obtain ⟨_, _, -, h6⟩ := andT_inv h2
  obtain ⟨_, _, -, h7⟩ := andT_inv h6
  cases h7
  exact hn
 split at h2
 ·obtain ⟨b, q, h5, h6⟩ := andT_inv h2
  cases h6
  exact (pS_xb T _).1 _ _ _ (by omega) h5
 ·obtain ⟨_, _, -, h7⟩ := andT_inv h2
  cases h7
  exact hn
theorem pDs_xb : ∀ f acc i l j, i ≤ T.length → (∀ d ∈ acc, St.xbs (T.length + 1) d.body) → pDs T f acc i = some (.ok (l, j)) → ∀ d ∈ l, St.xbs (T.length + 1) d.body := by
 intro f
 induction f with
 | zero => intro acc i l j _ _ h; simp [pDs] at h
 | succ f ih =>
  intro acc i l j hi ha h
  rw [pDs] at h
  split at h
  ·obtain ⟨d, k, h1, h2⟩ := andT_inv h
   have h3 := pD_adv T hi h1
   refine ih _ _ _ _ h3.2 ?_ h2
   intro e he
   rcases List.mem_append.1 he with he | he
   ·exact ha e he
   ·obtain rfl : e = d := by simpa using he
    exact pD_xb T h1
  ·cases h
   exact ha
end
end Go.Proofs.YtjmlmelcppbefaaGreatDoor
