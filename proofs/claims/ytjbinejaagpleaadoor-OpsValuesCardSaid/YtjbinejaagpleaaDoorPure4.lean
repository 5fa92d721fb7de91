/- A module's bytes are bytes. Asked: it may be. -/
import Derived.Test.YtjbinejaagpleaaDoorPure3
namespace Go.Proofs.YtjbinejaagpleaaDoor

def Smb (l : List Nat) : Prop := ∀ x ∈ l, x < 256
theorem Smb.app {a b : List Nat} (ha : Smb a) (hb : Smb b) : Smb (a ++ b) := fun x hx => (List.mem_append.1 hx).elim (ha x) (hb x)
theorem smb_num (n : Nat) : Smb (numB n) := numB_small n
theorem smb_flat {α : Type} (f : α → List Nat) (l : List α) (h : ∀ x ∈ l, Smb (f x)) : Smb (l.flatMap f) := fun x hx => by
  obtain ⟨y, hy, hx⟩ := List.mem_flatMap.1 hx
  exact h y hy x hx
theorem smb_list {α : Type} (f : α → List Nat) (l : List α) (h : ∀ x ∈ l, Smb (f x)) : Smb (listB f l) := (smb_num _).app (smb_flat f l h)
theorem smb_ins (i : InsP) (h : i.c.toNat < 256) : Smb (insB i) := by
  unfold insB
  intro x hx
  rcases List.mem_cons.1 hx with rfl | hx
  · exact h
  · have hs : Smb ((if fA i.c then cntB i.a else []) ++ ((if fB i.c then cntB i.b else []) ++ (if fN i.c then sgnB i.n else []))) := ?_
    · exact hs x hx
    clear hx
    refine Smb.app ?_ (Smb.app ?_ ?_)
    · split
      · exact smb_num _
      · intro x hx; cases hx
    · split
      · exact smb_num _
      · intro x hx; cases hx
    · split
      · exact smb_num _
      · intro x hx; cases hx
theorem smb_lin : ∀ (is : List InsP) (ls : List Int) (ah : Int), (∀ i ∈ is, i.c.toNat < 256) → Smb (linB ah is ls)
  | [], ls, _, _ => by intro x hx; cases ls <;> simp [linB] at hx
  | i :: is, [], _, _ => by intro x hx; simp [linB] at hx
  | i :: is, l :: ls, ah, h => by
    rw [linB]
    exact (smb_ins i (h i (by simp))).app ((smb_num _).app (smb_lin is ls l (fun j hj => h j (by simp [hj]))))
theorem iMay_c {i : InsP} (h : iMay i = true) : i.c.toNat < 256 := by
  have : isC i.c = true := by
    unfold iMay at h
    simp only [Bool.and_eq_true] at h
    exact h.1
  have h2 : 1 ≤ i.c ∧ i.c ≤ 34 := by simpa [isC] using this
  omega
theorem smb_mod (m : ModP) (h : mMayP m = true) (hn : ∀ t ∈ m.threads, Smb t.name) : Smb (modP m) := by
  obtain ⟨vs, ars, cs, mu, co, ts⟩ := m
  simp only [mMayP, Bool.and_eq_true, decide_eq_true_eq] at h
  obtain ⟨_, _, _, _, _, _, hta⟩ := h
  unfold modP
  refine Smb.app (by intro x hx; simp at hx; omega) ?_
  refine (smb_list _ _ fun _ _ => smb_num _).app ((smb_list _ _ fun _ _ => smb_num _).app ((smb_list _ _ fun _ _ => smb_num _).app ((smb_num _).app ((smb_num _).app (smb_list _ _ fun t ht => ?_)))))
  have h1 := List.all_eq_true.1 hta t ht
  simp only [tMayP, Bool.and_eq_true, decide_eq_true_eq] at h1
  obtain ⟨_, _, _, ⟨_, hi⟩, _⟩ := h1
  unfold thrP
  exact (smb_num _).app ((hn t ht).app ((smb_num _).app ((smb_num _).app (smb_lin _ _ _ fun i hi' => iMay_c (List.all_eq_true.1 hi i hi')))))
theorem smb_nats (s : ByteArray) : Smb (natsB s) := by
  intro x hx
  obtain ⟨y, _, rfl⟩ := List.mem_map.1 hx
  exact y.toNat_lt
theorem smb_modM (m : ModM) (h : mMay m = true) : Smb (modP m.p) := by
  rw [mMay_p] at h
  refine smb_mod m.p h fun t ht => ?_
  obtain ⟨c, _, rfl⟩ := List.mem_map.1 ht
  exact smb_nats c.name
theorem smb_seal {l : List Nat} (h : Smb l) : Smb (sealB l) := h.app (sum4_small _)
/-- Bytes that stand with their sum, read as a module, are that module's bytes with their sum. -/
theorem seal_back {l : List Nat} {m : ModP} (hl : Smb l) (hs : sealed l = true) (h : rdMod (l.take (l.length - 4)) = some m) : sealB (modP m) = l ∧ mMayP m = true := by
  obtain ⟨h1, h2⟩ := mod_bwd _ m (fun y hy => hl y (List.mem_of_mem_take hy)) h
  rw [← h1]
  exact ⟨sealed_inv hs, h2⟩
/-- A module's bytes with their sum are read as it. -/
theorem seal_fwd {m : ModP} (h : mMayP m = true) : sealed (sealB (modP m)) = true ∧ rdMod ((sealB (modP m)).take ((sealB (modP m)).length - 4)) = some m := by
  refine ⟨sealed_seal (by simp [modP]), ?_⟩
  rw [seal_take]
  exact mod_fwd m h
end Go.Proofs.YtjbinejaagpleaaDoor
