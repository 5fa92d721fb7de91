/- What the syntax texts share, part 35. No condition. -/
import Derived.Test.YtjmlmelcppbefaaGreatDoorT10
import Derived.Test.YtjmlmelcppbefaaGreatDoorT09
import Derived.Test.YtjmlmelcppbefaaGreatDoorT26
import Derived.Test.YtjmlmelcppbefaaGreatDoorT29
import Derived.Test.YtjmlmelcppbefaaGreatDoorT32
set_option maxRecDepth 100000
namespace Go.Proofs.YtjmlmelcppbefaaGreatDoor
open Go.RowKit Go.Maps
def XlAt (w : World) (a : Option Addr) (l : List Ex) : Prop := ExsL (fun _ => True) w a 0 l
theorem XlAt.at {w : World} {a : Option Addr} {l : List Ex} (h : XlAt w a l) {j : Nat} (hj : j < l.length) : ∃ b off cs, a = some ⟨b, off, none⟩ ∧ w.rangeAt b (off + j * 7) cs ∧ ExL (fun _ => True) w cs (l.getD j zEx) := by
 obtain ⟨b, off, cs, h1, -, h2, h3⟩ := ExsL.at h j hj
 exact ⟨b, off, cs, h1, fun t v hv => by simpa using h2 t v hv, h3⟩
theorem ExL.below {w w' : World} {cs : List Value} {x : Ex} (h : ExL (fun _ => True) w cs x) (hb : Below w.heap.size w w') : ExL (fun _ => True) w' cs x :=
 ExL.keep (fun b o v _ hv => by rw [← hv]; simp [World.cell?, hb.block b (World.block_lt_of_cell? w _ hv)]) h
theorem XlAt.below {w w' : World} {a : Option Addr} {l : List Ex} (h : XlAt w a l) (hb : Below w.heap.size w w') : XlAt w' a l :=
 ExsL.keep (fun b o v _ hv => by rw [← hv]; simp [World.cell?, hb.block b (World.block_lt_of_cell? w _ hv)]) h
theorem depth_ge {l : List Ex} {n j : Nat} (h : Ex.depths l ≤ n) (hj : j < l.length) : (l.getD j zEx).depth ≤ n := (depths_le n l).1 h j hj
theorem toListInj {s t : ByteArray} (h : s.toList = t.toList) : s = t := by
 rw [ByteArray.toList_eq, ByteArray.toList_eq] at h
 exact ByteArray.ext (Array.toList_inj.1 h)
theorem neOr {α : Type} [DecidableEq α] (a b : α) : a ≠ b ∨ a = b := (Decidable.em (a = b)).symm
theorem still_of_quiet {P : Program} {o : Oper} {a : Act} {W : World} {K : Act → Prop} (h : o.quiet P a (fun w' => w' = W) K) : o.still P a W K := by
 obtain ⟨v, h1, h2⟩ := h
 have h3 := h1 W rfl
 unfold Oper.quietAt at h3
 unfold Oper.still
 generalize (execOp a.eval o).run P W = r at h3
 unfold Oper.quietUpon at h3
 unfold Oper.stillUpon
 split at h3
 ·obtain ⟨rfl, rfl⟩ := h3
  exact ⟨rfl, h2⟩
 ·obtain ⟨rfl, rfl⟩ := h3
  exact ⟨rfl, h2⟩
 ·exact ⟨h3.1, v, h3.2, h2⟩
 ·exact h3.elim
theorem wpStill_of_quiet {P : Program} {ops : Array Oper} {W : World} {Q : Act → Prop} : ∀ (l : List Oper) (a : Act), wpQuiet P ops (fun w' => w' = W) Q l a → wpStill P ops W Q l a
 | [], _, h => h
 | o :: rest, a, h => by
  unfold wpQuiet at h
  unfold wpStill
  split
  ·rename_i hw
   rw [if_pos hw] at h
   exact Oper.still_mono (fun a h => wpStill_of_quiet rest a h) (still_of_quiet h)
  ·rename_i hw
   rw [if_neg hw] at h
   exact wpStill_of_quiet rest _ h
theorem wp_region_quiet_tail {P : Program} {id : Nat} {Q : Exit → Act → World → Prop} {a : Act} {w : World} {l : List Oper} (n : Nat) (hm : P.follows .mixedOrders = true) (hB : Region.lexTailB .any l.toArray n = true)
  (h : wpQuiet P l.toArray (fun w' => w' = w.drew) (fun a' => wpList P l.toArray Q (l.drop n) a' w.drew) (l.take n) a) : (Code.region id l.toArray true).wp P Q a w :=
 wp_region_still_tail n hm hB (wpStill_of_quiet _ _ h)
theorem wpList_load_g {P : Program} {ops : Array Oper} {rest : List Oper} {op : Oper} {a : Act} {w : World} {Q : Exit → Act → World → Prop} (hw : Region.wanted op (yielded ops a.tmps) = true) (ty : TypeId) (x : Operand) (ho : op.op = .load ty x)
  (b o : Nat) (hx : a.eval x = .pointer (some ⟨b, o, none⟩)) (cs : List Value) (d : TypeDesc) (hc : w.rangeAt b o cs) (hu : P.underlying ty = some d) (hd : d.isRow = true) (hi : (P.info? ty).map (·.size) = some cs.length)
  (h : wpList P ops Q rest (a.put op.dst (.agg cs.toArray)) w) : wpList P ops Q (op :: rest) a w :=
 wpList_step fun K hK => by
  rw [if_pos hw]
  exact wp_load_mid ty x ho b o hx cs d hc hu hd hi (hK _ _ h)
theorem StAt.below {w w' : World} {b off : Nat} {s : St} (h : StAt w b off s) (hb : Below w.heap.size w w') : StAt w' b off s := by
 obtain ⟨cs, h1, h2⟩ := h
 have hk : ∀ (b o : Nat) (v : Value), w.cell? ⟨b, o, none⟩ = some v → w'.cell? ⟨b, o, none⟩ = some v := fun b o v hv => by rw [← hv]; simp [World.cell?, hb.block b (World.block_lt_of_cell? w _ hv)]
 exact ⟨cs, fun j v hv => hk _ _ _ (h1 j v hv), StL.keep (fun b o v _ hv => hk b o v hv) h2⟩
structure Lev (w : World) (q : Nat) (V : World) (a : Option Addr) (cap : Nat) (l : List St) (s : St) : Prop where
 b : Below w.heap.size w V
 z : Blk V w.heap.size 25 [.int .i64 0, .int .i64 0]
 l : SlAt V a cap l
 s : StAt V q 0 s
theorem Lev.below {w V V' : World} {q : Nat} {a : Option Addr} {cap : Nat} {l : List St} {s : St} (h : Lev w q V a cap l s) (hb : Below V.heap.size V V') : Lev w q V' a cap l s :=
 ⟨h.b.trans (hb.mono h.b.size), h.z.below hb, h.l.below hb, h.s.below hb⟩
theorem ExL.at0 {w : World} {b off : Nat} {x : Ex} (h : ExAt w b off x) : ∃ cs : List Value, w.rangeAt b off cs ∧ cs.length = 7 ∧ ExL (fun _ => True) w cs x := by
 obtain ⟨cs, h1, h2⟩ := h
 exact ⟨cs, h1, h2.cells.1, h2⟩
end Go.Proofs.YtjmlmelcppbefaaGreatDoor
