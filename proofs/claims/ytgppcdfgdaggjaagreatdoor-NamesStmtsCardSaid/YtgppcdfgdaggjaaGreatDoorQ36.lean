/- Texts laid together. No condition but what each law says. -/
import Derived.Test.YtgppcdfgdaggjaaGreatDoorQ35
set_option maxRecDepth 100000
set_option maxHeartbeats 8000000
namespace Go.Proofs.YtgppcdfgdaggjaaGreatDoor
open Go.RowKit Go.Maps
theorem walk_all {l : Nat} {own : World → Nat → Prop} {J Jx : List Yv → World → Prop} {full : List Yv} {B0 : Nat} {T0 : Nat → Prop} {W0 : World} (H : Wh l own J Jx full B0) : ∀ (m : Nat) (body : List St), SizeOf.sizeOf body < m →
  ∀ (pre : List Yv) (d : Nat) (A : World) (a : Option Addr) (cap : Nat), Roomy body.length cap → StsL T0 W0 a 0 body → St.szs body → pre ++ wkL d body <+: full → d + St.cns body ≤ 100000 → J pre A → Wi own T0 B0 W0 A →
   Calls Tryz.prog 127 #[.slice a body.length cap, .int .i64 d, .func (.yield l) #[] #[]] A (WkR own J Jx T0 B0 W0 (pre ++ wkL d body))
 | 0, _, h => absurd h (Nat.not_lt_zero _)
 | m + 1, body, h => walk_step H body fun body2 h2 => walk_all H m body2 (by omega)
theorem stmts_seq {w w' : World} {bt : Nat} {a : Option Addr} {cap : Nat} {l : List St} (_hw : w.heap.size ≤ bt) (hk : Blk w' bt 44 [.slice a l.length cap]) (hr : Roomy l.length cap) (ht : StsL (fun c => w.heap.size ≤ c ∧ c < w'.heap.size) w' a 0 l) (hz : St.szs l) (hn : St.cns l ≤ 90000) :
  SeqO Tryz.prog 126 #[Pt bt] (fun k => w.heap.size ≤ k ∧ k < w'.heap.size) (wkL 1 l) w' := by
 intro ln own J Jx W hW hT hlt hab hJ hJx hY h0
 have hbt : W.cell? ⟨bt, 0, none⟩ = some (.slice a l.length cap) := by rw [(hk.below hW).cell]; rfl
 have H : Wh ln own J Jx (wkL 1 l) W.heap.size := ⟨hlt, hab, hJ, hY⟩
 have hi : Wi own (fun k => w.heap.size ≤ k ∧ k < w'.heap.size) W.heap.size w' W := ⟨fun k hk => ⟨Nat.lt_of_lt_of_le hk.2 hW.size, fun ho => hT k ho hk⟩, fun k hk => hW.block k hk.2, Nat.le_refl _⟩
 have hc := walk_all H _ l (Nat.lt_succ_self _) [] 1 W a cap hr ht hz (List.prefix_rfl) (by omega) h0 hi
 have HC := O hc
 clear hY h0 H hi hc hlt hab hJ hJx hT
 show CallsIn Fence.wide 0 Tryz.prog 126 #[.func (.yield ln) #[] #[], Pt bt] W _
 refine callsIn_wide.2 ?_
 obtain ⟨C, hN⟩ := eX l.length
 have hcc := HC.out
 rw [hN] at hbt hcc
 clear HC hN hk hr ht
 go_enter Tryz.func126, Tryz.ntmps126
 go_wp2_with fail
 refine hcc.mono ?_
 clear hcc hbt
 rintro e W2 (⟨rfl, hj, -⟩ | ⟨rfl, q, hq⟩)
 ·go_wp2_with fail
  go_end0
  exact ⟨⟨_, rfl⟩, .inl hj⟩
 ·go_wp2_with fail
  go_end0
  exact ⟨⟨_, rfl⟩, .inr ⟨q, hq⟩⟩
end Go.Proofs.YtgppcdfgdaggjaaGreatDoor
