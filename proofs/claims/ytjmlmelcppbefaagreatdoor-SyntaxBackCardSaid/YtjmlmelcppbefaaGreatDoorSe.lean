/- The program's Same, its closure on expressions (140): of two expressions that are the same it tells true, whatever it saw. Asked: they lie in cells that are not frozen. -/
import Derived.Test.YtjmlmelcppbefaaGreatDoorMp
import Derived.Test.YtjmlmelcppbefaaGreatDoorT29
import Derived.Test.YtjmlmelcppbefaaGreatDoorX2
import Derived.Test.YtjmlmelcppbefaaGreatDoorX1
import Derived.BigQuiet
namespace Go.Proofs.YtjmlmelcppbefaaGreatDoor
open Go.RowKit
open Go.Maps
def rangeU (w : World) (b o : Nat) (cs : List Value) : Prop := ∀ (t : Nat) (v : Value), cs[t]? = some v → w.cellU ⟨b, o + t, none⟩ = some v
def ExU (w : World) (b off : Nat) (x : Ex) : Prop := ∃ cs : List Value, rangeU w b off cs ∧ ExL (fun _ => True) w cs x
def StU (w : World) (b off : Nat) (s : St) : Prop := ∃ cs : List Value, rangeU w b off cs ∧ StL (fun _ => True) w cs s
theorem ExU.all {w : World} {b off : Nat} {k n : Int} {s : ByteArray} {sl : Int} {lo : Bool} {op : Int} {args : List Ex} (h : ExU w b off (.mk k n s sl lo op args)) :
  Pt w ⟨b, off, none⟩ ∧ w.cell? ⟨b, off, none⟩ = some (.int .i64 k) ∧ w.cell? ⟨b, off + 1, none⟩ = some (.int .i64 n) ∧ w.cell? ⟨b, off + 2, none⟩ = some (.string s) ∧ w.cell? ⟨b, off + 5, none⟩ = some (.int .i64 op) ∧
  ∃ (a : Option Addr) (cap : Nat), w.cell? ⟨b, off + 6, none⟩ = some (.slice a args.length cap) ∧ Roomy args.length cap ∧ ∀ j, j < args.length → ∃ b2 off2, a = some ⟨b2, off2, none⟩ ∧ ExU w b2 (off2 + j * 7) (args.getD j zEx) := by
 obtain ⟨cs, h1, h2⟩ := h
 unfold ExL at h2
 obtain ⟨a, cap, rfl, hc, hs⟩ := h2
 have hf := fun t v hv => World.cellU_cell (h1 t v hv)
 refine ⟨⟨_, h1 0 _ rfl⟩, hf 0 _ rfl, hf 1 _ rfl, hf 2 _ rfl, hf 5 _ rfl, a, cap, hf 6 _ rfl, hc, fun j hj => ?_⟩
 obtain ⟨b2, off2, cs2, e, -, h3, h4⟩ := hs.atU j hj
 exact ⟨b2, off2, e, cs2, fun t v hv => by have := h3 t v hv; rwa [Nat.zero_add] at this, h4⟩
theorem ExU.six {w : World} {b off : Nat} {x : Ex} {v : Value} (h : ExU w b off x) (hv : w.cell? ⟨b, off + 6, none⟩ = some v) : w.cellU ⟨b, off + 6, none⟩ = some v := by
 obtain ⟨cs, h1, h2⟩ := h
 obtain ⟨k, n, s, sl, lo, op, args⟩ := x
 unfold ExL at h2
 obtain ⟨a, cap, rfl, -, -⟩ := h2
 have h6 := h1 6 _ rfl
 rw [World.cellU_cell h6] at hv
 rw [h6, hv]
theorem cellU_kp {w w' : World} {m : Nat} {es : Array MapEntry} {ck : Nat} (hk : Kp w w' m m) (hm : w.heap[m]? = some (.map es ck)) (b o : Nat) (v : Value) (h : w.cellU ⟨b, o, none⟩ = some v) : w'.cellU ⟨b, o, none⟩ = some v := by
 have hp : Pt w ⟨b, o, none⟩ := ⟨v, h⟩
 have he := hk.block b hp.lt (hp.ne hm) (hp.ne hm)
 rw [← h]
 unfold World.cellU World.cell? World.frozen?
 simp only [he]
theorem ExU.kp {w w' : World} {b off m : Nat} {x : Ex} (h : ExU w b off x) (hk : Kp w w' m m) (hm : Pm w m) : ExU w' b off x := by
 obtain ⟨es, ck, hm, -⟩ := hm
 obtain ⟨cs, h1, h2⟩ := h
 exact ⟨cs, fun t v hv => cellU_kp hk hm _ _ _ (h1 t v hv), h2.keep fun b o v _ hv => cellU_kp hk hm b o v hv⟩
theorem StU.kp {w w' : World} {b off m : Nat} {x : St} (h : StU w b off x) (hk : Kp w w' m m) (hm : Pm w m) : StU w' b off x := by
 obtain ⟨es, ck, hm, -⟩ := hm
 obtain ⟨cs, h1, h2⟩ := h
 exact ⟨cs, fun t v hv => cellU_kp hk hm _ _ _ (h1 t v hv), h2.keep fun b o v _ hv => cellU_kp hk hm b o v hv⟩
structure SeE (w : World) (bs be m : Nat) : Prop where
 s : Blk w bs 197 [.map (some m)]
 f : Blk w be 163 [.func (.func 140) #[] #[.pointer (some ⟨bs, 0, none⟩), .pointer (some ⟨be, 0, none⟩)]]
 m : Pm w m
theorem Blk.kpm {w w' : World} {b m : Nat} {ty : TypeId} {C : List Value} (h : Blk w b ty C) (hk : Kp w w' m m) (hm : Pm w m) : Blk w' b ty C := by
 obtain ⟨es, ck, hm, -⟩ := hm
 have hne : b ≠ m := fun e => by
  subst e
  unfold Blk at h
  rw [h] at hm
  cases hm
 exact h.kp hk hne hne
theorem SeE.kp {w w' : World} {bs be m : Nat} (h : SeE w bs be m) (hk : Kp w w' m m) (hp : Pm w' m) : SeE w' bs be m := ⟨h.s.kpm hk h.m, h.f.kpm hk h.m, hp⟩
theorem exC_inj {k n k' n' : Int} {s s' : ByteArray} {sl sl' : Int} {lo lo' : Bool} {o o' : Int} {l l' : List Ex} (h : exC (.mk k n s sl lo o l) = exC (.mk k' n' s' sl' lo' o' l')) : k = k' ∧ n = n' ∧ s = s' ∧ o = o' ∧ exCs l = exCs l' := by
 simp only [exC, Ex.mk.injEq, true_and] at h
 exact ⟨h.1, h.2.1, h.2.2.1, h.2.2.2.1, h.2.2.2.2⟩
theorem exCs_at : ∀ {l l' : List Ex}, exCs l = exCs l' → l.length = l'.length ∧ ∀ j, exC (l.getD j zEx) = exC (l'.getD j zEx)
 | [], [], _ => ⟨rfl, fun _ => rfl⟩
 | [], _ :: _, h => by simp [exCs] at h
 | _ :: _, [], h => by simp [exCs] at h
 | x :: r, y :: q, h => by
  simp only [exCs, List.cons.injEq] at h
  obtain ⟨h1, h2⟩ := exCs_at h.2
  refine ⟨by simp [h1], fun j => ?_⟩
  cases j with
  | zero => exact h.1
  | succ j => simpa using h2 j
theorem sizeE {l : List Ex} {j : Nat} (hj : j < l.length) : SizeOf.sizeOf (l.getD j zEx) < SizeOf.sizeOf l := by
 rw [List.getD_eq_getElem?_getD, List.getElem?_eq_getElem hj, Option.getD_some]
 exact List.sizeOf_lt_of_mem (List.getElem_mem hj)
def SamE (f : Nat) : Prop := ∀ (x y : Ex) (a oa b ob : Nat) (w : World) (bs be m : Nat), SizeOf.sizeOf x < f → exC x = exC y → ExU w a oa x → ExU w b ob y → SeE w bs be m →
 Calls Tryz.prog 140 #[.pointer (some ⟨a, oa, none⟩), .pointer (some ⟨b, ob, none⟩), .pointer (some ⟨bs, 0, none⟩), .pointer (some ⟨be, 0, none⟩)] w fun e w' => e = .returned (.bool true) ∧ Kp w w' m m ∧ Pm w' m
set_option maxRecDepth 100000 in
set_option maxHeartbeats 4000000 in
theorem sameE_step {f : Nat} (ih : SamE f) : SamE (f + 1) := by
 intro x y a oa b ob w bs be m hf hxy hx hy hE
 obtain ⟨k, n, s, sl, lo, o, args⟩ := x
 obtain ⟨k', n', s', sl', lo', o', args'⟩ := y
 obtain ⟨rfl, rfl, rfl, rfl, hcs⟩ := exC_inj hxy
 obtain ⟨hlen, hat⟩ := exCs_at hcs
 obtain ⟨g0, g1, KK⟩ := two199
 have hpa := hx.all.1
 have hpb := hy.all.1
 have d1 := hE.s.cell 0
 have hsz : SizeOf.sizeOf args < f := by simp at hf; omega
 have HX := Lib.hid (And.intro hx hy)
 have HE := Lib.hid hE
 have HA := Lib.hid (And.intro hlen hat)
 have HSZ := Lib.hid hsz
 simp only [List.getElem?_cons_zero] at d1
 have hpm := hE.m
 clear hxy hcs hlen hat hx hy hE hf hsz
 have hbe : ∀ n, ∀ b, b < w.heap.size → ((w.drewN n).alloc (.cells #[] 159)).heap[b]? = w.heap[b]? := fun n b hb => by
  have : b ≠ w.heap.size := by omega
  simp [World.alloc, World.drewN, Array.getElem?_push, this]
 go_enter Tryz.func140, Tryz.ntmps140
 refine wp_seq_k fun K hK => ?_
 have HK := Lib.hid hK
 clear hK
 go_wp2_with fail
 refine HK.out _ _ ?_
 clear HK K
 refine wp_seq_k fun K hK => ?_
 have HK := Lib.hid hK
 clear hK
 go_wp2_with ((with_reducible show wpList _ _ _ (Oper.mk _ (.lookup 197 _ _ true) _ _ _ _ :: _) _ _); refine wpList_lookup_two rfl _ _ 197 rfl KK map197 zero159 m ⟨a, oa, none⟩ ⟨b, ob, none⟩ rfl rfl hpa hpb hpm ?_; intro r n1)
 ·have hkp : Kp w ((w.drewN n1).alloc (.cells #[] 159)) m m := ((Kp.refl w m m).drewN n1).alloc _
  have hpm1 : Pm ((w.drewN n1).alloc (.cells #[] 159)) m := hpm.of (hbe n1)
  go_ret
  exact ⟨rfl, hkp, hpm1⟩
 ·have hkp : Kp w ((w.drewN n1).alloc (.cells #[] 159)) m m := ((Kp.refl w m m).drewN n1).alloc _
  have hpm1 : Pm ((w.drewN n1).alloc (.cells #[] 159)) m := hpm.of (hbe n1)
  have hpa1 := hpa.of (hbe n1 _ hpa.lt)
  have hpb1 := hpb.of (hbe n1 _ hpb.lt)
  have HE1 := Lib.hid (HE.out.kp hkp hpm1)
  have HX1 := Lib.hid (And.intro (HX.out.1.kp hkp hpm) (HX.out.2.kp hkp hpm))
  have HKP := Lib.hid hkp
  clear hkp hpm hpa hpb hbe HX HE d1
  refine HK.out _ _ ?_
  clear HK K
  generalize (w.drewN n1).alloc (.cells #[] 159) = V at *
  have d1 : V.cell? ⟨bs, 0, none⟩ = some (.map (some m)) := by simpa using HE1.out.s.cell 0
  refine wp_seq_k fun K hK => ?_
  have HK := Lib.hid hK
  clear hK
  go_wp2_with ((with_reducible show wpList _ _ _ (Oper.mk _ (.mapUpdate 197 _ _ _) _ _ _ _ :: _) _ _); refine wpList_update_two rfl _ _ _ 197 rfl KK map197 m ⟨a, oa, none⟩ ⟨b, ob, none⟩ rfl rfl rfl hpa1 hpb1 hpm1 ?_; intro V2 hk2 hp2 hs2)
  refine HK.out _ _ ?_
  clear HK K
  have hk3 := HKP.out.trans hk2
  have hE3 := HE1.out.kp hk2 hp2
  obtain ⟨-, x0, x1, x2, x5, ax, capx, x6, hrx, hax⟩ := (HX1.out.1.kp hk2 hpm1).all
  obtain ⟨-, y0, y1, y2, y5, ay, capy, y6, hry, hay⟩ := (HX1.out.2.kp hk2 hpm1).all
  have hu6 : V2.cellU ⟨a, oa + 6, none⟩ = some (.slice ax args.length capx) := ((HX1.out.1.kp hk2 hpm1).six x6)
  have hv6 : V2.cellU ⟨b, ob + 6, none⟩ = some (.slice ay args'.length capy) := ((HX1.out.2.kp hk2 hpm1).six y6)
  obtain ⟨N, hN⟩ : ∃ N, args.length = N := ⟨_, rfl⟩
  have hN2 : args'.length = N := by rw [← HA.out.1, hN]
  rw [hN] at x6 hrx hax hu6
  rw [hN2] at y6 hry hay hv6
  have HU6 := Lib.hid (And.intro hu6 hv6)
  have HXS := Lib.hid (And.intro hax (And.intro hay (And.intro hE3 hk3)))
  have hrx1 := hrx.1
  have hrx2 := hrx.2
  have hry1 := hry.1
  have hry2 := hry.2
  have HN := Lib.hid hN
  clear hk2 hp2 hs2 hpa1 hpb1 hpm1 HE1 HX1 HKP d1 hk3 hE3 hax hay hrx hry hN hN2 KK hu6 hv6
  refine wp_seq_k fun K hK => ?_
  have HK := Lib.hid hK
  clear hK
  go_wp2_with fail
  go_quiet (fail)
  rename_i nq
  go_wp2_with fail
  refine HK.out _ _ ?_
  clear HK K x0 x1 x2 x5 y0 y1 y2 y5
  have hkq : Kp V2 (V2.drewN nq) m m := (Kp.refl V2 m m).drewN nq
  have HXT : Hid (∀ wr, Kp (V2.drewN nq) wr m m → Pm wr m → SeE wr bs be m ∧ Kp w wr m m ∧ wr.cell? ⟨a, oa + 6, none⟩ = some (.slice ax N capx) ∧ wr.cell? ⟨b, ob + 6, none⟩ = some (.slice ay N capy) ∧
    (∀ j, j < N → ∃ b2 off2, ax = some ⟨b2, off2, none⟩ ∧ ExU wr b2 (off2 + j * 7) (args.getD j zEx)) ∧ (∀ j, j < N → ∃ b2 off2, ay = some ⟨b2, off2, none⟩ ∧ ExU wr b2 (off2 + j * 7) (args'.getD j zEx))) := by
   obtain ⟨h1, h2, h3, h4⟩ := HXS.out
   have hx6 := HU6.out.1
   have hy6 := HU6.out.2
   refine Lib.hid fun wr hk hp => ?_
   have hk2 := hkq.trans hk
   refine ⟨h3.kp hk2 hp, h4.trans hk2, ?_, ?_, fun j hj => ?_, fun j hj => ?_⟩
   ·obtain ⟨es, ck, hm, -⟩ := h3.m
    exact World.cellU_cell (cellU_kp hk2 hm _ _ _ hx6)
   ·obtain ⟨es, ck, hm, -⟩ := h3.m
    exact World.cellU_cell (cellU_kp hk2 hm _ _ _ hy6)
   ·obtain ⟨b2, off2, e, h⟩ := h1 j hj
    exact ⟨b2, off2, e, h.kp hk2 h3.m⟩
   ·obtain ⟨b2, off2, e, h⟩ := h2 j hj
    exact ⟨b2, off2, e, h.kp hk2 h3.m⟩
  have HP := Lib.hid (show Pm (V2.drewN nq) m from HXS.out.2.2.1.m)
  clear HXS HU6 hkq
  clear x6 y6
  generalize V2.drewN nq = V3 at *
  obtain ⟨-, -, x6, -, -, -⟩ := HXT.out V3 (Kp.refl V3 m m) HP.out
  go_wp2_with fail
  go_loopg [84] N (fun x iv wr => ∃ i : Nat, i ≤ N ∧ x = N - i ∧ iv = .int .i64 (i : Int) ∧ Hid (Kp V3 wr m m ∧ Pm wr m))
  case atStart => exact ⟨0, Nat.zero_le _, rfl, rfl, Lib.hid ⟨Kp.refl V3 m m, HP.out⟩⟩
  case round =>
   clear HP x6
   obtain ⟨i, hi, rfl, rfl, HW⟩ := hrel
   obtain ⟨hE4, hk4, x6, y6, hax, hay⟩ := HXT.out wr HW.out.1 HW.out.2
   by_cases hiN : i < N
   ·have hlt : (i : Int) < (N : Int) := by omega
    have hp0 : (0 : Int) ≤ (i : Int) := by omega
    have hroom : (i : Int) + 1 ≤ 9223372036854775807 := by omega
    obtain ⟨b2, off2, rfl, hu⟩ := hax i hiN
    obtain ⟨b3, off3, rfl, hv⟩ := hay i hiN
    have hil : i < args.length := by rw [HN.out]; exact hiN
    have hcl := ih (args.getD i zEx) (args'.getD i zEx) b2 (off2 + i * 7) b3 (off3 + i * 7) wr.drew bs be m (by have := sizeE hil; have := HSZ.out; omega) (HA.out.2 i) (hu.kp ((Kp.refl wr m m).drewN 1) hE4.m) (hv.kp ((Kp.refl wr m m).drewN 1) hE4.m) (hE4.kp ((Kp.refl wr m m).drewN 1) hE4.m)
    have d1 : wr.cell? ⟨be, 0, none⟩ = some (.func (.func 140) #[] #[.pointer (some ⟨bs, 0, none⟩), .pointer (some ⟨be, 0, none⟩)]) := by simpa using hE4.f.cell 0
    clear hax hay hu hv hE4 hk4 hil hrx1 hrx2 hry1 hry2
    go_wp2_with fail
    refine wp_region_quiet_tail 13 (by kernel_rfl) (by kernel_rfl) ?_
    simp only [List.take_succ_cons, List.take_zero, List.drop_succ_cons, List.drop_zero]
    repeat (go_big_quiet_step (fail))
    refine wpQuiet_nil ?_
    go_wp2_with fail
    refine hcl.mono ?_
    rintro e w5 ⟨rfl, hk5, hp5⟩
    have HW5 : Hid (Kp V3 w5 m m ∧ Pm w5 m) := Lib.hid ⟨HW.out.1.trans (((Kp.refl wr m m).drewN 1).trans hk5), hp5⟩
    clear hcl hk5 hp5 d1 x6 y6 HW
    go_wp2_with fail
    go_roundg (N - (i + 1))
    case measure => omega
    case rel => exact ⟨i + 1, by omega, rfl, rfl, HW5⟩
   ·obtain rfl : i = N := by omega
    have hlt : ¬ (i : Int) < (i : Int) := by omega
    have hfin := And.intro hk4 HW.out.2
    clear hax hay hE4 hk4
    go_wp2_with fail
    go_ret
    exact ⟨rfl, hfin⟩
theorem sameE_all : ∀ f, SamE f
 | 0 => fun _ _ _ _ _ _ _ _ _ _ hf => absurd hf (Nat.not_lt_zero _)
 | f + 1 => sameE_step (sameE_all f)
theorem sameE_any {x y : Ex} {a oa b ob : Nat} {w : World} {bs be m : Nat} (hxy : exC x = exC y) (hx : ExU w a oa x) (hy : ExU w b ob y) (hE : SeE w bs be m) :
  Calls Tryz.prog 140 #[.pointer (some ⟨a, oa, none⟩), .pointer (some ⟨b, ob, none⟩), .pointer (some ⟨bs, 0, none⟩), .pointer (some ⟨be, 0, none⟩)] w fun e w' => e = .returned (.bool true) ∧ Kp w w' m m ∧ Pm w' m :=
 sameE_all (SizeOf.sizeOf x + 1) x y a oa b ob w bs be m (Nat.lt_succ_self _) hxy hx hy hE
end Go.Proofs.YtjmlmelcppbefaaGreatDoor
