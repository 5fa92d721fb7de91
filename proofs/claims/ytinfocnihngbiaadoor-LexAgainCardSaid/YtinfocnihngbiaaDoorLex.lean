/- The program's Lex. Asked: strconv's ErrRange is laid. -/
import Derived.Test.YtinfocnihngbiaaDoorLexP
import Derived.WalkMore
namespace Go.Proofs.YtinfocnihngbiaaDoor
open Go.RowKit Go.Shelf
attribute [local go_sem] Oper.semAt_some

theorem under23 : Tryd.prog.underlying 23 = some (.slice 39) := by kernel_rfl
theorem info39 : (Tryd.prog.info? 39).map (fun i => (i.zero, i.size, i.bytes)) = some (some (.agg #[.int .i64 0, .string ⟨#[]⟩, .int .i64 0, .int .i64 0, .int .i64 0]), 5, 48) := by kernel_rfl

theorem bxo {W : World} {B r k : Nat} {t : TypeId} {v u : Value} (h : Boxed W B t v) (hne : B ≠ r) : Boxed (W.setCell ⟨r, k, none⟩ u) B t v := (Below.heap_setCell W ⟨r, k, none⟩ u B hne).trans h
set_option maxRecDepth 100000 in
set_option maxHeartbeats 4000000 in
theorem lex_in (n : Nat) (hn : 4 ≤ n) (s : ByteArray) (w : World) (hs : s.size ≤ 65536) (hE : ErrR w) :
    CallsIn Fence.wide n Tryd.prog 11 #[.string s] w (LPost w (lexA s 0 [])) := by
  have h1 : 1 ≤ n := by omega
  have hsi : ¬ (65536 : Int) < (s.size : Int) := by omega
  obtain ⟨R, hR⟩ : ∃ R, lexA s 0 [] = R := ⟨_, rfl⟩
  have HR := Lib.hid hR
  rw [hR]
  clear hR
  refine callsIn_of_wp_marks Tryd.func11 rfl trivial ?_ rfl
  simp only [Tryd.ntmps11, List.size_toArray, List.length_cons, List.length_nil, Nat.reduceAdd, Nat.reduceSub, Array.replicate_succ, Array.replicate_zero, List.push_toArray, List.append_toArray, List.nil_append, List.cons_append]
  refine wpIn_wide.2 ?_
  go_wp2_with fail
  apply wp_scope_straight
  go_wp2_with fail
  obtain ⟨W0, hW0⟩ : ∃ W0, (((w.alloc (.cells #[.int .i64 0, .int .i64 0] 25)).alloc (.cells #[.slice none 0 0] 23)).alloc (.cells #[.int .i64 0] 26)).alloc (.cells #[.int .i64 0, .int .i64 0] 25) = W0 := ⟨_, rfl⟩
  have hsz : W0.heap.size = w.heap.size + 4 := by rw [← hW0]; simp
  have hb0 : Ps W0 w.heap.size (0, 0) := by
    have h : Ps (w.alloc (.cells #[.int .i64 0, .int .i64 0] 25)) w.heap.size (0, 0) := World.alloc_heap_new _ _
    rw [← hW0]
    exact ((h.alloc _).alloc _).alloc _
  have hb1 : Boxed W0 (w.heap.size + 1) 23 (.slice none 0 0) := by
    have := ((Boxed.new (w.alloc (.cells #[.int .i64 0, .int .i64 0] 25)) 23 (.slice none 0 0)).alloc (.cells #[.int .i64 0] 26)).alloc (.cells #[.int .i64 0, .int .i64 0] 25)
    rw [hW0] at this; simpa only [World.size_alloc] using this
  have hb2 : Boxed W0 (w.heap.size + 1 + 1) 26 (.int .i64 0) := by
    have := (Boxed.new ((w.alloc (.cells #[.int .i64 0, .int .i64 0] 25)).alloc (.cells #[.slice none 0 0] 23)) 26 (.int .i64 0)).alloc (.cells #[.int .i64 0, .int .i64 0] 25)
    rw [hW0] at this; simpa only [World.size_alloc] using this
  have hb3 : Ps W0 (w.heap.size + 1 + 1 + 1) (0, 0) := by
    have h : Ps ((((w.alloc (.cells #[.int .i64 0, .int .i64 0] 25)).alloc (.cells #[.slice none 0 0] 23)).alloc (.cells #[.int .i64 0] 26)).alloc (.cells #[.int .i64 0, .int .i64 0] 25)) _ (0, 0) := World.alloc_heap_new _ _
    rw [hW0] at h; simpa only [World.size_alloc] using h
  have hB0 : Below w.heap.size w W0 := by
    rw [← hW0]
    exact ((((Below.refl _ w).alloc (Nat.le_refl _) _).alloc (by simp) _).alloc (by simp; omega) _).alloc (by simp; omega) _
  rw [hW0]
  clear hW0
  have hlt1 := hE.1
  have hE0 := hE.below hB0 hlt1
  apply wp_label
  go_wp2_with fail
  refine (read_any s W0).mono ?_
  rintro e W1 ⟨b, gk, gs, rfl, hRd, hok, hos, hBl, hbge, hn1, hn2⟩
  have hE1 := hE0.below hBl hE0.1
  go_wp2_with fail
  refine (words_any b W1).mono ?_
  rintro e W2 ⟨rfl, rfl⟩
  have hBX : Below W1.heap.size W1 (W1.alloc (.cells #[.pointer (some ⟨b, 0, none⟩)] 45)) := (Below.refl _ _).alloc (Nat.le_refl _) _
  have hRd2 := hRd.alloc (.cells #[.pointer (some ⟨b, 0, none⟩)] 45)
  have hbx : (W1.alloc (.cells #[.pointer (some ⟨b, 0, none⟩)] 45)).heap[W1.heap.size]? = some (.cells #[.pointer (some ⟨b, 0, none⟩)] 45 (0, 0)) := World.alloc_heap_new _ _
  have hlb := hRd.lt
  have hrdy : Rdy (W1.alloc (.cells #[.pointer (some ⟨b, 0, none⟩)] 45)) b gk gs W1.heap.size s 0 :=
    ⟨hRd2, owns_below hok hBX hok.lt, owns_below hos hBX hos.lt, hE1.below hBX hE1.1, hbx, Ne.symm hn1, Ne.symm hn2, by omega, by omega⟩
  have hsz1 := hBl.size
  have hlk := hok.lt
  have hls := hos.lt
  have hBL : Below W0.heap.size W0 (W1.alloc (.cells #[.pointer (some ⟨b, 0, none⟩)] 45)) := hBl.trans (hBX.mono hsz1)
  have hsz2 : (W1.alloc (.cells #[.pointer (some ⟨b, 0, none⟩)] 45)).heap.size = W1.heap.size + 1 := by simp
  have hInv : Inv w (W1.alloc (.cells #[.pointer (some ⟨b, 0, none⟩)] 45)).heap.size s R 0 (W1.alloc (.cells #[.pointer (some ⟨b, 0, none⟩)] 45)) :=
    ⟨⟨[], _, HR.out, Nat.le_refl _, Nat.zero_le _, (hBL.block _ hb1.lt).trans hb1, World.ownsRow_nil _ _ _ _⟩, (hBL.block _ hb2.lt).trans hb2, hb3.below hBL hb3.lt, hb0.below hBL hb0.lt, hB0.trans (hBL.mono (by omega)), Nat.le_refl _⟩
  clear hRd hok hos hBl hE0 hE1 hBX hRd2 hbx hb0 hb1 hb2 hb3 hB0 hBL HR
  generalize hWL : W1.alloc (.cells #[.pointer (some ⟨b, 0, none⟩)] 45) = WL at *
  clear hWL
  have hsz3 : W1.heap.size < WL.heap.size := by omega
  clear hsz2
  go_wp2_with fail
  rename_i hx K hK
  have hT : ∀ (D : Nat) (W : World) (v : Value), WL.heap.size ≤ D → W.heap[D]? = some (.deferred (some [])) → Boxed W (w.heap.size + 1) 23 v → Boxed W (w.heap.size + 1 + 1) 26 (.int .i64 R.2.2) → Ps W (w.heap.size + 1 + 1 + 1) R.2.1 → Ps W w.heap.size (0, 0) →
      W.ownsRow WL.heap.size 39 5 v R.1.length (R.1.flatMap Wd.cells) → Below w.heap.size w W →
      K { tmps := #[.string s, undef, .slice none 0 0, .pointer (some ⟨w.heap.size, 0, none⟩), .int .i64 0, .pointer (some ⟨w.heap.size + 1, 0, none⟩), .pointer (some ⟨w.heap.size + 1 + 1, 0, none⟩), .pointer (some ⟨w.heap.size + 1 + 1 + 1, 0, none⟩), undef, undef, .string s, .int .i64 s.size, .bool (decide ((65536 : Int) < s.size)), undef, .string s, .pointer (some ⟨b, 0, none⟩), .func (.func 35) #[] #[.pointer (some ⟨W1.heap.size, 0, none⟩)], undef, undef, undef, undef, undef, undef, undef, undef, undef, undef, undef, undef, undef, undef], defers := [{ target := .collected D, args := #[] }] } W := by
    intro D W v hD hKD q1 q2 q3 q0 hown hbl
    refine hK _ _ ?_
    clear hK K
    have c1 := q1.cell
    have c2 := q2.cell
    have c30 := q3.c0
    have c31 := q3.c1
    have c00 := q0.c0
    have c01 := q0.c1
    have f0 := q0.frozen 0
    have f1 := q0.frozen 1
    go_wp2_with fail
    go_region
    go_wp2_with fail
    rw [Exit.noGoto_ret]
    have hne : D ≠ w.heap.size := by omega
    have Q0 : Ps (((W.setCell ⟨w.heap.size, 0, none⟩ (.int .i64 R.2.1.1)).setCell ⟨w.heap.size, 1, none⟩ (.int .i64 R.2.1.2)).drew) w.heap.size (R.2.1.1, R.2.1.2) := (q0.set0 R.2.1.1).set1 R.2.1.2
    have hK2 : (((W.setCell ⟨w.heap.size, 0, none⟩ (.int .i64 R.2.1.1)).setCell ⟨w.heap.size, 1, none⟩ (.int .i64 R.2.1.2)).drew).heap[D]? = some (.deferred (some [])) :=
      (Below.heap_setCell _ ⟨w.heap.size, 1, none⟩ _ D hne).trans ((Below.heap_setCell _ ⟨w.heap.size, 0, none⟩ _ D hne).trans hKD)
    have hB2 : Below w.heap.size w (((W.setCell ⟨w.heap.size, 0, none⟩ (.int .i64 R.2.1.1)).setCell ⟨w.heap.size, 1, none⟩ (.int .i64 R.2.1.2)).drew) :=
      ((hbl.setCell (p := ⟨w.heap.size, 0, none⟩) (Nat.le_refl _) _).setCell (p := ⟨w.heap.size, 1, none⟩) (Nat.le_refl _) _).drew
    have hG : W.grownBy (((W.setCell ⟨w.heap.size, 0, none⟩ (.int .i64 R.2.1.1)).setCell ⟨w.heap.size, 1, none⟩ (.int .i64 R.2.1.2)).drew) (some w.heap.size) :=
      ⟨rfl, rfl, rfl, by simp [World.setCell, World.drew], fun k hk hne => (Below.heap_setCell _ ⟨w.heap.size, 1, none⟩ _ k (fun e => hne (by rw [e]))).trans (Below.heap_setCell _ ⟨w.heap.size, 0, none⟩ _ k (fun e => hne (by rw [e])))⟩
    have hO2 := hown.kept hG (by
      rcases hown.2 with ⟨rfl, _⟩ | ⟨g, cap, cur, rfl, hb, hgb, _⟩
      · exact .inl rfl
      · refine .inr fun e' => ?_
        have : g = w.heap.size := by simpa [Value.ownBlock] using e'
        omega)
    generalize ((W.setCell ⟨w.heap.size, 0, none⟩ (.int .i64 R.2.1.1)).setCell ⟨w.heap.size, 1, none⟩ (.int .i64 R.2.1.2)).drew = Wf at *
    refine ⟨by simp, .inl ⟨_, _, rfl, run_takeDeferred hK2, ?_⟩⟩
    have Q1 : Ps (Wf.putObj D (.deferred none)) w.heap.size (R.2.1.1, R.2.1.2) := (World.putObj_heap_other (Ne.symm hne)).trans Q0
    have e0 := Q1.c0
    have e1 := Q1.c1
    refine ⟨_, by simp [results, Tryd.f11, go_sem, e0, e1], ⟨v, rfl, ?_, ?_⟩⟩
    · exact ownsRow_base (ownsRow_putObj hO2 _ hK2 rfl) (by omega)
    · exact hB2.trans (belowK_b (w := w) (Nat.le_refl _) Wf D _ _ (by omega) hK2 rfl rfl)
  clear hK
  have hszL : w.heap.size + 4 ≤ WL.heap.size := by omega
  have hLL : ∀ j ∈ [b, gk, gs, W1.heap.size, 1], j < WL.heap.size := by
    intro j hj
    have h1 := hrdy.er.1
    simp only [List.mem_cons, List.not_mem_nil, or_false] at hj
    omega
  have kne : ∀ (g n : Nat) (D : DataW Unit), WL.ownsMap Tryd.prog 9 (plainElem Tryd.prog 3) g n D → g ≠ w.heap.size + 1 := fun g n D hg e => by
    obtain ⟨acc, v, _, _, _, hx, _⟩ := hInv.ex
    obtain ⟨es, clock, h2, _⟩ := hg
    rw [e, show WL.heap[w.heap.size + 1]? = _ from hx] at h2
    cases h2
  have hLB : ∀ j ∈ [b, gk, gs, W1.heap.size, 1], j ≠ w.heap.size + 1 := by
    intro j hj
    have k1 := kne _ _ _ hrdy.okw
    have k2 := kne _ _ _ hrdy.osg
    simp only [List.mem_cons, List.not_mem_nil, or_false] at hj
    omega
  clear kne
  obtain ⟨i0, hi0, hz0, hz1, hz2⟩ := info_parts info39
  refine (wpIn_wide (n := n)).1 ?_
  refine wpIn_rangeFunc_rd (F := Fence.wide) rfl h1 (gf := 35) (lb := #[.pointer (some ⟨W1.heap.size, 0, none⟩)]) rfl trivial (enters_of Tryd.func35 (by kernel_rfl) rfl)
    (words1_in (n - 1) (by omega) hrdy (Nat.zero_le _) (by omega)) (by omega) ?hL (fun _ => rfl)
    (Inv w WL.heap.size s R) (fun c W => c = .exit 0 ∧ Ivx w R W) ?hI ?hIx ?hIb ?hIxb hInv ?round ?done ?stop
  case hL => exact hLL
  case hI => exact fun s' A B row hs hg hr => hs.kept hg (fun r e => ⟨by have := (hr r e).1; omega, .inr (hr r e).2⟩)
  case hIx => exact fun c s' A B row hs hg hr => ⟨hs.1, hs.2.kept hg (fun r e => by have := (hr r e).1; omega)⟩
  case hIb => exact fun k A B hs hk => hs.kept hk.to_grown (fun r e => by cases e; exact ⟨by omega, .inl (by omega)⟩)
  case hIxb => exact fun c A B hs hk => ⟨hs.1, hs.2.kept hk.to_grown (fun r e => by cases e; omega)⟩
  case round =>
    clear hT hInv
    intro l k W hi hbd
    rw [show encT s k = #[.agg #[.int .i64 (tokW s (gapAt s k)).kind, .string (tokW s (gapAt s k)).text, .int .i64 (tokW s (gapAt s k)).num, .int .i64 (tokW s (gapAt s k)).line, .int .i64 (tokW s (gapAt s k)).col], .int .i64 (wErr s (gapAt s k))] from rfl]
    generalize ht : tokW s (gapAt s k) = t
    generalize her : wErr s (gapAt s k) = er
    have HT := Lib.hid ht
    have HER := Lib.hid her
    clear ht her
    gi_wp2
    refine ⟨KeepsOthers.alloc _ _, fun j hj => Below.heap_alloc _ _ _ ?_, fun W2 => Inv w WL.heap.size s R k W2 ∧ Tk W2 W.heap.size t.kind t.text t.num (t.line, t.col), ?_, ⟨?_, ?_⟩, ?_⟩
    · exact Nat.lt_of_lt_of_le (hLL j hj) hi.sz
    · intro s' A B row hs hg hr
      refine ⟨hs.1.kept hg (fun r e => ⟨by have := (hr r e).1; omega, .inr (hr r e).2⟩), hs.2.of (hg.block _ hs.2.lt (fun e => ?_))⟩
      obtain ⟨_, o, ho, hc⟩ := hr _ e.symm
      rw [hs.2] at ho
      cases ho
      cases hc
    · exact hi.kept (World.grownBy_alloc _ _ none) (fun r e => by cases e)
    · exact World.alloc_heap_new _ _
    rintro W2 ⟨hi2, htk⟩
    obtain ⟨acc, v, g1, g2, g3, g4, g5⟩ := hi2.ex
    have hge := gap_ge s k
    have t0 := htk.c0
    have t1 := htk.c1
    have t2 := htk.c2
    have t3 := htk.c3
    have t4 := htk.c4
    have c1 := g4.cell
    have f1 := g4.frozen
    by_cases he : er = 0
    · subst he
      have hgt := wEnd_gt hbd HER.out
      have hle := wEnd_le hbd
      have hRR : lexA s (wEnd s (gapAt s k)) (acc ++ [t]) = R := by
        rw [← HT.out]
        exact (lexA_on hbd HER.out).trans g1
      have HRR := Lib.hid hRR
      have hpush := fun w1 v' o hown hgrow => hi2.push (w1 := w1) (v' := v') (o := o) hszL g4 g5 hown hgrow hRR (by omega) hle
      have HPU := Lib.hid hpush
      have HL := Lib.hid (And.intro g2 g3)
      clear hRR hpush g1 g2 g3
      gi_wp2_with (gi_at_builtin; refine wpListIn_append_own _ rfl (.tmp 24) (.tmp 26) 23 rfl WL.heap.size 39 i0 (.agg #[.int .i64 0, .string ⟨#[]⟩, .int .i64 0, .int .i64 0, .int .i64 0]) 5 48 under23 hi0 hz0 hz1 hz2 rfl (by decide) v acc.length (acc.flatMap Wd.cells) rfl (g5.alloc _) ⟨W2.heap.size, 0, none⟩ 1 1 t.cells rfl rfl ?c2 ?c3 ?c4 ?c5 ?c6 ?_)
      case c2 => exact fun j u h => h
      case c3 => simp [Wd.cells, Value.oneCell']
      case c4 => have := HL.out; unfold maxLen; omega
      case c5 => have := HL.out; omega
      case c6 =>
        have := hi2.sz
        simp
        omega
      intro v' w1 hown' hgrow _
      obtain ⟨g, cap, rfl⟩ := ownsRow_succ hown'
      obtain ⟨hv1, hI3, hK3, hS3⟩ := HPU.out _ _ _ hown' hgrow
      have d1 := hv1.cell
      have e1 := hv1.frozen
      gi_wp2
      refine ⟨hK3, hS3 _ (fun j hj => ⟨Nat.lt_of_lt_of_le (hLL j hj) hi2.sz, hLB j hj, hLL j hj⟩), HER.out, hI3⟩
    · have hne : (er == 0) = false := by rw [beq_eq_false_iff_ne]; exact he
      have hne2 : (er != 0) = true := by rw [bne_iff_ne]; exact he
      have hRR : R = ([], (t.line, t.col), er) := by
        have h2 := lexA_err (s := s) (k := k) (acc := acc) hbd (by rw [HER.out]; exact he)
        rw [g1] at h2
        rw [h2, ← HT.out, HER.out]
        rfl
      have HRR := Lib.hid hRR
      clear hRR g1 g2 g3 he
      gi_wp2_with fail
      have b2c := hi2.b2.cell
      have b2f := hi2.b2.frozen
      have b30 := hi2.b3.c0
      have b31 := hi2.b3.c1
      have b3f0 := hi2.b3.frozen 0
      have b3f1 := hi2.b3.frozen 1
      have hmx : Tryd.prog.follows .mixedOrders = true := by kernel_rfl
      have hszt := Nat.le_trans hszL hi.sz
      refine wpIn_region_round [5] (fun W1 => Tk W1 W.heap.size t.kind t.text t.num (t.line, t.col)) hmx (by kernel_rfl) (fun h => by obtain ⟨_, _, h⟩ := h; exact h) ?_
      refine wpX_take 0 (v := ?v0) rfl (by kernel_rfl) (by kernel_rfl) (by kernel_rfl) (by kernel_rfl) (fun _ _ _ h => h) htk (Or.inl ⟨by rfl, ?h0⟩) ?_
      case h0 => (intro W1 hS1; go_simp; with_reducible rfl)
      refine wpX_take 1 (v := ?v1) rfl (by kernel_rfl) (by kernel_rfl) (by kernel_rfl) (by kernel_rfl) (fun _ _ _ h => h) htk (Or.inl ⟨by rfl, ?h1⟩) ?_
      case h1 => (intro W1 hS1; have s3 := hS1.c3; have s4 := hS1.c4; go_simp; with_reducible rfl)
      refine wpX_take 2 (v := ?v2) rfl (by kernel_rfl) (by kernel_rfl) (by kernel_rfl) (by kernel_rfl) (fun _ _ _ h => h) htk (Or.inl ⟨by rfl, ?h2⟩) ?_
      case h2 => (intro W1 hS1; go_simp; with_reducible rfl)
      refine wpX_one 3 (by kernel_rfl) rfl (fun K hK => ?_)
      go_simp
      refine hK _ _ (fun _ => htk.other (by omega) _ _) ?_
      clear hK K
      refine wpX_one 4 (by kernel_rfl) rfl (fun K hK => ?_)
      go_simp
      refine hK _ _ (fun _ => ((htk.other (r := w.heap.size + 1) (by omega) 0 (.slice none 0 0)).other (r := w.heap.size + 1 + 1 + 1) (by omega) 0 (.int .i64 t.line)).other (r := w.heap.size + 1 + 1 + 1) (by omega) 1 (.int .i64 t.col)) ?_
      clear hK K
      refine wpX_one 5 (by kernel_rfl) rfl (fun K hK => ?_)
      go_simp
      refine hK _ _ (fun h => by cases h) ?_
      clear hK K
      refine wpX_done (by kernel_rfl) ?_ _
      gi_wp2
      have hR2 := HRR.out
      subst hR2
      have B1 := (bxo (k := 0) (u := .int .i64 er) (bxo (k := 1) (u := .int .i64 t.col) (bxo (k := 0) (u := .int .i64 t.line) (g4.set (.slice none 0 0)) (r := w.heap.size + 1 + 1 + 1) (by omega)) (r := w.heap.size + 1 + 1 + 1) (by omega)) (r := w.heap.size + 1 + 1) (by omega))
      have B2 := (bxo (k := 1) (u := .int .i64 t.col) (bxo (k := 0) (u := .int .i64 t.line) (bxo (k := 0) (u := .slice none 0 0) hi2.b2 (r := w.heap.size + 1) (by omega)) (r := w.heap.size + 1 + 1 + 1) (by omega)) (r := w.heap.size + 1 + 1 + 1) (by omega)).set (.int .i64 er)
      have B3 := (((hi2.b3.other (b' := w.heap.size + 1) (by omega) 0 (.slice none 0 0)).set0 t.line).set1 t.col).other (b' := w.heap.size + 1 + 1) (by omega) 0 (.int .i64 er)
      have B0 := (((hi2.b0.other (b' := w.heap.size + 1) (by omega) 0 (.slice none 0 0)).other (b' := w.heap.size + 1 + 1 + 1) (by omega) 0 (.int .i64 t.line)).other (b' := w.heap.size + 1 + 1 + 1) (by omega) 1 (.int .i64 t.col)).other (b' := w.heap.size + 1 + 1) (by omega) 0 (.int .i64 er)
      have BL := (((hi2.bl.setCell (p := ⟨w.heap.size + 1, 0, none⟩) (by simp) (.slice none 0 0)).setCell (p := ⟨w.heap.size + 1 + 1 + 1, 0, none⟩) (by simp; omega) (.int .i64 t.line)).setCell (p := ⟨w.heap.size + 1 + 1 + 1, 1, none⟩) (by simp; omega) (.int .i64 t.col)).setCell (p := ⟨w.heap.size + 1 + 1, 0, none⟩) (by simp; omega) (.int .i64 er)
      refine ⟨((((KeepsOthers.setCell _ _ _).trans (KeepsOthers.setCell _ _ _)).trans (KeepsOthers.setCell _ _ _)).trans (KeepsOthers.setCell _ _ _)).trans (KeepsOthers.drew _), rfl, ⟨B1, B2, B3, B0, BL.drew, rfl⟩⟩
  case done =>
    intro D k W hD hfin hi hKD
    obtain ⟨acc, v, h1, h2, h3, h4, h5⟩ := hi.ex
    have hR1 := (lexA_end hfin).symm.trans h1
    subst hR1
    exact hT D W v hD hKD h4 hi.b2 hi.b3 hi.b0 h5 hi.bl
  case stop =>
    rintro D c W hD ⟨rfl, hi⟩ hKD
    refine wpIn_exit ?_
    refine hT D W _ hD hKD hi.b1 hi.b2 hi.b3 hi.b0 ?_ hi.bl
    rw [hi.nl]
    exact World.ownsRow_nil _ _ _ _

set_option maxRecDepth 100000 in
set_option maxHeartbeats 1000000 in
theorem lex_long (s : ByteArray) (w : World) (hs : 65536 < s.size) : Calls Tryd.prog 11 #[.string s] w (LPost w ([], (0, 0), 3)) := by
  have hsi : (65536 : Int) < (s.size : Int) := by omega
  have hA : Ps (w.alloc (.cells #[.int .i64 0, .int .i64 0] 25)) w.heap.size (0, 0) := World.alloc_heap_new _ _
  have hB : Below w.heap.size w (w.alloc (.cells #[.int .i64 0, .int .i64 0] 25)) := (Below.refl _ w).alloc (Nat.le_refl _) _
  go_enter Tryd.func11, Tryd.ntmps11
  go_wp2_with fail
  apply wp_scope_straight
  go_wp2_with fail
  have e0 := hA.c0
  have e1 := hA.c1
  refine bodyPost_ret (v := .tuple #[.slice none 0 0, .agg #[.int .i64 0, .int .i64 0], .int .i64 3]) (by simp [results, Tryd.f11, go_sem, e0, e1]) rfl ⟨_, rfl, World.ownsRow_nil _ _ _ _, ?_⟩
  exact hB
/-- Lex. -/
theorem lex_any (s : ByteArray) (w : World) (hE : ErrR w) : Calls Tryd.prog 11 #[.string s] w (LPost w (lexR s)) := by
  unfold lexR
  by_cases h : 65536 < s.size
  · rw [if_pos h]
    exact lex_long s w h
  · rw [if_neg h]
    exact (callsIn_wide (n := 9)).1 (lex_in 9 (by decide) s w (by omega) hE)
end Go.Proofs.YtinfocnihngbiaaDoor
