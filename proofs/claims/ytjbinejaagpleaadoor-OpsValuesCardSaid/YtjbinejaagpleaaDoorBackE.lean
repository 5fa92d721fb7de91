/- The law OpsBack: true. Asked: the arguments lie; the tables. -/
import Derived.Test.YtjbinejaagpleaaDoorBackD
namespace Go.Proofs.YtjbinejaagpleaaDoor
open Go.RowKit

set_option maxRecDepth 100000 in
set_option maxHeartbeats 16000000 in
theorem opsBack_any {w : World} {m : ModM} {ab : Option Addr} {n bcap : Nat} {l : List Nat} {at_ : Int} {oth : Nat} (hoth : oth < 256) (hA : Ask w m) (hn : l.length = n) (hI : Bys w ab l) (hlt : Smb l) :
    Calls Tryd.prog 4 #[.agg m.cells, .slice ab n bcap, .int .i64 at_, .int .u8 (oth : Int)] w fun e w' => e = .returned (.bool true) ∧ Below w.heap.size w w' := by
  obtain ⟨va, vcap, vars, aa, acap, arrays, ca, ccap, chans, mu, co, ta, tcap, threads⟩ := m
  have e8 : ModM.cells ⟨va, vcap, vars, aa, acap, arrays, ca, ccap, chans, mu, co, ta, tcap, threads⟩ = #[.slice va vars.length vcap, .slice aa arrays.length acap, .slice ca chans.length ccap, .int .i64 mu, .int .i64 co, .slice ta threads.length tcap] := rfl
  rw [e8]
  have hB0 : Below w.heap.size w (w.alloc (.cells #[.slice va vars.length vcap, .slice aa arrays.length acap, .slice ca chans.length ccap, .int .i64 mu, .int .i64 co, .slice ta threads.length tcap] 27)) := (Below.refl _ w).alloc (Nat.le_refl _) _
  have hx0 : (w.alloc (.cells #[.slice va vars.length vcap, .slice aa arrays.length acap, .slice ca chans.length ccap, .int .i64 mu, .int .i64 co, .slice ta threads.length tcap] 27)).heap[w.heap.size]? = some (.cells #[.slice va vars.length vcap, .slice aa arrays.length acap, .slice ca chans.length ccap, .int .i64 mu, .int .i64 co, .slice ta threads.length tcap] 27 (0, 0)) := World.alloc_heap_new _ _
  have cf := few_any (ok_below hA.ok hB0)
  rw [e8] at cf
  have x0 := cell_blk (k := 0) hx0 rfl
  have x1 := cell_blk (k := 1) hx0 rfl
  have x2 := cell_blk (k := 2) hx0 rfl
  have x3 := cell_blk (k := 3) hx0 rfl
  have x4 := cell_blk (k := 4) hx0 rfl
  have x5 := cell_blk (k := 5) hx0 rfl
  have H0 := Lib.hid (And.intro hB0 (And.intro hx0 (And.intro hn (And.intro hI hlt))))
  clear hB0 hx0 e8 hn hI hlt
  go_enter Tryd.func4, Tryd.ntmps4
  refine wp_seq_k fun K hK => ?_
  have HK := Lib.hid hK
  clear hK
  go_wp2_with fail
  refine HK.out _ _ ?_
  clear HK K
  refine wp_seq_k fun K hK => ?_
  have HK := Lib.hid hK
  clear hK
  go_wp2_with fail
  refine cf.mono ?_
  rintro e w1 ⟨⟨b, rfl⟩, hb1⟩
  clear cf x0 x1 x2 x3 x4 x5
  have hB1 := H0.out.1.trans (hb1.mono H0.out.1.size)
  have hX1 := (hb1.block _ (Array.getElem?_eq_some_iff.1 H0.out.2.1).1).trans H0.out.2.1
  have hw := works_any w1 (hA.tc.below hB1 hA.tc.1) (hA.tb.below hB1 hA.sz) (Nat.lt_of_lt_of_le hA.sz hB1.size)
  have hI1 := H0.out.2.2.2.1.below hB1 (Nat.le_refl _)
  have H1 := Lib.hid (And.intro hB1 (And.intro hX1 hI1))
  clear hb1 hX1 hI1
  cases b with
  | false =>
    go_wp2_with fail
    refine hw.mono ?_
    rintro e w4 ⟨rfl, hb4⟩
    go_wp2
    go_ret
    exact ⟨rfl, hB1.trans (hb4.mono hB1.size)⟩
  | true =>
    by_cases h5 : n ≤ 5000
    · clear hw hB1
      go_wp2_with fail
      refine HK.out _ _ ?_
      exact back2 hoth hA H1.out.1 H1.out.2.1 H0.out.2.2.1 h5 H1.out.2.2 H0.out.2.2.2.2
    · have h6 : (5000 : Int) < (n : Int) := by omega
      go_wp2_with fail
      refine hw.mono ?_
      rintro e w4 ⟨rfl, hb4⟩
      go_wp2
      go_ret
      exact ⟨rfl, hB1.trans (hb4.mono hB1.size)⟩
end Go.Proofs.YtjbinejaagpleaaDoor
