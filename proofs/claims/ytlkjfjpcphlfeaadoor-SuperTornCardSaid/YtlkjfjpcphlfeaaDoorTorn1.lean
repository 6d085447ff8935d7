import Derived.Test.YtlkjfjpcphlfeaaDoorQ10
import Derived.LoopN
import Derived.Outline
import Derived.Deep.Light
import Derived.WalkLawsBesides
import Derived.Deep.RegionWith
import Derived.StillTailTactics
namespace Go.Proofs.YtlkjfjpcphlfeaaDoor.Q
open Go.RowKit Go.Proofs.YtlkjfjpcphlfeaaDoorW.PrintWords Go.Proofs.YtlkjfjpcphlfeaaDoorW.PrintLast Go.Proofs.YtlkjfjpcphlfeaaDoorW.PrintMore
set_option linter.unusedVariables false
set_option linter.unusedSimpArgs false
theorem num_still (a : Int) (w : World) : Calls Tryd.prog 10 #[.int .i64 a] w fun e w' => e = .returned (.int .i64 a) ∧ w' = w := by
  go_enter Tryd.func10, Tryd.ntmps10
  go_wp2
  go_ret
  exact ⟨rfl, rfl⟩
set_option maxHeartbeats 4000000 in
set_option maxRecDepth 100000 in
theorem torn_even (k : Nat) (x s : ByteArray) (g : Int) (bg bs : Nat) (r1 r2 r3 r4 : Int) (w : World) (hg : w.heap[bg]? = some (.cells #[.int .u64 g] 22 (0, 0))) (hs : w.heap[bs]? = some (.cells #[.string s] 9 (0, 0)))
    (he : (Int.tmod g 2 == 0) = true) (h : super_Pick.f k s x 100 = some (r1, r2, r3, r4)) :
    Calls Tryd.prog 14 #[.string x, .pointer (some ⟨bg, 0, none⟩), .pointer (some ⟨bs, 0, none⟩)] w fun e w' => e = .returned (.tuple #[.agg #[.int .u64 r1, .int .u64 r2, .int .u64 r3], .int .i64 r4]) ∧ Below w.heap.size w w' := by
  have hcg : w.cell? ⟨bg, 0, none⟩ = some (.int .u64 g) := (blk_cell hg 0).trans rfl
  have hcs : w.cell? ⟨bs, 0, none⟩ = some (.string s) := (blk_cell hs 0).trans rfl
  have hlg := blk_lt hg
  have hls := blk_lt hs
  have H := Aside0.mk h
  clear h hg hs
  have hu24 := Tryd.underlying24
  go_enter Tryd.func14, Tryd.ntmps14
  go_wp2_with (fail)
  refine (super_Pick.calls k s x 100 r1 r2 r3 r4 _ H.out).mono ?_
  rintro e w1 ⟨rfl, hb⟩
  have HBa := Aside0.mk hb
  have BK1 : Aside0 (w1.heap[w.heap.size]? = some (.cells #[.int .u64 0, .int .u64 0, .int .u64 0] 24 (0, 0))) := ⟨blk_below (blk_new w _) hb⟩
  have hz := hb.size
  clear hb
  simp at hz
  have hz0 : w.heap.size < w1.heap.size := by omega
  clear hz
  go_wp2_with (fail)
  have BK2 : Aside0 ((w1.alloc (.cells #[.int .u64 r1, .int .u64 r2, .int .u64 r3] 24 (0, 0))).heap[w1.heap.size]? = some (.cells #[.int .u64 r1, .int .u64 r2, .int .u64 r3] 24 (0, 0))) := ⟨blk_new w1 _⟩
  have BK3 : Aside0 ((w1.alloc (.cells #[.int .u64 r1, .int .u64 r2, .int .u64 r3] 24 (0, 0))).heap[w.heap.size]? = some (.cells #[.int .u64 0, .int .u64 0, .int .u64 0] 24 (0, 0))) := ⟨blk_alloc BK1.out _⟩
  have HB3 : Aside0 (Below w.heap.size w (w1.alloc (.cells #[.int .u64 r1, .int .u64 r2, .int .u64 r3] 24 (0, 0)))) := ⟨below_alloc (below_step (below_alloc (Below.refl _ _) _) HBa.out) _⟩
  generalize w1.alloc (.cells #[.int .u64 r1, .int .u64 r2, .int .u64 r3] 24 (0, 0)) = w2 at BK2 BK3 HB3 ⊢
  generalize hq : w1.heap.size = bx at BK2 hz0 ⊢
  generalize hq2 : w.heap.size = br at BK3 HB3 hz0 ⊢
  have hne : br ≠ bx := Nat.ne_of_lt hz0
  have hne2 : bx ≠ br := Nat.ne_of_gt hz0
  have hcz0 : w2.cell? ⟨bx, 0, none⟩ = some (.int .u64 r1) := (blk_cell BK2.out 0).trans rfl
  have hcz1 : w2.cell? ⟨bx, 1, none⟩ = some (.int .u64 r2) := (blk_cell BK2.out 1).trans rfl
  have hcz2 : w2.cell? ⟨bx, 2, none⟩ = some (.int .u64 r3) := (blk_cell BK2.out 2).trans rfl
  have hcy0 : w2.cell? ⟨br, 0, none⟩ = some (.int .u64 0) := (blk_cell BK3.out 0).trans rfl
  have hcy1 : w2.cell? ⟨br, 1, none⟩ = some (.int .u64 0) := (blk_cell BK3.out 1).trans rfl
  have hcy2 : w2.cell? ⟨br, 2, none⟩ = some (.int .u64 0) := (blk_cell BK3.out 2).trans rfl
  have hfy0 := blk_frozen BK3.out 0
  have hfy1 := blk_frozen BK3.out 1
  have hfy2 := blk_frozen BK3.out 2
  clear hcg hcs hlg hls
  go_still_tail 3, (by kernel_rfl)
  still_call (num_still r4 _)
  refine wpStill_nil ?_
  change wpList _ _ _ _ _ w2.drew
  go_wp2
  subst hq2
  go_light
  refine bodyPost_ret (results_ct rfl _ _ w.heap.size 24 #[.int .u64 r1, .int .u64 r2, .int .u64 r3] (0, 0) _ rfl ?_ hu24 rfl (by kernel_rfl)) rfl ⟨rfl, ?_⟩
  · refine blk_put (cs := #[.int .u64 r1, .int .u64 r2, .int .u64 0]) ?_ 2 _ rfl
    refine blk_put (cs := #[.int .u64 r1, .int .u64 0, .int .u64 0]) ?_ 1 _ rfl
    refine blk_put (cs := #[.int .u64 0, .int .u64 0, .int .u64 0]) ?_ 0 _ rfl
    refine blk_drew ?_
    exact BK3.out
  · with_reducible repeat (first | exact HB3.out | apply below_drew1 | refine below_set ?_ (Nat.le_refl _))
set_option maxHeartbeats 4000000 in
set_option maxRecDepth 100000 in
theorem torn_odd (k : Nat) (x s : ByteArray) (g : Int) (bg bs : Nat) (r1 r2 r3 r4 : Int) (w : World) (hg : w.heap[bg]? = some (.cells #[.int .u64 g] 22 (0, 0))) (hs : w.heap[bs]? = some (.cells #[.string s] 9 (0, 0)))
    (he : (Int.tmod g 2 == 0) = false) (h : super_Pick.f k x s 100 = some (r1, r2, r3, r4)) :
    Calls Tryd.prog 14 #[.string x, .pointer (some ⟨bg, 0, none⟩), .pointer (some ⟨bs, 0, none⟩)] w fun e w' => e = .returned (.tuple #[.agg #[.int .u64 r1, .int .u64 r2, .int .u64 r3], .int .i64 r4]) ∧ Below w.heap.size w w' := by
  have hcg : w.cell? ⟨bg, 0, none⟩ = some (.int .u64 g) := (blk_cell hg 0).trans rfl
  have hcs : w.cell? ⟨bs, 0, none⟩ = some (.string s) := (blk_cell hs 0).trans rfl
  have hlg := blk_lt hg
  have hls := blk_lt hs
  have H := Aside0.mk h
  clear h hg hs
  have hu24 := Tryd.underlying24
  go_enter Tryd.func14, Tryd.ntmps14
  go_wp2_with (fail)
  refine (super_Pick.calls k x s 100 r1 r2 r3 r4 _ H.out).mono ?_
  rintro e w1 ⟨rfl, hb⟩
  have HBa := Aside0.mk hb
  have BK1 : Aside0 (w1.heap[w.heap.size]? = some (.cells #[.int .u64 0, .int .u64 0, .int .u64 0] 24 (0, 0))) := ⟨blk_below (blk_new w _) hb⟩
  have hz := hb.size
  clear hb
  simp at hz
  have hz0 : w.heap.size < w1.heap.size := by omega
  clear hz
  go_wp2_with (fail)
  have BK2 : Aside0 ((w1.alloc (.cells #[.int .u64 r1, .int .u64 r2, .int .u64 r3] 24 (0, 0))).heap[w1.heap.size]? = some (.cells #[.int .u64 r1, .int .u64 r2, .int .u64 r3] 24 (0, 0))) := ⟨blk_new w1 _⟩
  have BK3 : Aside0 ((w1.alloc (.cells #[.int .u64 r1, .int .u64 r2, .int .u64 r3] 24 (0, 0))).heap[w.heap.size]? = some (.cells #[.int .u64 0, .int .u64 0, .int .u64 0] 24 (0, 0))) := ⟨blk_alloc BK1.out _⟩
  have HB3 : Aside0 (Below w.heap.size w (w1.alloc (.cells #[.int .u64 r1, .int .u64 r2, .int .u64 r3] 24 (0, 0)))) := ⟨below_alloc (below_step (below_alloc (Below.refl _ _) _) HBa.out) _⟩
  generalize w1.alloc (.cells #[.int .u64 r1, .int .u64 r2, .int .u64 r3] 24 (0, 0)) = w2 at BK2 BK3 HB3 ⊢
  generalize hq : w1.heap.size = bx at BK2 hz0 ⊢
  generalize hq2 : w.heap.size = br at BK3 HB3 hz0 ⊢
  have hne : br ≠ bx := Nat.ne_of_lt hz0
  have hne2 : bx ≠ br := Nat.ne_of_gt hz0
  have hcz0 : w2.cell? ⟨bx, 0, none⟩ = some (.int .u64 r1) := (blk_cell BK2.out 0).trans rfl
  have hcz1 : w2.cell? ⟨bx, 1, none⟩ = some (.int .u64 r2) := (blk_cell BK2.out 1).trans rfl
  have hcz2 : w2.cell? ⟨bx, 2, none⟩ = some (.int .u64 r3) := (blk_cell BK2.out 2).trans rfl
  have hcy0 : w2.cell? ⟨br, 0, none⟩ = some (.int .u64 0) := (blk_cell BK3.out 0).trans rfl
  have hcy1 : w2.cell? ⟨br, 1, none⟩ = some (.int .u64 0) := (blk_cell BK3.out 1).trans rfl
  have hcy2 : w2.cell? ⟨br, 2, none⟩ = some (.int .u64 0) := (blk_cell BK3.out 2).trans rfl
  have hfy0 := blk_frozen BK3.out 0
  have hfy1 := blk_frozen BK3.out 1
  have hfy2 := blk_frozen BK3.out 2
  clear hcg hcs hlg hls
  go_still_tail 3, (by kernel_rfl)
  still_call (num_still r4 _)
  refine wpStill_nil ?_
  change wpList _ _ _ _ _ w2.drew
  go_wp2
  subst hq2
  go_light
  refine bodyPost_ret (results_ct rfl _ _ w.heap.size 24 #[.int .u64 r1, .int .u64 r2, .int .u64 r3] (0, 0) _ rfl ?_ hu24 rfl (by kernel_rfl)) rfl ⟨rfl, ?_⟩
  · refine blk_put (cs := #[.int .u64 r1, .int .u64 r2, .int .u64 0]) ?_ 2 _ rfl
    refine blk_put (cs := #[.int .u64 r1, .int .u64 0, .int .u64 0]) ?_ 1 _ rfl
    refine blk_put (cs := #[.int .u64 0, .int .u64 0, .int .u64 0]) ?_ 0 _ rfl
    refine blk_drew ?_
    exact BK3.out
  · with_reducible repeat (first | exact HB3.out | apply below_drew1 | refine below_set ?_ (Nat.le_refl _))
def pickT (k : Nat) (g : Int) (s x : ByteArray) : Option (Int × Int × Int × Int) := if (Int.tmod g 2 == 0) = true then super_Pick.f k s x 100 else super_Pick.f k x s 100
theorem torn_pick (k : Nat) (x s : ByteArray) (g : Int) (bg bs : Nat) (r1 r2 r3 r4 : Int) (w : World) (hg : w.heap[bg]? = some (.cells #[.int .u64 g] 22 (0, 0))) (hs : w.heap[bs]? = some (.cells #[.string s] 9 (0, 0)))
    (h : pickT k g s x = some (r1, r2, r3, r4)) :
    Calls Tryd.prog 14 #[.string x, .pointer (some ⟨bg, 0, none⟩), .pointer (some ⟨bs, 0, none⟩)] w fun e w' => e = .returned (.tuple #[.agg #[.int .u64 r1, .int .u64 r2, .int .u64 r3], .int .i64 r4]) ∧ Below w.heap.size w w' := by
  unfold pickT at h
  by_cases he : (Int.tmod g 2 == 0) = true
  · rw [if_pos he] at h
    exact torn_even k x s g bg bs r1 r2 r3 r4 w hg hs he h
  · rw [if_neg he] at h
    exact torn_odd k x s g bg bs r1 r2 r3 r4 w hg hs (Bool.eq_false_iff.2 he) h
end Go.Proofs.YtlkjfjpcphlfeaaDoor.Q
