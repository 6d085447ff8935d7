import Derived.Test.YtlkjfjpcphlfeaaDoorTorn1
import Derived.LoopN
import Derived.Outline
import Derived.Deep.Light
import Derived.WalkLawsBesides
import Derived.Deep.RegionWith
import Derived.StillTailTactics
import Derived.Deep.LoopGhost
namespace Go.Proofs.YtlkjfjpcphlfeaaDoor.Q
open Go.RowKit Go.Proofs.YtlkjfjpcphlfeaaDoorW.PrintWords Go.Proofs.YtlkjfjpcphlfeaaDoorW.PrintLast Go.Proofs.YtlkjfjpcphlfeaaDoorW.PrintMore
set_option linter.unusedVariables false
set_option linter.unusedSimpArgs false
def tornl : Nat → ByteArray → ByteArray → Option ByteArray
  | 0, _, _ => none
  | k + 1, old, t => if (t.size : Int) < 512 then (if (t.size : Int) < (old.size : Int) then tornl k old (t ++ old.extract t.size (t.size + 1)) else tornl k old (t ++ ⟨#[0]⟩)) else some t

theorem three_new (w : World) (x y z : Obj) : (((w.alloc x).alloc y).alloc z).heap[w.heap.size]? = some x ∧ (((w.alloc x).alloc y).alloc z).heap[w.heap.size + 1]? = some y ∧ (((w.alloc x).alloc y).alloc z).heap[w.heap.size + 1 + 1]? = some z ∧ Below w.heap.size w (((w.alloc x).alloc y).alloc z) := by
  have e1 : (w.alloc x).heap.size = w.heap.size + 1 := by simp
  have e2 : ((w.alloc x).alloc y).heap.size = w.heap.size + 1 + 1 := by simp
  refine ⟨blk_alloc (blk_alloc (blk_new w x) _) _, ?_, ?_, below_alloc (below_alloc (below_alloc (Below.refl _ _) _) _) _⟩
  · have h := blk_alloc (blk_new (w.alloc x) y) z
    rw [e1] at h; exact h
  · have h := blk_new ((w.alloc x).alloc y) z
    rw [e2] at h; exact h

attribute [local go_sem high] eqA24
set_option maxHeartbeats 8000000 in
set_option maxRecDepth 100000 in
theorem torn_walk (k kl : Nat) (a0 a1 a2 cut g g1 p q o1 o2 o4 y1 y2 y3 y4 : Int) (old sb tb torn o3 : ByteArray) (w : World) (hA : holtlaw5_awake.f k = some true)
    (hg : bits BinOp.and IntKind.u64 a0 281474976710655 = g) (hg1 : IntKind.u64.wrap (g + 1) = g1) (hp : IntKind.u64.wrap (2 + a1.tmod 98) = p) (hq : IntKind.u64.wrap (2 + a2.tmod 98) = q)
    (hE1 : super_Encode.f k g 100 p = some (sb, 0)) (hE2 : super_Encode.f k g1 100 q = some (tb, 0)) (hP1 : pickT k g sb tb = some (g1, 100, q, 0))
    (hc0 : 0 ≤ wrap64 ((IntKind.u64.wrap cut).tmod 512)) (hc1 : wrap64 ((IntKind.u64.wrap cut).tmod 512) ≤ (tb.size : Int)) (hL : tornl kl old (tb.extract 0 (wrap64 ((IntKind.u64.wrap cut).tmod 512)).toNat) = some torn)
    (hO : holtref4_Open.f k torn (Int.tmod g1 2) = some (o1, o2, o3, o4)) (hP2 : pickT k g sb torn = some (y1, y2, y3, y4)) (hF : o4 = 0 ∨ (y4 = 0 ∧ y1 = g ∧ y2 = 100 ∧ y3 = p)) :
    Calls Tryd.prog 5 #[.int .u64 a0, .int .u64 a1, .int .u64 a2, .int .i64 cut, .string old] w fun e w' => e = .returned (.bool true) ∧ Below w.heap.size w w' := by
  have HA := Aside0.mk hA
  have HB := Aside0.mk (Below.refl w.heap.size w)
  have HE1 := Aside0.mk hE1
  have HE2 := Aside0.mk hE2
  have HP1 := Aside0.mk hP1
  have HG := Aside0.mk hg
  have HG1 := Aside0.mk hg1
  have HP := Aside0.mk hp
  have HQ := Aside0.mk hq
  have HC0 := Aside0.mk hc0
  have HC1 := Aside0.mk hc1
  have HL := Aside0.mk hL
  have HO := Aside0.mk hO
  have HP2 := Aside0.mk hP2
  have HF := Aside0.mk hF
  clear hc0 hc1 hL hO hP2 hF hA hE1 hE2 hP1 hg hg1 hp hq
  go_enter Tryd.func5, Tryd.ntmps5
  go_wp2_with (fail)
  refine (holtlaw5_awake.calls k true _ HA.out).mono ?_
  rintro e w1 ⟨rfl, hb⟩
  have HB1 := Aside0.mk hb
  clear hb HB HA
  go_wp2_with (fail)
  rw [HG.out, HG1.out, HP.out, HQ.out]
  obtain ⟨hbg, hba, hbb, hb⟩ := three_new w1 (.cells #[.int .u64 g] 22 (0, 0)) (.cells #[.int .u64 g, .int .u64 100, .int .u64 p] 24 (0, 0)) (.cells #[.int .u64 g1, .int .u64 100, .int .u64 q] 24 (0, 0))
  have HB2 : Aside0 (Below w.heap.size w (((w1.alloc (.cells #[.int .u64 g] 22 (0, 0))).alloc (.cells #[.int .u64 g, .int .u64 100, .int .u64 p] 24 (0, 0))).alloc (.cells #[.int .u64 g1, .int .u64 100, .int .u64 q] 24 (0, 0)))) := ⟨below_step HB1.out hb⟩
  clear hb HB1
  have BG := Aside0.mk hbg
  have BA := Aside0.mk hba
  have BB := Aside0.mk hbb
  clear hbg hba hbb
  generalize ((w1.alloc (.cells #[.int .u64 g] 22 (0, 0))).alloc (.cells #[.int .u64 g, .int .u64 100, .int .u64 p] 24 (0, 0))).alloc (.cells #[.int .u64 g1, .int .u64 100, .int .u64 q] 24 (0, 0)) = w2 at BG BA BB HB2 ⊢
  generalize w1.heap.size = bg at BG BA BB ⊢
  generalize bg + 1 + 1 = bb at BB ⊢
  generalize bg + 1 = ba at BA ⊢
  refine (super_Encode.calls k g 100 p sb 0 _ HE1.out).mono ?_
  rintro e w3 ⟨rfl, hb⟩
  have BG3 := Aside0.mk (blk_below BG.out hb)
  have BA3 := Aside0.mk (blk_below BA.out hb)
  have BB3 := Aside0.mk (blk_below BB.out hb)
  have HB3 := Aside0.mk (below_step HB2.out hb)
  clear hb BG BA BB HB2
  have hcb0 : w3.cell? ⟨bb, 0, none⟩ = some (.int .u64 g1) := (blk_cell BB3.out 0).trans rfl
  have hcb1 : w3.cell? ⟨bb, 1, none⟩ = some (.int .u64 100) := (blk_cell BB3.out 1).trans rfl
  have hcb2 : w3.cell? ⟨bb, 2, none⟩ = some (.int .u64 q) := (blk_cell BB3.out 2).trans rfl
  have hlb := blk_lt BB3.out
  go_wp2_with (fail)
  refine (super_Encode.calls k g1 100 q tb 0 _ HE2.out).mono ?_
  rintro e w4 ⟨rfl, hb⟩
  have BG4 := Aside0.mk (blk_below (blk_alloc BG3.out _) hb)
  have BA4 := Aside0.mk (blk_below (blk_alloc BA3.out _) hb)
  have BB4 := Aside0.mk (blk_below (blk_alloc BB3.out _) hb)
  have BS4 := Aside0.mk (blk_below (blk_new w3 _) hb)
  have HB4 := Aside0.mk (below_step (below_alloc HB3.out _) hb)
  clear hb BG3 BA3 BB3 HB3 hcb0 hcb1 hcb2 hlb
  generalize w3.heap.size = bs at BS4 ⊢
  have hcb0 : w4.cell? ⟨bb, 0, none⟩ = some (.int .u64 g1) := (blk_cell BB4.out 0).trans rfl
  have hcb1 : w4.cell? ⟨bb, 1, none⟩ = some (.int .u64 100) := (blk_cell BB4.out 1).trans rfl
  have hcb2 : w4.cell? ⟨bb, 2, none⟩ = some (.int .u64 q) := (blk_cell BB4.out 2).trans rfl
  have hlb := blk_lt BB4.out
  go_wp2_with (fail)
  refine (num_still 0 _).mono ?_
  rintro e w5 ⟨rfl, rfl⟩
  go_wp2_with (fail)
  refine (num_still 0 _).mono ?_
  rintro e w6 ⟨rfl, rfl⟩
  go_wp2_with (fail)
  refine (torn_pick k tb sb g bg bs g1 100 q 0 _ BG4.out BS4.out HP1.out).mono ?_
  rintro e w7 ⟨rfl, hb⟩
  have BG7 := Aside0.mk (blk_below BG4.out hb)
  have BA7 := Aside0.mk (blk_below BA4.out hb)
  have BB7 := Aside0.mk (blk_below BB4.out hb)
  have BS7 := Aside0.mk (blk_below BS4.out hb)
  have HB7 := Aside0.mk (below_step HB4.out hb)
  clear hb BG4 BA4 BB4 BS4 HB4 hcb0 hcb1 hcb2 hlb
  have hcb0 : w7.cell? ⟨bb, 0, none⟩ = some (.int .u64 g1) := (blk_cell BB7.out 0).trans rfl
  have hcb1 : w7.cell? ⟨bb, 1, none⟩ = some (.int .u64 100) := (blk_cell BB7.out 1).trans rfl
  have hcb2 : w7.cell? ⟨bb, 2, none⟩ = some (.int .u64 q) := (blk_cell BB7.out 2).trans rfl
  have hlb := blk_lt BB7.out
  have hc0 := eq_true HC0.out
  have hc1 := eq_true HC1.out
  go_wp2_with (fail)
  go_loopg [22] kl (fun kq v22 w' => ∃ t : ByteArray, v22 = .string t ∧ Aside0 (tornl kq old t = some torn) ∧ Aside0 (w'.heap[bg]? = some (.cells #[.int .u64 g] 22 (0, 0))) ∧ Aside0 (w'.heap[ba]? = some (.cells #[.int .u64 g, .int .u64 100, .int .u64 p] 24 (0, 0))) ∧ Aside0 (w'.heap[bs]? = some (.cells #[.string sb] 9 (0, 0))) ∧ Aside0 (Below w.heap.size w w'))
  case atStart => exact ⟨_, rfl, HL, ⟨blk_alloc BG7.out _⟩, ⟨blk_alloc BA7.out _⟩, ⟨blk_alloc BS7.out _⟩, ⟨below_alloc HB7.out _⟩⟩
  case round =>
    clear HL BG7 BA7 BS7 BB7 HB7 hcb0 hcb1 hcb2 hlb hc0 hc1 HC0 HC1 HE1 HE2 HP1
    obtain ⟨t, rfl, HL, BG, BA, BS, HB⟩ := hrel
    rcases gk with _ | k2
    · exact absurd HL.out (by unfold tornl; exact nofun)
    ·
      have H := HL.out
      clear HL
      unfold tornl at H
      by_cases c1 : (t.size : Int) < 512
      · rw [if_pos c1] at H
        have c1b := decide_eq_true c1
        have hw : wrap64 ((t.size : Int) + 1) = (t.size : Int) + 1 := by unfold wrap64; omega
        have HT : Aside0 (t.size < 512) := ⟨by omega⟩
        by_cases c2 : (t.size : Int) < (old.size : Int)
        · rw [if_pos c2] at H
          have c2b := decide_eq_true c2
          have HH := Aside0.mk H
          have e1 : ((t.size : Int) ≤ (t.size : Int) + 1) = True := eq_true (by omega)
          have e2 : ((t.size : Int) + 1 ≤ (old.size : Int)) = True := eq_true (by omega)
          have C2 := Aside0.mk c2
          clear H c1 c2
          go_wp2_with (fail)
          all_goals try (exfalso; have hT := HT.out; have hC := C2.out; first | omega | (rename_i hx; rw [ByteArray.size_extract] at hx; omega))
          go_roundg k2
          case measure => omega
          case rel => exact ⟨_, rfl, HH, BG, BA, BS, HB⟩
        · rw [if_neg c2] at H
          have c2b := decide_eq_false c2
          have HH := Aside0.mk H
          have C2 := Aside0.mk c2
          clear H c1 c2
          go_wp2_with (fail)
          all_goals try (exfalso; have hT := HT.out; have hC := C2.out; first | omega | (rename_i hx; rw [ByteArray.size_extract] at hx; omega))
          go_roundg k2
          case measure => omega
          case rel => exact ⟨_, rfl, HH, BG, BA, BS, HB⟩
      · rw [if_neg c1] at H
        have c1b := decide_eq_false c1
        clear c1
        obtain rfl := Option.some.inj H
        clear H
        have hcg : wr.cell? ⟨bg, 0, none⟩ = some (.int .u64 g) := (blk_cell BG.out 0).trans rfl
        go_wp2_with (fail)
        rw [HG1.out]
        refine (holtref4_Open.calls k t (Int.tmod g1 2) o1 o2 o3 o4 _ HO.out).mono ?_
        rintro e w8 ⟨rfl, hb⟩
        have BG8 := Aside0.mk (blk_below BG.out hb)
        have BA8 := Aside0.mk (blk_below BA.out hb)
        have BS8 := Aside0.mk (blk_below BS.out hb)
        have HB8 := Aside0.mk (below_step HB.out hb)
        clear hb BG BA BS HB hcg
        go_wp2_with (fail)
        refine (torn_pick k t sb g bg bs y1 y2 y3 y4 _ BG8.out BS8.out HP2.out).mono ?_
        rintro e w9 ⟨rfl, hb⟩
        have BA9 := Aside0.mk (blk_below BA8.out hb)
        have HB9 := Aside0.mk (below_step HB8.out hb)
        clear hb BG8 BA8 BS8 HB8
        have hca0 : w9.cell? ⟨ba, 0, none⟩ = some (.int .u64 g) := (blk_cell BA9.out 0).trans rfl
        have hca1 : w9.cell? ⟨ba, 1, none⟩ = some (.int .u64 100) := (blk_cell BA9.out 1).trans rfl
        have hca2 : w9.cell? ⟨ba, 2, none⟩ = some (.int .u64 p) := (blk_cell BA9.out 2).trans rfl
        have hla := blk_lt BA9.out
        by_cases ho : o4 = 0
        · have hob : (o4 == 0) = true := beq_iff_eq.mpr ho
          clear ho
          go_wp2_with (fail)
          go_ret
          exact ⟨rfl, below_alloc HB9.out _⟩
        · have hob : (o4 == 0) = false := beq_eq_false_iff_ne.mpr ho
          obtain ⟨rfl, rfl, rfl, rfl⟩ := HF.out.resolve_left ho
          clear ho
          go_wp2_with (fail)
          go_ret
          exact ⟨rfl, below_alloc HB9.out _⟩

/-- All that the law's good way asks. -/
def GoodTorn (k : Nat) (a0 a1 a2 cut : Int) (old : ByteArray) : Prop :=
  ∃ (kl : Nat) (g g1 p q o1 o2 o4 y1 y2 y3 y4 : Int) (sb tb torn o3 : ByteArray), holtlaw5_awake.f k = some true ∧
    bits BinOp.and IntKind.u64 a0 281474976710655 = g ∧ IntKind.u64.wrap (g + 1) = g1 ∧ IntKind.u64.wrap (2 + a1.tmod 98) = p ∧ IntKind.u64.wrap (2 + a2.tmod 98) = q ∧
    super_Encode.f k g 100 p = some (sb, 0) ∧ super_Encode.f k g1 100 q = some (tb, 0) ∧ pickT k g sb tb = some (g1, 100, q, 0) ∧
    0 ≤ wrap64 ((IntKind.u64.wrap cut).tmod 512) ∧ wrap64 ((IntKind.u64.wrap cut).tmod 512) ≤ (tb.size : Int) ∧ tornl kl old (tb.extract 0 (wrap64 ((IntKind.u64.wrap cut).tmod 512)).toNat) = some torn ∧
    holtref4_Open.f k torn (Int.tmod g1 2) = some (o1, o2, o3, o4) ∧ pickT k g sb torn = some (y1, y2, y3, y4) ∧ (o4 = 0 ∨ (y4 = 0 ∧ y1 = g ∧ y2 = 100 ∧ y3 = p))
open Classical in
noncomputable def holtlaw5_SuperTorn.f (k : Nat) (a0 a1 a2 cut : Int) (old : ByteArray) : Option Bool := if GoodTorn k a0 a1 a2 cut old then some true else none
theorem holtlaw5_SuperTorn.calls (k : Nat) (a0 a1 a2 cut : Int) (old : ByteArray) (r : Bool) (w : World) (h : holtlaw5_SuperTorn.f k a0 a1 a2 cut old = some r) :
    Calls Tryd.prog 5 #[.int .u64 a0, .int .u64 a1, .int .u64 a2, .int .i64 cut, .string old] w fun e w' => e = .returned (.bool r) ∧ Below w.heap.size w w' := by
  unfold holtlaw5_SuperTorn.f at h
  by_cases hg : GoodTorn k a0 a1 a2 cut old
  · rw [if_pos hg] at h
    obtain rfl := Option.some.inj h
    obtain ⟨kl, g, g1, p, q, o1, o2, o4, y1, y2, y3, y4, sb, tb, torn, o3, h1, h2, h3, h4, h5, h6, h7, h8, h9, h10, h11, h12, h13, h14⟩ := hg
    exact torn_walk k kl a0 a1 a2 cut g g1 p q o1 o2 o4 y1 y2 y3 y4 old sb tb torn o3 w h1 h2 h3 h4 h5 h6 h7 h8 h9 h10 h11 h12 h13 h14
  · rw [if_neg hg] at h; exact absurd h nofun
end Go.Proofs.YtlkjfjpcphlfeaaDoor.Q
