/- SuperPicks: for every two slots and number of blocks super.Pick takes the superblock, or answers the error, that the document's reference does; no condition. This is the law's plain statement, over the printed functions. -/
import Derived.Test.YtlkjfjpcphlfeaaDoorSuper
import Derived.Test.YtlkjfjpcphlfeaaDoorQ10
import Derived.Test.YtlkjfjpcphlfeaaDoorQ11
set_option linter.unusedVariables false
set_option linter.unusedSimpArgs false
namespace Go.Proofs.YtlkjfjpcphlfeaaDoor.Pure
open Go Go.RowKit Go.Proofs.YtlkjfjpcphlfeaaDoor.Q Go.Proofs.YtlkjfjpcphlfeaaDoorW.PrintWords Go.Proofs.YtlkjfjpcphlfeaaDoorW.PrintLast Go.Proofs.YtlkjfjpcphlfeaaDoor.Base

theorem ref_tail (x1 x2 x3 x4 y1 y2 y3 y4 b : Int) (k : Nat) :
    (if x4 = 0 then (holtref5_Pick.j0 (k + 3) b y4 (x2 == b) x1 x2 x3 y1 y2 y3) else (holtref5_Pick.j0 (k + 3) b y4 false x1 x2 x3 y1 y2 y3)) = some (pickS (x1, x2, x3, x4) (y1, y2, y3, y4) b) := by
  have e2 : ∀ (two c : Bool), holtref5_Pick.j2 (k + 1) two c x1 x2 x3 y1 y2 y3 = some (if c = true then (x1, x2, x3, 0) else if two = true then (y1, y2, y3, 0) else (0, 0, 0, 501)) := by
    intro two c
    simp only [holtref5_Pick.j2]
    cases c <;> cases two <;> rfl
  have e1 : ∀ (one two : Bool), holtref5_Pick.j1 (k + 2) one two x1 x2 x3 y1 y2 y3 = some (if one = true ∧ (two = false ∨ y1 < x1) then (x1, x2, x3, 0) else if two = true then (y1, y2, y3, 0) else (0, 0, 0, 501)) := by
    intro one two
    simp only [holtref5_Pick.j1]
    rw [e2, e2, e2]
    cases one <;> cases two <;> simp
  have e0 : ∀ (one : Bool), holtref5_Pick.j0 (k + 3) b y4 one x1 x2 x3 y1 y2 y3 = some (if one = true ∧ (¬ (y4 = 0 ∧ y2 = b) ∨ y1 < x1) then (x1, x2, x3, 0) else if y4 = 0 ∧ y2 = b then (y1, y2, y3, 0) else (0, 0, 0, 501)) := by
    intro one
    simp only [holtref5_Pick.j0]
    rw [e1, e1]
    by_cases h4 : y4 = 0
    · rw [if_pos h4]
      by_cases h2 : y2 = b
      · subst h2; simp [h4]
      · rw [show (y2 == b) = false from beq_eq_false_iff_ne.2 h2]; simp [h2]
    · rw [if_neg h4]; simp [h4]
  rw [e0, e0]
  unfold pickS
  simp only
  by_cases h4 : x4 = 0
  · rw [if_pos h4]
    by_cases h2 : x2 = b
    · subst h2; simp [h4]
    · rw [show (x2 == b) = false from beq_eq_false_iff_ne.2 h2]; simp [h2]
  · rw [if_neg h4]; simp [h4]
theorem SuperPicks : ∀ (a b : ByteArray) (n : Int), a.size ≤ 140737488351232 → b.size ≤ 140737488351232 → (Lit.int .u64 n).wf = true → ∃ k, holtlaw5_SuperPicks.f k a b n = some true := by
  intro a b n ha hb hn
  obtain ⟨l, rfl, hl⟩ := str_ex a
  obtain ⟨m, rfl, hm⟩ := str_ex b
  refine ⟨1103, ?_⟩
  unfold holtlaw5_SuperPicks.f
  have d0 := Decode_is l 0 (by decide) 1103 (by decide)
  have d1 := Decode_is m 1 (by decide) 1103 (by decide)
  have r0 := ref_Decode_is l 0 (by decide) 1103 (by decide)
  have r1 := ref_Decode_is m 1 (by decide) 1103 (by decide)
  rw [show ((0 : Nat) : Int) = 0 from rfl] at d0 r0
  rw [show ((1 : Nat) : Int) = 1 from rfl] at d1 r1
  have hp : super_Pick.f 1103 (str l) (str m) n = some (pickS (decS l 0) (decS m 1) n) := by
    unfold super_Pick.f; rw [d0, d1]; rfl
  have hr : holtref5_Pick.f 1103 (str l) (str m) n = some (pickS (decS l 0) (decS m 1) n) := by
    unfold holtref5_Pick.f
    rw [r0, r1]
    simp only [Option.bind_some]
    exact ref_tail _ _ _ _ _ _ _ _ n 1100
  rw [hp, hr]
  simp only [Option.bind_some, holtlaw0_Num.f, beq_self_eq_true, Bool.and_self, if_true]
  rw [super_awake 1103 (by decide)]; rfl
end Go.Proofs.YtlkjfjpcphlfeaaDoor.Pure
