/- SuperForms: for every superblock, block and slot super.Encode and super.Decode give the very bytes, superblock and errors that the document's reference gives; no condition. This is the law's plain statement, over the printed functions. -/
import Derived.Test.YtlkjfjpcphlfeaaDoorSuper
import Derived.Test.YtlkjfjpcphlfeaaDoorQ10
import Derived.Test.YtlkjfjpcphlfeaaDoorQ8
set_option linter.unusedVariables false
namespace Go.Proofs.YtlkjfjpcphlfeaaDoor.Pure
open Go Go.RowKit Go.Proofs.YtlkjfjpcphlfeaaDoor.Q Go.Proofs.YtlkjfjpcphlfeaaDoorW.PrintWords Go.Proofs.YtlkjfjpcphlfeaaDoorW.PrintLast Go.Proofs.YtlkjfjpcphlfeaaDoor.Base

theorem SuperForms : ∀ (g b r : Int) (s : ByteArray) (slot : Int), (Lit.int .u64 g).wf = true → (Lit.int .u64 b).wf = true → (Lit.int .u64 r).wf = true → s.size ≤ 140737488351232 → (Lit.int .i64 slot).wf = true →
    ∃ k, holtlaw5_SuperForms.f k g b r s slot = some true := by
  intro g b r s slot hg hb hr hs hsl
  obtain ⟨hg0, hg1⟩ := wf_u64 hg
  obtain ⟨hb0, hb1⟩ := wf_u64 hb
  obtain ⟨hr0, hr1⟩ := wf_u64 hr
  obtain ⟨hs0, hs1⟩ := wf_i64 hsl
  obtain ⟨g, rfl⟩ := Int.eq_ofNat_of_zero_le hg0
  obtain ⟨b, rfl⟩ := Int.eq_ofNat_of_zero_le hb0
  obtain ⟨r, rfl⟩ := Int.eq_ofNat_of_zero_le hr0
  obtain ⟨l, rfl, hl⟩ := str_ex s
  refine ⟨1100, ?_⟩
  unfold holtlaw5_SuperForms.f
  rw [Encode_is g b r (by omega) (by omega) (by omega) 1100 (by decide), ref_Encode_is g b r (by omega) (by omega) (by omega) 1100 (by decide)]
  obtain ⟨d, h1, h2⟩ : ∃ d, super_Decode.f 1100 (str l) slot = some d ∧ holtref5_Decode.f 1100 (str l) slot = some d := by
    by_cases h : slot < 0
    · exact ⟨_, Decode_neg _ _ h _, ref_Decode_neg _ _ h _⟩
    · obtain ⟨n, rfl⟩ := Int.eq_ofNat_of_zero_le (Int.not_lt.1 h)
      exact ⟨_, Decode_is l n (by omega) 1100 (by decide), ref_Decode_is l n (by omega) 1100 (by decide)⟩
  rw [h1, h2]
  simp only [Option.bind_some, holtlaw0_Num.f, beq_self_eq_true, Bool.and_self, if_true]
  rw [super_awake 1100 (by decide)]; rfl
end Go.Proofs.YtlkjfjpcphlfeaaDoor.Pure
