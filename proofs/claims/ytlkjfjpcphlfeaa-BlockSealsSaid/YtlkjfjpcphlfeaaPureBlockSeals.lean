/- BlockSeals: for every kind, generation, place and payload block.Seal gives the very bytes and error that the document's reference gives; no condition. This is the law's plain statement, over the printed functions. -/
import Derived.Test.YtlkjfjpcphlfeaaRefSeal
import Derived.Test.YtlkjfjpcphlfeaaQ3
import Derived.Test.YtlkjfjpcphlfeaaQ4
import Derived.Test.YtlkjfjpcphlfeaaQ5
set_option linter.unusedVariables false
namespace Go.Proofs.Ytlkjfjpcphlfeaa.Pure
open Go Go.RowKit Go.Proofs.Ytlkjfjpcphlfeaa.Q Go.Proofs.YtlkjfjpcphlfeaaW.PrintWords Go.Proofs.YtlkjfjpcphlfeaaW.PrintLast Go.Proofs.Ytlkjfjpcphlfeaa.Base

theorem BlockSeals : holtlaw4_BlockSeals.Pure := by
  intro kd g a s hk hg ha hs
  obtain ⟨hg0, hg1⟩ := wf_u64 hg
  obtain ⟨ha0, ha1⟩ := wf_u64 ha
  refine ⟨600, ?_⟩
  unfold holtlaw4_BlockSeals.f
  obtain ⟨r, h1, h2⟩ : ∃ r, block_Seal.f 600 kd g a s = some r ∧ holtref4_Seal.f 600 kd g a s = some r := by
    by_cases h : kd < 1 ∨ 3 < kd
    · exact ⟨_, Seal_kind kd g a s h 600, ref_Seal_kind kd g a s h 600⟩
    · by_cases hz : 480 < s.size
      · exact ⟨_, Seal_size kd g a s (by omega) (by omega) hz 600, ref_Seal_size kd g a s (by omega) (by omega) hz 600⟩
      · obtain ⟨l, rfl, hl⟩ := str_ex s
        obtain ⟨c, rfl⟩ := byte_of kd (by omega) (by omega)
        obtain ⟨g, rfl⟩ := Int.eq_ofNat_of_zero_le hg0
        obtain ⟨a, rfl⟩ := Int.eq_ofNat_of_zero_le ha0
        exact ⟨_, Seal_ok c g a l (by omega) (by omega) (by omega) (by omega) (by omega) 600 (by decide), ref_Seal_ok c g a l (by omega) (by omega) (by omega) (by omega) (by omega) 600 (by decide)⟩
  rw [h1, h2]
  simp only [Option.bind_some, holtlaw0_Num.f]
  rw [if_pos trivial, if_pos trivial, awake 600 (by decide)]; rfl
end Go.Proofs.Ytlkjfjpcphlfeaa.Pure
