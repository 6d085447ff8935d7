/- BlockOpens: for every text and place block.Open gives the very kind, generation, payload and error that the document's reference gives; no condition. This is the law's plain statement, over the printed functions. -/
import Derived.Test.YtlkjfjpcphlfeaaRefOpen
import Derived.Test.YtlkjfjpcphlfeaaQ4
import Derived.Test.YtlkjfjpcphlfeaaQ8
set_option linter.unusedVariables false
namespace Go.Proofs.Ytlkjfjpcphlfeaa.Pure
open Go Go.RowKit Go.Proofs.Ytlkjfjpcphlfeaa.Q Go.Proofs.YtlkjfjpcphlfeaaW.PrintWords Go.Proofs.YtlkjfjpcphlfeaaW.PrintLast Go.Proofs.Ytlkjfjpcphlfeaa.Base

theorem BlockOpens : holtlaw4_BlockOpens.Pure := by
  intro s a hs ha
  obtain ⟨ha0, ha1⟩ := wf_u64 ha
  obtain ⟨l, rfl, hl⟩ := str_ex s
  obtain ⟨a, rfl⟩ := Int.eq_ofNat_of_zero_le ha0
  refine ⟨600, ?_⟩
  unfold holtlaw4_BlockOpens.f
  rw [Open_is l a (by omega) 600 (by decide), ref_Open_is l a (by omega) 600 (by decide)]
  simp only [Option.bind_some, holtlaw0_Num.f]
  rw [if_pos trivial, if_pos trivial, if_pos trivial, if_pos trivial, awake 600 (by decide)]; rfl
end Go.Proofs.Ytlkjfjpcphlfeaa.Pure
