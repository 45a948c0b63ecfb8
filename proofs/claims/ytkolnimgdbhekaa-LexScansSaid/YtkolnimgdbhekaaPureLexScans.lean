import Derived.Test.YtkolnimgdbhekaaPx10
import Derived.Test.YtkolnimgdbhekaaLRef3
namespace Go.Proofs.Ytkolnimgdbhekaa.Pure
open Go.RowKit Go.Proofs.Ytkolnimgdbhekaa.P Go.Proofs.YtkolnimgdbhekaaW.PrintWords Go.Proofs.YtkolnimgdbhekaaW.PrintLast

theorem LexScans : peculiumlaw01_LexScans.Pure := by
  intro a0 h0
  refine ⟨60000, ?_⟩
  unfold peculiumlaw01_LexScans.f peculiumlaw01_sane.f lex_Scan.f
  rw [if_pos h0, Option.bind_some, Option.bind_some, refScan_f a0 60000 (by omega), Option.bind_some, if_pos rfl, if_pos rfl, if_pos rfl]
  have := scanL_len a0.data.toList
  rw [refEqual_refl _ (by omega) 60000 (by omega), Option.bind_some]

end Go.Proofs.Ytkolnimgdbhekaa.Pure
