/- What the laws on drawn trees share: remainders, lists of sure chains. -/
import Derived.Test.YtdboofnogabefaaT2
set_option linter.unusedVariables false
set_option linter.unusedSimpArgs false
namespace Go.Proofs.Ytdboofnogabefaa
namespace Av
open Go.RowKit
theorem finT_len {l : List Vo} (h : FitVs l) : (finT l).length ≤ LIM := by
  unfold finT
  split
  · exact allS_fits h _ (fin_mem l)
  · exact Nat.zero_le _
end Av
end Go.Proofs.Ytdboofnogabefaa
