/- The walks: drawn votes for tips and what is final. -/
import Derived.Test.YtmboljfckljjhaaT2
import Derived.Test.YtmboljfckljjhaaG5
import Derived.Test.YtmboljfckljjhaaK0
set_option linter.unusedVariables false
set_option linter.unusedSimpArgs false
namespace Go.Proofs.Ytmboljfckljjhaa
namespace Av
open Go.RowKit

end Av
end Go.Proofs.Ytmboljfckljjhaa
