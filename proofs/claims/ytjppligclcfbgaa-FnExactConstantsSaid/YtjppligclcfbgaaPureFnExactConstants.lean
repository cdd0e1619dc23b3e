/- The plain statement on Constants: what the program returns is what the reference returns. -/
import Derived.Test.YtjppligclcfbgaaF1
namespace Go.Proofs.Ytjppligclcfbgaa.Pure
open Go.RowKit Go.Proofs.Ytjppligclcfbgaa.F
theorem FnExactConstants : laws_FnExactConstants.Pure := rfl
end Go.Proofs.Ytjppligclcfbgaa.Pure
