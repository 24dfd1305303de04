/- A stand-in under the name that the texts on opening arguments import. -/
import Derived.Test.YtplaghmehbkcnaaAnchL
set_option linter.unusedVariables false
namespace Go.Proofs.Ytplaghmehbkcnaa
end Go.Proofs.Ytplaghmehbkcnaa
