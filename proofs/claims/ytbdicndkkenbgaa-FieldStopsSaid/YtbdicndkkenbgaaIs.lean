/- certify.Is is not in this seat: see the text that is imported. -/
import Derived.Test.YtbdicndkkenbgaaCert2
namespace Go.Proofs.Ytbdicndkkenbgaa
end Go.Proofs.Ytbdicndkkenbgaa
