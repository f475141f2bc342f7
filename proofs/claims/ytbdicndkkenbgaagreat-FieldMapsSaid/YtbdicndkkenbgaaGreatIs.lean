/- certify.Is is not in this seat: see the text that is imported. -/
import Derived.Test.YtbdicndkkenbgaaGreatCert2
namespace Go.Proofs.YtbdicndkkenbgaaGreat
end Go.Proofs.YtbdicndkkenbgaaGreat
