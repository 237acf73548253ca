/- Several texts joined. No condition. -/
import Derived.Test.YtpflobodmglmaaaGreatMf
namespace Go.Proofs.YtpflobodmglmaaaGreat
theorem pl27 : plB 27 = true := by kernel_rfl
theorem pl28 : plB 28 = true := by kernel_rfl
end Go.Proofs.YtpflobodmglmaaaGreat
