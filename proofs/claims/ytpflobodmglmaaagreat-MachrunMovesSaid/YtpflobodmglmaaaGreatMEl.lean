/- Several texts joined. No condition. -/
import Derived.Test.YtpflobodmglmaaaGreatMf
namespace Go.Proofs.YtpflobodmglmaaaGreat
theorem pl29 : plB 29 = true := by kernel_rfl
theorem pl30 : plB 30 = true := by kernel_rfl
end Go.Proofs.YtpflobodmglmaaaGreat
