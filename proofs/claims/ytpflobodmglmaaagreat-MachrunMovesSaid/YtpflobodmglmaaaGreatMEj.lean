/- Several texts joined. No condition. -/
import Derived.Test.YtpflobodmglmaaaGreatMf
namespace Go.Proofs.YtpflobodmglmaaaGreat
theorem pl23 : plB 23 = true := by kernel_rfl
theorem pl24 : plB 24 = true := by kernel_rfl
theorem pl25 : plB 25 = true := by kernel_rfl
theorem pl26 : plB 26 = true := by kernel_rfl
end Go.Proofs.YtpflobodmglmaaaGreat
