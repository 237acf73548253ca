/- Several texts joined. No condition. -/
import Derived.Test.YtpflobodmglmaaaGreatMf
namespace Go.Proofs.YtpflobodmglmaaaGreat
theorem pl17 : plB 17 = true := by kernel_rfl
theorem pl18 : plB 18 = true := by kernel_rfl
theorem pl19 : plB 19 = true := by kernel_rfl
theorem pl20 : plB 20 = true := by kernel_rfl
theorem pl21 : plB 21 = true := by kernel_rfl
theorem pl22 : plB 22 = true := by kernel_rfl
end Go.Proofs.YtpflobodmglmaaaGreat
