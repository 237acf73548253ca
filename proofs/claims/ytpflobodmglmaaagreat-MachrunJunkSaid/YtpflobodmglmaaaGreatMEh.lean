/- Several texts joined. No condition. -/
import Derived.Test.YtpflobodmglmaaaGreatMf
namespace Go.Proofs.YtpflobodmglmaaaGreat
theorem pl3 : plB 3 = true := by kernel_rfl
theorem pl4 : plB 4 = true := by kernel_rfl
theorem pl5 : plB 5 = true := by kernel_rfl
theorem pl6 : plB 6 = true := by kernel_rfl
theorem pl7 : plB 7 = true := by kernel_rfl
theorem pl8 : plB 8 = true := by kernel_rfl
theorem pl9 : plB 9 = true := by kernel_rfl
theorem pl10 : plB 10 = true := by kernel_rfl
theorem pl11 : plB 11 = true := by kernel_rfl
theorem pl12 : plB 12 = true := by kernel_rfl
theorem pl13 : plB 13 = true := by kernel_rfl
theorem pl14 : plB 14 = true := by kernel_rfl
theorem pl15 : plB 15 = true := by kernel_rfl
theorem pl16 : plB 16 = true := by kernel_rfl
end Go.Proofs.YtpflobodmglmaaaGreat
