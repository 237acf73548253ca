/- Several texts joined. No condition. -/
import Derived.Test.YtpflobodmglmaaaGreatMEh
import Derived.Test.YtpflobodmglmaaaGreatMEi
import Derived.Test.YtpflobodmglmaaaGreatMEj
import Derived.Test.YtpflobodmglmaaaGreatMEk
import Derived.Test.YtpflobodmglmaaaGreatMEl
namespace Go.Proofs.YtpflobodmglmaaaGreat
theorem pl_all : ∀ n, 3 ≤ n → n ≤ 30 → PlOk n := fun n h1 h2 => by
  have h : n = 3 ∨ n = 4 ∨ n = 5 ∨ n = 6 ∨ n = 7 ∨ n = 8 ∨ n = 9 ∨ n = 10 ∨ n = 11 ∨ n = 12 ∨ n = 13 ∨ n = 14 ∨ n = 15 ∨ n = 16 ∨ n = 17 ∨ n = 18 ∨ n = 19 ∨ n = 20 ∨ n = 21 ∨ n = 22 ∨ n = 23 ∨ n = 24 ∨ n = 25 ∨ n = 26 ∨ n = 27 ∨ n = 28 ∨ n = 29 ∨ n = 30 := by omega
  rcases h with rfl | rfl | rfl | rfl | rfl | rfl | rfl | rfl | rfl | rfl | rfl | rfl | rfl | rfl | rfl | rfl | rfl | rfl | rfl | rfl | rfl | rfl | rfl | rfl | rfl | rfl | rfl | rfl
  · exact pl_of pl3
  · exact pl_of pl4
  · exact pl_of pl5
  · exact pl_of pl6
  · exact pl_of pl7
  · exact pl_of pl8
  · exact pl_of pl9
  · exact pl_of pl10
  · exact pl_of pl11
  · exact pl_of pl12
  · exact pl_of pl13
  · exact pl_of pl14
  · exact pl_of pl15
  · exact pl_of pl16
  · exact pl_of pl17
  · exact pl_of pl18
  · exact pl_of pl19
  · exact pl_of pl20
  · exact pl_of pl21
  · exact pl_of pl22
  · exact pl_of pl23
  · exact pl_of pl24
  · exact pl_of pl25
  · exact pl_of pl26
  · exact pl_of pl27
  · exact pl_of pl28
  · exact pl_of pl29
  · exact pl_of pl30
end Go.Proofs.YtpflobodmglmaaaGreat
