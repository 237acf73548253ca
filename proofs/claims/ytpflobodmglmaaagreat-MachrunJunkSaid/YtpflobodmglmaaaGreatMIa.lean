/- Several texts joined. No condition. -/
import Derived.Test.YtpflobodmglmaaaGreatMf
set_option linter.unusedVariables false
set_option maxHeartbeats 1000000
namespace Go.Proofs.YtpflobodmglmaaaGreat
section
variable (m : Nat) (hm : m + 3 ≤ 40) (cb : Bool) (an : Nat) (ag : Nat → ByteArray) (sb : Bool) (sn : Nat) (sg : Nat → ByteArray)
include hm
theorem fitC0 (hc : 0 < m + 3) : CtE XV.P 251 [ckC ⟨m + 3, cb, 1, fun _ => nm 0, false, true, an, ag, sb, sn, sg⟩, opV (.str ⟨#[97, 100, 100]⟩) us2 (strs cb true 1 (fun _ => nm 0))] [] (.ret (.bool true)) [] :=
  have r := fun j (h : j < m + 3) => reg_ok ⟨m + 3, cb, 1, fun _ => nm 0, false, true, an, ag, sb, sn, sg⟩ hm j h 9
  vc0 (c := cFi) (n := 20000) (by kernel_rfl) (cl (r 0 (by omega)) (cl (r 0 (by omega)) (cl (r 1 (by omega)) (cl (r 0 (by omega)) (cl (r 0 hc) (cl (r 1 (by omega)) (cl (r 0 hc) (endI (wkE (.ret (.bool true))))))))))) (by kernel_rfl)
theorem fitC1 (hc : 1 < m + 3) : CtE XV.P 251 [ckC ⟨m + 3, cb, 1, fun _ => nm 1, false, true, an, ag, sb, sn, sg⟩, opV (.str ⟨#[97, 100, 100]⟩) us2 (strs cb true 1 (fun _ => nm 1))] [] (.ret (.bool true)) [] :=
  have r := fun j (h : j < m + 3) => reg_ok ⟨m + 3, cb, 1, fun _ => nm 1, false, true, an, ag, sb, sn, sg⟩ hm j h 9
  vc0 (c := cFi) (n := 20000) (by kernel_rfl) (cl (r 0 (by omega)) (cl (r 0 (by omega)) (cl (r 1 (by omega)) (cl (r 0 (by omega)) (cl (r 1 hc) (endI (wkE (.ret (.bool true))))))))) (by kernel_rfl)
theorem fitC2 (hc : 2 < m + 3) : CtE XV.P 251 [ckC ⟨m + 3, cb, 1, fun _ => nm 2, false, true, an, ag, sb, sn, sg⟩, opV (.str ⟨#[97, 100, 100]⟩) us2 (strs cb true 1 (fun _ => nm 2))] [] (.ret (.bool true)) [] :=
  have r := fun j (h : j < m + 3) => reg_ok ⟨m + 3, cb, 1, fun _ => nm 2, false, true, an, ag, sb, sn, sg⟩ hm j h 9
  vc0 (c := cFi) (n := 20000) (by kernel_rfl) (cl (r 0 (by omega)) (cl (r 0 (by omega)) (cl (r 1 (by omega)) (cl (r 0 (by omega)) (cl (r 2 hc) (endI (wkE (.ret (.bool true))))))))) (by kernel_rfl)
theorem fitC3 (hc : 3 < m + 3) : CtE XV.P 251 [ckC ⟨m + 3, cb, 1, fun _ => nm 3, false, true, an, ag, sb, sn, sg⟩, opV (.str ⟨#[97, 100, 100]⟩) us2 (strs cb true 1 (fun _ => nm 3))] [] (.ret (.bool true)) [] :=
  have r := fun j (h : j < m + 3) => reg_ok ⟨m + 3, cb, 1, fun _ => nm 3, false, true, an, ag, sb, sn, sg⟩ hm j h 9
  vc0 (c := cFi) (n := 20000) (by kernel_rfl) (cl (r 0 (by omega)) (cl (r 0 (by omega)) (cl (r 1 (by omega)) (cl (r 0 (by omega)) (cl (r 3 hc) (ck (c := inI 3 (m + 3) && true) (by simp; omega) (endI (wkE (.ret (.bool true)))))))))) (by kernel_rfl)
theorem fitC4 (hc : 4 < m + 3) : CtE XV.P 251 [ckC ⟨m + 3, cb, 1, fun _ => nm 4, false, true, an, ag, sb, sn, sg⟩, opV (.str ⟨#[97, 100, 100]⟩) us2 (strs cb true 1 (fun _ => nm 4))] [] (.ret (.bool true)) [] :=
  have r := fun j (h : j < m + 3) => reg_ok ⟨m + 3, cb, 1, fun _ => nm 4, false, true, an, ag, sb, sn, sg⟩ hm j h 9
  vc0 (c := cFi) (n := 20000) (by kernel_rfl) (cl (r 0 (by omega)) (cl (r 0 (by omega)) (cl (r 1 (by omega)) (cl (r 0 (by omega)) (cl (r 4 hc) (ck (c := inI 4 (m + 3) && true) (by simp; omega) (endI (wkE (.ret (.bool true)))))))))) (by kernel_rfl)
theorem fitC5 (hc : 5 < m + 3) : CtE XV.P 251 [ckC ⟨m + 3, cb, 1, fun _ => nm 5, false, true, an, ag, sb, sn, sg⟩, opV (.str ⟨#[97, 100, 100]⟩) us2 (strs cb true 1 (fun _ => nm 5))] [] (.ret (.bool true)) [] :=
  have r := fun j (h : j < m + 3) => reg_ok ⟨m + 3, cb, 1, fun _ => nm 5, false, true, an, ag, sb, sn, sg⟩ hm j h 9
  vc0 (c := cFi) (n := 20000) (by kernel_rfl) (cl (r 0 (by omega)) (cl (r 0 (by omega)) (cl (r 1 (by omega)) (cl (r 0 (by omega)) (cl (r 5 hc) (ck (c := inI 5 (m + 3) && true) (by simp; omega) (endI (wkE (.ret (.bool true)))))))))) (by kernel_rfl)
theorem fitC6 (hc : 6 < m + 3) : CtE XV.P 251 [ckC ⟨m + 3, cb, 1, fun _ => nm 6, false, true, an, ag, sb, sn, sg⟩, opV (.str ⟨#[97, 100, 100]⟩) us2 (strs cb true 1 (fun _ => nm 6))] [] (.ret (.bool true)) [] :=
  have r := fun j (h : j < m + 3) => reg_ok ⟨m + 3, cb, 1, fun _ => nm 6, false, true, an, ag, sb, sn, sg⟩ hm j h 9
  vc0 (c := cFi) (n := 20000) (by kernel_rfl) (cl (r 0 (by omega)) (cl (r 0 (by omega)) (cl (r 1 (by omega)) (cl (r 0 (by omega)) (cl (r 6 hc) (ck (c := inI 6 (m + 3) && true) (by simp; omega) (endI (wkE (.ret (.bool true)))))))))) (by kernel_rfl)
theorem fitC7 (hc : 7 < m + 3) : CtE XV.P 251 [ckC ⟨m + 3, cb, 1, fun _ => nm 7, false, true, an, ag, sb, sn, sg⟩, opV (.str ⟨#[97, 100, 100]⟩) us2 (strs cb true 1 (fun _ => nm 7))] [] (.ret (.bool true)) [] :=
  have r := fun j (h : j < m + 3) => reg_ok ⟨m + 3, cb, 1, fun _ => nm 7, false, true, an, ag, sb, sn, sg⟩ hm j h 9
  vc0 (c := cFi) (n := 20000) (by kernel_rfl) (cl (r 0 (by omega)) (cl (r 0 (by omega)) (cl (r 1 (by omega)) (cl (r 0 (by omega)) (cl (r 7 hc) (ck (c := inI 7 (m + 3) && true) (by simp; omega) (endI (wkE (.ret (.bool true)))))))))) (by kernel_rfl)
theorem fitC8 (hc : 8 < m + 3) : CtE XV.P 251 [ckC ⟨m + 3, cb, 1, fun _ => nm 8, false, true, an, ag, sb, sn, sg⟩, opV (.str ⟨#[97, 100, 100]⟩) us2 (strs cb true 1 (fun _ => nm 8))] [] (.ret (.bool true)) [] :=
  have r := fun j (h : j < m + 3) => reg_ok ⟨m + 3, cb, 1, fun _ => nm 8, false, true, an, ag, sb, sn, sg⟩ hm j h 9
  vc0 (c := cFi) (n := 20000) (by kernel_rfl) (cl (r 0 (by omega)) (cl (r 0 (by omega)) (cl (r 1 (by omega)) (cl (r 0 (by omega)) (cl (r 8 hc) (ck (c := inI 8 (m + 3) && true) (by simp; omega) (endI (wkE (.ret (.bool true)))))))))) (by kernel_rfl)
theorem fitC9 (hc : 9 < m + 3) : CtE XV.P 251 [ckC ⟨m + 3, cb, 1, fun _ => nm 9, false, true, an, ag, sb, sn, sg⟩, opV (.str ⟨#[97, 100, 100]⟩) us2 (strs cb true 1 (fun _ => nm 9))] [] (.ret (.bool true)) [] :=
  have r := fun j (h : j < m + 3) => reg_ok ⟨m + 3, cb, 1, fun _ => nm 9, false, true, an, ag, sb, sn, sg⟩ hm j h 9
  vc0 (c := cFi) (n := 20000) (by kernel_rfl) (cl (r 0 (by omega)) (cl (r 0 (by omega)) (cl (r 1 (by omega)) (cl (r 0 (by omega)) (cl (r 9 hc) (ck (c := inI 9 (m + 3) && true) (by simp; omega) (endI (wkE (.ret (.bool true)))))))))) (by kernel_rfl)
theorem fitC10 (hc : 10 < m + 3) : CtE XV.P 251 [ckC ⟨m + 3, cb, 1, fun _ => nm 10, false, true, an, ag, sb, sn, sg⟩, opV (.str ⟨#[97, 100, 100]⟩) us2 (strs cb true 1 (fun _ => nm 10))] [] (.ret (.bool true)) [] :=
  have r := fun j (h : j < m + 3) => reg_ok ⟨m + 3, cb, 1, fun _ => nm 10, false, true, an, ag, sb, sn, sg⟩ hm j h 9
  vc0 (c := cFi) (n := 20000) (by kernel_rfl) (cl (r 0 (by omega)) (cl (r 0 (by omega)) (cl (r 1 (by omega)) (cl (r 0 (by omega)) (cl (r 10 hc) (ck (c := inI 10 (m + 3) && true) (by simp; omega) (endI (wkE (.ret (.bool true)))))))))) (by kernel_rfl)
theorem fitC11 (hc : 11 < m + 3) : CtE XV.P 251 [ckC ⟨m + 3, cb, 1, fun _ => nm 11, false, true, an, ag, sb, sn, sg⟩, opV (.str ⟨#[97, 100, 100]⟩) us2 (strs cb true 1 (fun _ => nm 11))] [] (.ret (.bool true)) [] :=
  have r := fun j (h : j < m + 3) => reg_ok ⟨m + 3, cb, 1, fun _ => nm 11, false, true, an, ag, sb, sn, sg⟩ hm j h 9
  vc0 (c := cFi) (n := 20000) (by kernel_rfl) (cl (r 0 (by omega)) (cl (r 0 (by omega)) (cl (r 1 (by omega)) (cl (r 0 (by omega)) (cl (r 11 hc) (ck (c := inI 11 (m + 3) && true) (by simp; omega) (endI (wkE (.ret (.bool true)))))))))) (by kernel_rfl)
theorem fitC12 (hc : 12 < m + 3) : CtE XV.P 251 [ckC ⟨m + 3, cb, 1, fun _ => nm 12, false, true, an, ag, sb, sn, sg⟩, opV (.str ⟨#[97, 100, 100]⟩) us2 (strs cb true 1 (fun _ => nm 12))] [] (.ret (.bool true)) [] :=
  have r := fun j (h : j < m + 3) => reg_ok ⟨m + 3, cb, 1, fun _ => nm 12, false, true, an, ag, sb, sn, sg⟩ hm j h 9
  vc0 (c := cFi) (n := 20000) (by kernel_rfl) (cl (r 0 (by omega)) (cl (r 0 (by omega)) (cl (r 1 (by omega)) (cl (r 0 (by omega)) (cl (r 12 hc) (ck (c := inI 12 (m + 3) && true) (by simp; omega) (endI (wkE (.ret (.bool true)))))))))) (by kernel_rfl)
theorem fitC13 (hc : 13 < m + 3) : CtE XV.P 251 [ckC ⟨m + 3, cb, 1, fun _ => nm 13, false, true, an, ag, sb, sn, sg⟩, opV (.str ⟨#[97, 100, 100]⟩) us2 (strs cb true 1 (fun _ => nm 13))] [] (.ret (.bool true)) [] :=
  have r := fun j (h : j < m + 3) => reg_ok ⟨m + 3, cb, 1, fun _ => nm 13, false, true, an, ag, sb, sn, sg⟩ hm j h 9
  vc0 (c := cFi) (n := 20000) (by kernel_rfl) (cl (r 0 (by omega)) (cl (r 0 (by omega)) (cl (r 1 (by omega)) (cl (r 0 (by omega)) (cl (r 13 hc) (ck (c := inI 13 (m + 3) && true) (by simp; omega) (endI (wkE (.ret (.bool true)))))))))) (by kernel_rfl)
theorem fitC14 (hc : 14 < m + 3) : CtE XV.P 251 [ckC ⟨m + 3, cb, 1, fun _ => nm 14, false, true, an, ag, sb, sn, sg⟩, opV (.str ⟨#[97, 100, 100]⟩) us2 (strs cb true 1 (fun _ => nm 14))] [] (.ret (.bool true)) [] :=
  have r := fun j (h : j < m + 3) => reg_ok ⟨m + 3, cb, 1, fun _ => nm 14, false, true, an, ag, sb, sn, sg⟩ hm j h 9
  vc0 (c := cFi) (n := 20000) (by kernel_rfl) (cl (r 0 (by omega)) (cl (r 0 (by omega)) (cl (r 1 (by omega)) (cl (r 0 (by omega)) (cl (r 14 hc) (ck (c := inI 14 (m + 3) && true) (by simp; omega) (endI (wkE (.ret (.bool true)))))))))) (by kernel_rfl)
theorem fitC15 (hc : 15 < m + 3) : CtE XV.P 251 [ckC ⟨m + 3, cb, 1, fun _ => nm 15, false, true, an, ag, sb, sn, sg⟩, opV (.str ⟨#[97, 100, 100]⟩) us2 (strs cb true 1 (fun _ => nm 15))] [] (.ret (.bool true)) [] :=
  have r := fun j (h : j < m + 3) => reg_ok ⟨m + 3, cb, 1, fun _ => nm 15, false, true, an, ag, sb, sn, sg⟩ hm j h 9
  vc0 (c := cFi) (n := 20000) (by kernel_rfl) (cl (r 0 (by omega)) (cl (r 0 (by omega)) (cl (r 1 (by omega)) (cl (r 0 (by omega)) (cl (r 15 hc) (ck (c := inI 15 (m + 3) && true) (by simp; omega) (endI (wkE (.ret (.bool true)))))))))) (by kernel_rfl)
theorem fitC16 (hc : 16 < m + 3) : CtE XV.P 251 [ckC ⟨m + 3, cb, 1, fun _ => nm 16, false, true, an, ag, sb, sn, sg⟩, opV (.str ⟨#[97, 100, 100]⟩) us2 (strs cb true 1 (fun _ => nm 16))] [] (.ret (.bool true)) [] :=
  have r := fun j (h : j < m + 3) => reg_ok ⟨m + 3, cb, 1, fun _ => nm 16, false, true, an, ag, sb, sn, sg⟩ hm j h 9
  vc0 (c := cFi) (n := 20000) (by kernel_rfl) (cl (r 0 (by omega)) (cl (r 0 (by omega)) (cl (r 1 (by omega)) (cl (r 0 (by omega)) (cl (r 16 hc) (ck (c := inI 16 (m + 3) && true) (by simp; omega) (endI (wkE (.ret (.bool true)))))))))) (by kernel_rfl)
theorem fitC17 (hc : 17 < m + 3) : CtE XV.P 251 [ckC ⟨m + 3, cb, 1, fun _ => nm 17, false, true, an, ag, sb, sn, sg⟩, opV (.str ⟨#[97, 100, 100]⟩) us2 (strs cb true 1 (fun _ => nm 17))] [] (.ret (.bool true)) [] :=
  have r := fun j (h : j < m + 3) => reg_ok ⟨m + 3, cb, 1, fun _ => nm 17, false, true, an, ag, sb, sn, sg⟩ hm j h 9
  vc0 (c := cFi) (n := 20000) (by kernel_rfl) (cl (r 0 (by omega)) (cl (r 0 (by omega)) (cl (r 1 (by omega)) (cl (r 0 (by omega)) (cl (r 17 hc) (ck (c := inI 17 (m + 3) && true) (by simp; omega) (endI (wkE (.ret (.bool true)))))))))) (by kernel_rfl)
theorem fitC18 (hc : 18 < m + 3) : CtE XV.P 251 [ckC ⟨m + 3, cb, 1, fun _ => nm 18, false, true, an, ag, sb, sn, sg⟩, opV (.str ⟨#[97, 100, 100]⟩) us2 (strs cb true 1 (fun _ => nm 18))] [] (.ret (.bool true)) [] :=
  have r := fun j (h : j < m + 3) => reg_ok ⟨m + 3, cb, 1, fun _ => nm 18, false, true, an, ag, sb, sn, sg⟩ hm j h 9
  vc0 (c := cFi) (n := 20000) (by kernel_rfl) (cl (r 0 (by omega)) (cl (r 0 (by omega)) (cl (r 1 (by omega)) (cl (r 0 (by omega)) (cl (r 18 hc) (ck (c := inI 18 (m + 3) && true) (by simp; omega) (endI (wkE (.ret (.bool true)))))))))) (by kernel_rfl)
theorem fitC19 (hc : 19 < m + 3) : CtE XV.P 251 [ckC ⟨m + 3, cb, 1, fun _ => nm 19, false, true, an, ag, sb, sn, sg⟩, opV (.str ⟨#[97, 100, 100]⟩) us2 (strs cb true 1 (fun _ => nm 19))] [] (.ret (.bool true)) [] :=
  have r := fun j (h : j < m + 3) => reg_ok ⟨m + 3, cb, 1, fun _ => nm 19, false, true, an, ag, sb, sn, sg⟩ hm j h 9
  vc0 (c := cFi) (n := 20000) (by kernel_rfl) (cl (r 0 (by omega)) (cl (r 0 (by omega)) (cl (r 1 (by omega)) (cl (r 0 (by omega)) (cl (r 19 hc) (ck (c := inI 19 (m + 3) && true) (by simp; omega) (endI (wkE (.ret (.bool true)))))))))) (by kernel_rfl)
theorem fitC20 (hc : 20 < m + 3) : CtE XV.P 251 [ckC ⟨m + 3, cb, 1, fun _ => nm 20, false, true, an, ag, sb, sn, sg⟩, opV (.str ⟨#[97, 100, 100]⟩) us2 (strs cb true 1 (fun _ => nm 20))] [] (.ret (.bool true)) [] :=
  have r := fun j (h : j < m + 3) => reg_ok ⟨m + 3, cb, 1, fun _ => nm 20, false, true, an, ag, sb, sn, sg⟩ hm j h 9
  vc0 (c := cFi) (n := 20000) (by kernel_rfl) (cl (r 0 (by omega)) (cl (r 0 (by omega)) (cl (r 1 (by omega)) (cl (r 0 (by omega)) (cl (r 20 hc) (ck (c := inI 20 (m + 3) && true) (by simp; omega) (endI (wkE (.ret (.bool true)))))))))) (by kernel_rfl)
theorem fitC21 (hc : 21 < m + 3) : CtE XV.P 251 [ckC ⟨m + 3, cb, 1, fun _ => nm 21, false, true, an, ag, sb, sn, sg⟩, opV (.str ⟨#[97, 100, 100]⟩) us2 (strs cb true 1 (fun _ => nm 21))] [] (.ret (.bool true)) [] :=
  have r := fun j (h : j < m + 3) => reg_ok ⟨m + 3, cb, 1, fun _ => nm 21, false, true, an, ag, sb, sn, sg⟩ hm j h 9
  vc0 (c := cFi) (n := 20000) (by kernel_rfl) (cl (r 0 (by omega)) (cl (r 0 (by omega)) (cl (r 1 (by omega)) (cl (r 0 (by omega)) (cl (r 21 hc) (ck (c := inI 21 (m + 3) && true) (by simp; omega) (endI (wkE (.ret (.bool true)))))))))) (by kernel_rfl)
theorem fitC22 (hc : 22 < m + 3) : CtE XV.P 251 [ckC ⟨m + 3, cb, 1, fun _ => nm 22, false, true, an, ag, sb, sn, sg⟩, opV (.str ⟨#[97, 100, 100]⟩) us2 (strs cb true 1 (fun _ => nm 22))] [] (.ret (.bool true)) [] :=
  have r := fun j (h : j < m + 3) => reg_ok ⟨m + 3, cb, 1, fun _ => nm 22, false, true, an, ag, sb, sn, sg⟩ hm j h 9
  vc0 (c := cFi) (n := 20000) (by kernel_rfl) (cl (r 0 (by omega)) (cl (r 0 (by omega)) (cl (r 1 (by omega)) (cl (r 0 (by omega)) (cl (r 22 hc) (ck (c := inI 22 (m + 3) && true) (by simp; omega) (endI (wkE (.ret (.bool true)))))))))) (by kernel_rfl)
theorem fitC23 (hc : 23 < m + 3) : CtE XV.P 251 [ckC ⟨m + 3, cb, 1, fun _ => nm 23, false, true, an, ag, sb, sn, sg⟩, opV (.str ⟨#[97, 100, 100]⟩) us2 (strs cb true 1 (fun _ => nm 23))] [] (.ret (.bool true)) [] :=
  have r := fun j (h : j < m + 3) => reg_ok ⟨m + 3, cb, 1, fun _ => nm 23, false, true, an, ag, sb, sn, sg⟩ hm j h 9
  vc0 (c := cFi) (n := 20000) (by kernel_rfl) (cl (r 0 (by omega)) (cl (r 0 (by omega)) (cl (r 1 (by omega)) (cl (r 0 (by omega)) (cl (r 23 hc) (ck (c := inI 23 (m + 3) && true) (by simp; omega) (endI (wkE (.ret (.bool true)))))))))) (by kernel_rfl)
theorem fitC24 (hc : 24 < m + 3) : CtE XV.P 251 [ckC ⟨m + 3, cb, 1, fun _ => nm 24, false, true, an, ag, sb, sn, sg⟩, opV (.str ⟨#[97, 100, 100]⟩) us2 (strs cb true 1 (fun _ => nm 24))] [] (.ret (.bool true)) [] :=
  have r := fun j (h : j < m + 3) => reg_ok ⟨m + 3, cb, 1, fun _ => nm 24, false, true, an, ag, sb, sn, sg⟩ hm j h 9
  vc0 (c := cFi) (n := 20000) (by kernel_rfl) (cl (r 0 (by omega)) (cl (r 0 (by omega)) (cl (r 1 (by omega)) (cl (r 0 (by omega)) (cl (r 24 hc) (ck (c := inI 24 (m + 3) && true) (by simp; omega) (endI (wkE (.ret (.bool true)))))))))) (by kernel_rfl)
theorem fitC25 (hc : 25 < m + 3) : CtE XV.P 251 [ckC ⟨m + 3, cb, 1, fun _ => nm 25, false, true, an, ag, sb, sn, sg⟩, opV (.str ⟨#[97, 100, 100]⟩) us2 (strs cb true 1 (fun _ => nm 25))] [] (.ret (.bool true)) [] :=
  have r := fun j (h : j < m + 3) => reg_ok ⟨m + 3, cb, 1, fun _ => nm 25, false, true, an, ag, sb, sn, sg⟩ hm j h 9
  vc0 (c := cFi) (n := 20000) (by kernel_rfl) (cl (r 0 (by omega)) (cl (r 0 (by omega)) (cl (r 1 (by omega)) (cl (r 0 (by omega)) (cl (r 25 hc) (ck (c := inI 25 (m + 3) && true) (by simp; omega) (endI (wkE (.ret (.bool true)))))))))) (by kernel_rfl)
theorem fitC26 (hc : 26 < m + 3) : CtE XV.P 251 [ckC ⟨m + 3, cb, 1, fun _ => nm 26, false, true, an, ag, sb, sn, sg⟩, opV (.str ⟨#[97, 100, 100]⟩) us2 (strs cb true 1 (fun _ => nm 26))] [] (.ret (.bool true)) [] :=
  have r := fun j (h : j < m + 3) => reg_ok ⟨m + 3, cb, 1, fun _ => nm 26, false, true, an, ag, sb, sn, sg⟩ hm j h 9
  vc0 (c := cFi) (n := 20000) (by kernel_rfl) (cl (r 0 (by omega)) (cl (r 0 (by omega)) (cl (r 1 (by omega)) (cl (r 0 (by omega)) (cl (r 26 hc) (ck (c := inI 26 (m + 3) && true) (by simp; omega) (endI (wkE (.ret (.bool true)))))))))) (by kernel_rfl)
theorem fitC27 (hc : 27 < m + 3) : CtE XV.P 251 [ckC ⟨m + 3, cb, 1, fun _ => nm 27, false, true, an, ag, sb, sn, sg⟩, opV (.str ⟨#[97, 100, 100]⟩) us2 (strs cb true 1 (fun _ => nm 27))] [] (.ret (.bool true)) [] :=
  have r := fun j (h : j < m + 3) => reg_ok ⟨m + 3, cb, 1, fun _ => nm 27, false, true, an, ag, sb, sn, sg⟩ hm j h 9
  vc0 (c := cFi) (n := 20000) (by kernel_rfl) (cl (r 0 (by omega)) (cl (r 0 (by omega)) (cl (r 1 (by omega)) (cl (r 0 (by omega)) (cl (r 27 hc) (ck (c := inI 27 (m + 3) && true) (by simp; omega) (endI (wkE (.ret (.bool true)))))))))) (by kernel_rfl)
theorem fitC28 (hc : 28 < m + 3) : CtE XV.P 251 [ckC ⟨m + 3, cb, 1, fun _ => nm 28, false, true, an, ag, sb, sn, sg⟩, opV (.str ⟨#[97, 100, 100]⟩) us2 (strs cb true 1 (fun _ => nm 28))] [] (.ret (.bool true)) [] :=
  have r := fun j (h : j < m + 3) => reg_ok ⟨m + 3, cb, 1, fun _ => nm 28, false, true, an, ag, sb, sn, sg⟩ hm j h 9
  vc0 (c := cFi) (n := 20000) (by kernel_rfl) (cl (r 0 (by omega)) (cl (r 0 (by omega)) (cl (r 1 (by omega)) (cl (r 0 (by omega)) (cl (r 28 hc) (ck (c := inI 28 (m + 3) && true) (by simp; omega) (endI (wkE (.ret (.bool true)))))))))) (by kernel_rfl)
theorem fitC29 (hc : 29 < m + 3) : CtE XV.P 251 [ckC ⟨m + 3, cb, 1, fun _ => nm 29, false, true, an, ag, sb, sn, sg⟩, opV (.str ⟨#[97, 100, 100]⟩) us2 (strs cb true 1 (fun _ => nm 29))] [] (.ret (.bool true)) [] :=
  have r := fun j (h : j < m + 3) => reg_ok ⟨m + 3, cb, 1, fun _ => nm 29, false, true, an, ag, sb, sn, sg⟩ hm j h 9
  vc0 (c := cFi) (n := 20000) (by kernel_rfl) (cl (r 0 (by omega)) (cl (r 0 (by omega)) (cl (r 1 (by omega)) (cl (r 0 (by omega)) (cl (r 29 hc) (ck (c := inI 29 (m + 3) && true) (by simp; omega) (endI (wkE (.ret (.bool true)))))))))) (by kernel_rfl)
theorem fitsC (c : Nat) (hc : c < m + 3) (h30 : c < 30) : CtE XV.P 251 [ckC ⟨m + 3, cb, 1, fun _ => nm c, false, true, an, ag, sb, sn, sg⟩, opV (.str ⟨#[97, 100, 100]⟩) us2 (strs cb true 1 (fun _ => nm c))] [] (.ret (.bool true)) [] := by
  have h : c = 0 ∨ c = 1 ∨ c = 2 ∨ c = 3 ∨ c = 4 ∨ c = 5 ∨ c = 6 ∨ c = 7 ∨ c = 8 ∨ c = 9 ∨ c = 10 ∨ c = 11 ∨ c = 12 ∨ c = 13 ∨ c = 14 ∨ c = 15 ∨ c = 16 ∨ c = 17 ∨ c = 18 ∨ c = 19 ∨ c = 20 ∨ c = 21 ∨ c = 22 ∨ c = 23 ∨ c = 24 ∨ c = 25 ∨ c = 26 ∨ c = 27 ∨ c = 28 ∨ c = 29 := by omega
  rcases h with rfl | rfl | rfl | rfl | rfl | rfl | rfl | rfl | rfl | rfl | rfl | rfl | rfl | rfl | rfl | rfl | rfl | rfl | rfl | rfl | rfl | rfl | rfl | rfl | rfl | rfl | rfl | rfl | rfl | rfl
  · exact fitC0 m hm cb an ag sb sn sg hc
  · exact fitC1 m hm cb an ag sb sn sg hc
  · exact fitC2 m hm cb an ag sb sn sg hc
  · exact fitC3 m hm cb an ag sb sn sg hc
  · exact fitC4 m hm cb an ag sb sn sg hc
  · exact fitC5 m hm cb an ag sb sn sg hc
  · exact fitC6 m hm cb an ag sb sn sg hc
  · exact fitC7 m hm cb an ag sb sn sg hc
  · exact fitC8 m hm cb an ag sb sn sg hc
  · exact fitC9 m hm cb an ag sb sn sg hc
  · exact fitC10 m hm cb an ag sb sn sg hc
  · exact fitC11 m hm cb an ag sb sn sg hc
  · exact fitC12 m hm cb an ag sb sn sg hc
  · exact fitC13 m hm cb an ag sb sn sg hc
  · exact fitC14 m hm cb an ag sb sn sg hc
  · exact fitC15 m hm cb an ag sb sn sg hc
  · exact fitC16 m hm cb an ag sb sn sg hc
  · exact fitC17 m hm cb an ag sb sn sg hc
  · exact fitC18 m hm cb an ag sb sn sg hc
  · exact fitC19 m hm cb an ag sb sn sg hc
  · exact fitC20 m hm cb an ag sb sn sg hc
  · exact fitC21 m hm cb an ag sb sn sg hc
  · exact fitC22 m hm cb an ag sb sn sg hc
  · exact fitC23 m hm cb an ag sb sn sg hc
  · exact fitC24 m hm cb an ag sb sn sg hc
  · exact fitC25 m hm cb an ag sb sn sg hc
  · exact fitC26 m hm cb an ag sb sn sg hc
  · exact fitC27 m hm cb an ag sb sn sg hc
  · exact fitC28 m hm cb an ag sb sn sg hc
  · exact fitC29 m hm cb an ag sb sn sg hc
theorem spills1 (c : Nat) (hc : c < m + 3) (h30 : c < 30) : CtE XV.P 144 [ckC ⟨m + 3, cb, 1, fun _ => nm c, false, true, an, ag, sb, sn, sg⟩] [] (.ret (.tup [])) [] :=
  vc0 (c := cSpl) (n := 20000) (by kernel_rfl) (cl (fitsC m hm cb an ag sb sn sg c hc h30) (cl (fitsN m hm cb 1 (fun _ => nm c) an ag sb sn sg) (cl (fitsD m hm cb 1 (fun _ => nm c) an ag sb sn sg) (cl (pair00 m hm cb 1 (fun _ => nm c) an ag sb sn sg) (endI (wkE (.ret (.tup []))))))))
    (by kernel_rfl)
theorem check10 (hp : PlOk (m + 3)) (c : Nat) (hc : c < m + 3) (h30 : c < 30) : CtE XV.P 69 [.agg (Fm.mk (m + 3) cb 1 (fun _ => nm c) false true 1 (fun _ => nm 0) sb 0 sg).V] [] (.ret (iV 0)) [] :=
  check_of m hm hp _ _ _ _ _ _ _ _ (ops1 m hm cb 1 _ sb 0 sg c hc) (conv0 m hm cb 1 _ sb sg) (spills1 m hm cb 1 _ sb 0 sg c hc h30)
end
end Go.Proofs.YtpflobodmglmaaaGreat
