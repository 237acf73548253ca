/- What virrun.Do answers of every name, width and list of values; and the reference's Do. -/
import Derived.Test.YtmffhdijfkcjkaaDoWalks
import Derived.Test.YtmffhdijfkcjkaaRefDoLow
import Derived.Test.YtmffhdijfkcjkaaArity
import Derived.Test.YtmffhdijfkcjkaaReps
namespace Go.Proofs.Ytmffhdijfkcjkaa
open Go.RowKit

set_option maxHeartbeats 400000 in
theorem do_bad (s : ByteArray) (k : Int) (a : Option Addr) (len cap : Nat) (w : World) (h : arityOf s.data.toList = 0 ∨ arityOf s.data.toList ≠ len) :
    Calls Try.prog 8 #[.string s, .int .i64 k, .slice a len cap] w fun e w' => e = .returned (.tuple #[.int .i64 0, .bool false]) ∧ w = w' := by
  by_cases h0 : arityOf s.data.toList = 0
  · have t0 : (arityOf s.data.toList == 0) = true := by simpa using h0
    clear h h0
    go_enter Try.func8, Try.ntmps8
    go_wp2_with (go_at_call 10; refine (arity_any _ _).mono ?_; rintro e w' ⟨rfl, rfl⟩)
    go_ret2
    exact ⟨rfl, rfl⟩
  · have t0 : (arityOf s.data.toList == 0) = false := by simpa using h0
    have t1 : (arityOf s.data.toList != (len : Int)) = true := by rw [bne_iff_ne]; exact h.resolve_left h0
    have t2 : ((len : Int) != arityOf s.data.toList) = true := by rw [bne_iff_ne]; exact fun e => (h.resolve_left h0) e.symm
    clear h h0
    go_enter Try.func8, Try.ntmps8
    go_wp2_with (go_at_call 10; refine (arity_any _ _).mono ?_; rintro e w' ⟨rfl, rfl⟩)
    go_ret2
    exact ⟨rfl, rfl⟩

set_option maxHeartbeats 400000 in
theorem rdo_bad (s : ByteArray) (k : Int) (a : Option Addr) (len cap : Nat) (w : World) (h : arityOf s.data.toList = 0 ∨ arityOf s.data.toList ≠ len) :
    Calls Try.prog 9 #[.string s, .int .i64 k, .slice a len cap] w fun e w' => e = .returned (.tuple #[.int .i64 0, .bool false]) ∧ w = w' := by
  by_cases h0 : arityOf s.data.toList = 0
  · have t0 : (arityOf s.data.toList == 0) = true := by simpa using h0
    clear h h0
    go_enter Try.func9, Try.ntmps9
    go_wp2_with (go_at_call 11; refine (arityR_any _ _).mono ?_; rintro e w' ⟨rfl, rfl⟩)
    go_ret2
    exact ⟨rfl, rfl⟩
  · have t0 : (arityOf s.data.toList == 0) = false := by simpa using h0
    have t1 : (arityOf s.data.toList != (len : Int)) = true := by rw [bne_iff_ne]; exact h.resolve_left h0
    have t2 : ((len : Int) != arityOf s.data.toList) = true := by rw [bne_iff_ne]; exact fun e => (h.resolve_left h0) e.symm
    clear h h0
    go_enter Try.func9, Try.ntmps9
    go_wp2_with (go_at_call 11; refine (arityR_any _ _).mono ?_; rintro e w' ⟨rfl, rfl⟩)
    go_ret2
    exact ⟨rfl, rfl⟩

theorem doS_bad (s : List UInt8) (k : Int) (l : List Int) (h : arityOf s = 0 ∨ arityOf s ≠ l.length) : doS s k l = (0, false) := by
  unfold arityOf at h
  unfold doS
  cases ho : opOf s with
  | none => rfl
  | some o =>
    rw [ho] at h
    match l with
    | [] => cases o <;> rfl
    | [a] => cases o <;> first | rfl | (exfalso; simp at h)
    | [a, b] => cases o <;> first | rfl | (exfalso; simp at h)
    | _ :: _ :: _ :: _ => cases o <;> rfl

theorem doS_two (o : OpN) (k a b : Int) (h : o ≠ .not) : doS o.bytes k [a, b] = if o.divides && cutU b k == 0 then (0, false) else (cutI (wrap64 (opU o (cutU a k) (cutU b k))) k, true) := by
  unfold doS; rw [opOf_bytes]; cases o <;> first | rfl | exact absurd rfl h
theorem doS_one (k a : Int) : doS (OpN.bytes .not) k [a] = (cutI (wrap64 (opU .not (cutU a k) 0)) k, true) := by
  unfold doS; rw [opOf_bytes]

theorem doS_k (s : List UInt8) (k : Int) (h : k < 1) (l : List Int) : doS s 1 l = doS s k l := by
  unfold doS
  cases opOf s with
  | none => rfl
  | some o =>
    match l with
    | [] => cases o <;> rfl
    | [a] => cases o <;> simp only [cutU_one _ k h, cutI_one _ k h]
    | [a, b] => cases o <;> simp only [cutU_one _ k h, cutI_one _ k h]
    | _ :: _ :: _ :: _ => cases o <;> rfl

theorem cutU_pos (b k : Int) (h : (cutU b k == 0) = false) : 1 ≤ cutU b k := by
  have := cutU_bd b k
  have h' : cutU b k ≠ 0 := by simpa using h
  omega

/-- What was found of arities: a good call is one of these. -/
theorem good {s : ByteArray} {l : List Int} (h : ¬ (arityOf s.data.toList = 0 ∨ arityOf s.data.toList ≠ l.length)) :
    (s = ⟨(OpN.bytes .not).toArray⟩ ∧ ∃ a, l = [a]) ∨ ∃ o a b, o ≠ OpN.not ∧ s = ⟨o.bytes.toArray⟩ ∧ l = [a, b] := by
  have h1 : arityOf s.data.toList ≠ 0 := fun e => h (Or.inl e)
  have h2 : arityOf s.data.toList = l.length := Classical.byContradiction fun e => h (Or.inr e)
  unfold arityOf at h1 h2
  cases ho : opOf s.data.toList with
  | none => rw [ho] at h1; exact absurd rfl h1
  | some o =>
    have hs := bytes_eq (opOf_some ho)
    rw [ho] at h2
    by_cases hn : o = .not
    · subst hn
      refine Or.inl ⟨hs, ?_⟩
      match l, h2 with
      | [a], _ => exact ⟨a, rfl⟩
      | [], h2 => simp at h2
      | _ :: _ :: _, h2 => simp at h2; omega
    · refine Or.inr ⟨o, ?_⟩
      have h3 : (l.length : Int) = 2 := by cases o <;> first | exact h2.symm | exact absurd rfl hn
      match l, h3 with
      | [a, b], _ => exact ⟨a, b, hn, hs, rfl⟩
      | [], h3 => simp at h3
      | [_], h3 => simp at h3
      | _ :: _ :: _ :: _, h3 => simp at h3; omega

theorem do_any (s : ByteArray) (k : Int) (l : List Int) (v : Value) (w : World) (hv : SliceInts w v l) :
    Calls Try.prog 8 #[.string s, .int .i64 k, v] w fun e w' => e = .returned (.tuple #[.int .i64 (doS s.data.toList k l).1, .bool (doS s.data.toList k l).2]) ∧ Below w.heap.size w w' := by
  obtain ⟨adr, cap, rfl, hc⟩ := hv.open
  by_cases hbad : arityOf s.data.toList = 0 ∨ arityOf s.data.toList ≠ l.length
  · refine (do_bad s k adr l.length cap w hbad).mono ?_
    rintro e w' ⟨rfl, rfl⟩
    rw [doS_bad _ _ _ hbad]
    exact ⟨rfl, Below.refl _ _⟩
  · rcases good hbad with ⟨rfl, a, rfl⟩ | ⟨o, a, b, hn, rfl, rfl⟩
    · obtain ⟨blk, off, rfl, hlt, hc⟩ := hc (by simp)
      have h0 := hc 0 (by simp)
      simp only [Nat.add_zero, List.getD_cons_zero] at h0
      show Calls _ _ #[.string ⟨(OpN.bytes .not).toArray⟩, _, _] _ _
      rw [show (ByteArray.mk (OpN.bytes .not).toArray).data.toList = OpN.bytes .not from rfl, doS_one]
      exact do_not a k blk off cap w hlt h0
    · obtain ⟨blk, off, rfl, hlt, hc⟩ := hc (by simp)
      have h0 := hc 0 (by simp)
      have h1 := hc 1 (by simp)
      simp only [Nat.add_zero, List.getD_cons_zero, List.getD_cons_succ] at h0 h1
      rw [show (ByteArray.mk o.bytes.toArray).data.toList = o.bytes from rfl, doS_two o k a b hn]
      cases o
      case add => exact (do_add a b k blk off cap w hlt h0 h1)
      case sub => exact (do_sub a b k blk off cap w hlt h0 h1)
      case mul => exact (do_mul a b k blk off cap w hlt h0 h1)
      case and => exact (do_and a b k blk off cap w hlt h0 h1)
      case or => exact (do_or a b k blk off cap w hlt h0 h1)
      case xor => exact (do_xor a b k blk off cap w hlt h0 h1)
      case shl => exact (do_shl a b k blk off cap w hlt h0 h1)
      case shr => exact (do_shr a b k blk off cap w hlt h0 h1)
      case div =>
        cases hz : cutU b k == 0 with
        | true => exact (do_div_no a b k blk off cap w hlt h0 h1 hz)
        | false => exact (do_div a b k blk off cap w hlt h0 h1 hz (cutU_pos _ _ hz))
      case rem =>
        cases hz : cutU b k == 0 with
        | true => exact (do_rem_no a b k blk off cap w hlt h0 h1 hz)
        | false => exact (do_rem a b k blk off cap w hlt h0 h1 hz (cutU_pos _ _ hz))
      case lt =>
        by_cases he : cutU a k < cutU b k
        · exact (do_lt_yes a b k blk off cap w hlt h0 h1 he)
        · exact (do_lt_no a b k blk off cap w hlt h0 h1 he)
      case eq =>
        cases he : cutU a k == cutU b k with
        | true => exact (do_eq_yes a b k blk off cap w hlt h0 h1 he)
        | false => exact (do_eq_no a b k blk off cap w hlt h0 h1 he)
      case not => exact absurd rfl hn

theorem rdo_any1 (s : ByteArray) (k : Int) (hk : 1 ≤ k) (l : List Int) (v : Value) (w : World) (hv : SliceInts w v l) (hr : ∀ x ∈ l, -9223372036854775808 ≤ x ∧ x ≤ 9223372036854775807) :
    Calls Try.prog 9 #[.string s, .int .i64 k, v] w fun e w' => e = .returned (.tuple #[.int .i64 (doS s.data.toList k l).1, .bool (doS s.data.toList k l).2]) ∧ w = w' := by
  obtain ⟨adr, cap, rfl, hc⟩ := hv.open
  by_cases hbad : arityOf s.data.toList = 0 ∨ arityOf s.data.toList ≠ l.length
  · refine (rdo_bad s k adr l.length cap w hbad).mono ?_
    rintro e w' ⟨rfl, rfl⟩
    rw [doS_bad _ _ _ hbad]
    exact ⟨rfl, rfl⟩
  · rcases good hbad with ⟨rfl, a, rfl⟩ | ⟨o, a, b, hn, rfl, rfl⟩
    · obtain ⟨blk, off, rfl, hlt, hc⟩ := hc (by simp)
      have h0 := hc 0 (by simp)
      simp only [Nat.add_zero, List.getD_cons_zero] at h0
      show Calls _ _ #[.string ⟨(OpN.bytes .not).toArray⟩, _, _] _ _
      rw [show (ByteArray.mk (OpN.bytes .not).toArray).data.toList = OpN.bytes .not from rfl, doS_one]
      exact rdo_not a k hk blk off cap w h0 (hr a (by simp))
    · obtain ⟨blk, off, rfl, hlt, hc⟩ := hc (by simp)
      have h0 := hc 0 (by simp)
      have h1 := hc 1 (by simp)
      simp only [Nat.add_zero, List.getD_cons_zero, List.getD_cons_succ] at h0 h1
      have ra := hr a (by simp)
      have rb := hr b (by simp)
      rw [show (ByteArray.mk o.bytes.toArray).data.toList = o.bytes from rfl, doS_two o k a b hn]
      cases o
      case add => exact (rdo_add a b k hk blk off cap w h0 ra h1 rb)
      case sub => exact (rdo_sub a b k hk blk off cap w h0 ra h1 rb)
      case mul => exact (rdo_mul a b k hk blk off cap w h0 ra h1 rb)
      case and => exact (rdo_and a b k hk blk off cap w h0 ra h1 rb)
      case or => exact (rdo_or a b k hk blk off cap w h0 ra h1 rb)
      case xor => exact (rdo_xor a b k hk blk off cap w h0 ra h1 rb)
      case shl => exact (rdo_shl a b k hk blk off cap w h0 ra h1 rb)
      case shr => exact (rdo_shr a b k hk blk off cap w h0 ra h1 rb)
      case div =>
        cases hz : cutU b k == 0 with
        | true => exact (rdo_div_no a b k hk blk off cap w h0 ra h1 rb (by rw [zeroU]; exact hz))
        | false => exact (rdo_div a b k hk blk off cap w h0 ra h1 rb (by rw [zeroU]; exact hz) (cutU_pos _ _ hz))
      case rem =>
        cases hz : cutU b k == 0 with
        | true => exact (rdo_rem_no a b k hk blk off cap w h0 ra h1 rb (by rw [zeroU]; exact hz))
        | false => exact (rdo_rem a b k hk blk off cap w h0 ra h1 rb (by rw [zeroU]; exact hz) (cutU_pos _ _ hz))
      case lt =>
        by_cases he : cutU a k < cutU b k
        · exact (rdo_lt_yes a b k hk blk off cap w h0 ra h1 rb he)
        · exact (rdo_lt_no a b k hk blk off cap w h0 ra h1 rb he)
      case eq =>
        cases he : cutU a k == cutU b k with
        | true => exact (rdo_eq_yes a b k hk blk off cap w h0 ra h1 rb (by rw [sameU]; exact he))
        | false => exact (rdo_eq_no a b k hk blk off cap w h0 ra h1 rb (by rw [sameU]; exact he))
      case not => exact absurd rfl hn

theorem rdo_anyL (s : ByteArray) (k : Int) (hk : k < 1) (l : List Int) (v : Value) (w : World) (hv : SliceInts w v l) (hr : ∀ x ∈ l, -9223372036854775808 ≤ x ∧ x ≤ 9223372036854775807) :
    Calls Try.prog 9 #[.string s, .int .i64 k, v] w fun e w' => e = .returned (.tuple #[.int .i64 (doS s.data.toList k l).1, .bool (doS s.data.toList k l).2]) ∧ w = w' := by
  rw [← doS_k _ k hk]
  obtain ⟨adr, cap, rfl, hc⟩ := hv.open
  by_cases hbad : arityOf s.data.toList = 0 ∨ arityOf s.data.toList ≠ l.length
  · refine (rdo_bad s k adr l.length cap w hbad).mono ?_
    rintro e w' ⟨rfl, rfl⟩
    rw [doS_bad _ _ _ hbad]
    exact ⟨rfl, rfl⟩
  · rcases good hbad with ⟨rfl, a, rfl⟩ | ⟨o, a, b, hn, rfl, rfl⟩
    · obtain ⟨blk, off, rfl, hlt, hc⟩ := hc (by simp)
      have h0 := hc 0 (by simp)
      simp only [Nat.add_zero, List.getD_cons_zero] at h0
      show Calls _ _ #[.string ⟨(OpN.bytes .not).toArray⟩, _, _] _ _
      rw [show (ByteArray.mk (OpN.bytes .not).toArray).data.toList = OpN.bytes .not from rfl, doS_one]
      exact rdoL_not a k hk blk off cap w h0 (hr a (by simp))
    · obtain ⟨blk, off, rfl, hlt, hc⟩ := hc (by simp)
      have h0 := hc 0 (by simp)
      have h1 := hc 1 (by simp)
      simp only [Nat.add_zero, List.getD_cons_zero, List.getD_cons_succ] at h0 h1
      have ra := hr a (by simp)
      have rb := hr b (by simp)
      rw [show (ByteArray.mk o.bytes.toArray).data.toList = o.bytes from rfl, doS_two o 1 a b hn]
      cases o
      case add => exact (rdoL_add a b k hk blk off cap w h0 ra h1 rb)
      case sub => exact (rdoL_sub a b k hk blk off cap w h0 ra h1 rb)
      case mul => exact (rdoL_mul a b k hk blk off cap w h0 ra h1 rb)
      case and => exact (rdoL_and a b k hk blk off cap w h0 ra h1 rb)
      case or => exact (rdoL_or a b k hk blk off cap w h0 ra h1 rb)
      case xor => exact (rdoL_xor a b k hk blk off cap w h0 ra h1 rb)
      case shl => exact (rdoL_shl a b k hk blk off cap w h0 ra h1 rb)
      case shr => exact (rdoL_shr a b k hk blk off cap w h0 ra h1 rb)
      case div =>
        cases hz : cutU b 1 == 0 with
        | true => exact (rdoL_div_no a b k hk blk off cap w h0 ra h1 rb (by rw [zeroU]; exact hz))
        | false => exact (rdoL_div a b k hk blk off cap w h0 ra h1 rb (by rw [zeroU]; exact hz) (cutU_pos _ _ hz))
      case rem =>
        cases hz : cutU b 1 == 0 with
        | true => exact (rdoL_rem_no a b k hk blk off cap w h0 ra h1 rb (by rw [zeroU]; exact hz))
        | false => exact (rdoL_rem a b k hk blk off cap w h0 ra h1 rb (by rw [zeroU]; exact hz) (cutU_pos _ _ hz))
      case lt =>
        by_cases he : cutU a 1 < cutU b 1
        · exact (rdoL_lt_yes a b k hk blk off cap w h0 ra h1 rb he)
        · exact (rdoL_lt_no a b k hk blk off cap w h0 ra h1 rb he)
      case eq =>
        cases he : cutU a 1 == cutU b 1 with
        | true => exact (rdoL_eq_yes a b k hk blk off cap w h0 ra h1 rb (by rw [sameU]; exact he))
        | false => exact (rdoL_eq_no a b k hk blk off cap w h0 ra h1 rb (by rw [sameU]; exact he))
      case not => exact absurd rfl hn

theorem rdo_any (s : ByteArray) (k : Int) (l : List Int) (v : Value) (w : World) (hv : SliceInts w v l) (hr : ∀ x ∈ l, -9223372036854775808 ≤ x ∧ x ≤ 9223372036854775807) :
    Calls Try.prog 9 #[.string s, .int .i64 k, v] w fun e w' => e = .returned (.tuple #[.int .i64 (doS s.data.toList k l).1, .bool (doS s.data.toList k l).2]) ∧ w = w' := by
  by_cases hk : k < 1
  · exact rdo_anyL s k hk l v w hv hr
  · exact rdo_any1 s k (by omega) l v w hv hr
end Go.Proofs.Ytmffhdijfkcjkaa
