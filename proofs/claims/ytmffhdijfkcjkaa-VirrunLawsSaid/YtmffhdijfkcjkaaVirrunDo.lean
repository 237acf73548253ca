/- The law VirrunDo, walked. -/
import Derived.Test.YtmffhdijfkcjkaaDoAny
namespace Go.Proofs.Ytmffhdijfkcjkaa
open Go.RowKit

theorem info_int : (Try.prog.info? 3).map (fun i => (i.zero, i.size, i.bytes)) = some (some (.int .i64 0), 1, 8) := by kernel_rfl

set_option maxHeartbeats 400000 in
theorem alive11 (w : World) : Calls Try.prog 7 #[] w fun e w' => e = .returned (.bool true) ∧ Below w.heap.size w w' := by
  have d1 : doS (ByteArray.mk #[97, 100, 100]).data.toList 8 [255, 1] = (0, true) := by decide +kernel
  have d2 : doS (ByteArray.mk #[100, 105, 118]).data.toList 8 [1, 0] = (0, false) := by decide +kernel
  have d3 : arityOf (ByteArray.mk #[110, 111, 116]).data.toList = 1 := by decide +kernel
  have D1 := Lib.hid d1
  have D2 := Lib.hid d2
  have D3 := Lib.hid d3
  clear d1 d2 d3
  go_enter Try.func7, Try.ntmps7
  go_wp2_with fail
  refine (do_any _ _ [255, 1] _ _ (SliceInts.lit _ _ [255, 1] (by decide))).mono ?_
  rintro e w1 ⟨rfl, hb1⟩
  rw [D1.out]
  go_wp2_with fail
  refine (do_any _ _ [1, 0] _ _ (SliceInts.lit _ _ [1, 0] (by decide))).mono ?_
  rintro e w2 ⟨rfl, hb2⟩
  rw [D2.out]
  go_wp2_with fail
  refine (arity_any _ _).mono ?_
  rintro e w3 ⟨rfl, rfl⟩
  rw [D3.out]
  go_wp2_with fail
  go_ret
  exact ⟨rfl, (((Ext.alloc w _).trans hb1).trans (Ext.alloc w1 _)).trans hb2⟩

set_option maxHeartbeats 400000 in
theorem virrunDo_any (s : ByteArray) (k : Int) (l : List Int) (v : Value) (w : World) (hv : SliceInts w v l) (hr : ∀ x ∈ l, -9223372036854775808 ≤ x ∧ x ≤ 9223372036854775807) :
    Calls Try.prog 3 #[.string s, .int .i64 k, v] w fun e w' => e = .returned (.bool true) ∧ Below w.heap.size w w' := by
  obtain ⟨i0, hi, hz0, hz1, hz2⟩ := info_parts info_int
  obtain ⟨adr, cap, rfl, hlc, hcm⟩ := Row.shape hv
  go_enter Try.func3, Try.ntmps3
  go_wp2_with fail
  refine (alive11 _).mono ?_
  rintro e w1 ⟨rfl, hb1⟩
  have hv1 := hv.below hb1
  by_cases h1 : (1000 : Int) < s.size
  · go_wp2_with fail
    go_ret
    exact ⟨rfl, hb1⟩
  · by_cases h2 : (100 : Int) < l.length
    · go_wp2_with fail
      go_ret
      exact ⟨rfl, hb1⟩
    · have h1' : decide ((1000 : Int) < s.size) = false := by simpa using h1
      have h2' : decide ((100 : Int) < l.length) = false := by simpa using h2
      have h3 : l.length * 8 ≤ 140737488355328 := by omega
      clear h1 h2
      go_wp2_with (at_builtin; refine wpList_append_nil _ rfl _ 22 rfl 3 i0 _ 1 8 Try.underlying22 hi hz0 hz1 hz2 rfl (by decide) l.length (l.map (Value.int .i64)) _ rfl hv1 ?c1 h3 ?_)
      case c1 => intro u hu; obtain ⟨x, _, rfl⟩ := List.mem_map.1 hu; rfl
      intro v2 w2 hown hb2
      have hv2 : SliceInts w2 v2 l := Row.of_owns hown
      have hv3 := hv1.below hb2
      go_wp2_with fail
      refine (do_any _ _ l _ _ hv2).mono ?_
      rintro e w3 ⟨rfl, hb3⟩
      have hv4 := hv3.below hb3
      generalize hd : doS s.data.toList k l = d
      obtain ⟨x, ok⟩ := d
      have HD := Lib.hid hd
      clear hd
      go_wp2_with fail
      refine (rdo_any _ _ l _ _ hv4 hr).mono ?_
      rintro e w4 ⟨rfl, rfl⟩
      rw [HD.out]
      go_wp2_with fail
      refine (arity_any _ _).mono ?_
      rintro e w5 ⟨rfl, rfl⟩
      go_wp2_with fail
      refine (arityR_any _ _).mono ?_
      rintro e w6 ⟨rfl, rfl⟩
      go_wp2_with fail
      go_ret
      exact ⟨rfl, Ext.trans (Ext.trans hb1 hb2) hb3⟩
end Go.Proofs.Ytmffhdijfkcjkaa
