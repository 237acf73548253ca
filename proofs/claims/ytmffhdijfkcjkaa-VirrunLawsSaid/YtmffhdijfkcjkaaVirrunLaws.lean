/- The law VirrunLaws, walked. -/
import Derived.Test.YtmffhdijfkcjkaaVirrunDo
import Derived.Test.YtmffhdijfkcjkaaPlainLaws2
namespace Go.Proofs.Ytmffhdijfkcjkaa
open Go.RowKit

set_option maxHeartbeats 400000 in
theorem clos_any (s : ByteArray) (l : List Int) (k : Int) (v : Value) (p : Addr) (w : World) (hv : SliceInts w v l) (hk : w.cell? p = some (.int .i64 k)) :
    Calls Try.prog 12 #[.string s, v, .pointer (some p)] w fun e w' => e = .returned (.int .i64 (dv s.data.toList k l)) ∧ Below w.heap.size w w' := by
  go_enter Try.func12, Try.ntmps12
  go_wp2_with fail
  refine (do_any _ _ l _ _ hv).mono ?_
  rintro e w1 ⟨rfl, hb1⟩
  go_wp2_with fail
  go_ret
  exact ⟨rfl, hb1⟩
theorem cell_new (w : World) (cs : Array Value) (e : TypeId) (i : Nat) : (w.alloc (.cells cs e)).cell? ⟨w.heap.size, i, none⟩ = cs[i]? := by
  simp only [World.cell?, heap_alloc_new]; rfl
theorem len1 (a : Int) : [a].length ≤ maxLen := show 1 ≤ maxLen by decide
theorem len2 (a b : Int) : [a, b].length ≤ maxLen := show 2 ≤ maxLen by decide
theorem nes {x y : Int} (h : x = y) : (x != y) = false := by simp [h]
theorem sames {x y : Int} (h : x = y) : (x == y) = true := by simp [h]

set_option maxRecDepth 100000 in
set_option maxHeartbeats 4000000 in
theorem virrunLaws_any (k a b : Int) (w : World) (ha : -9223372036854775808 ≤ a ∧ a ≤ 9223372036854775807) (hb : -9223372036854775808 ≤ b ∧ b ≤ 9223372036854775807) :
    Calls Try.prog 4 #[.int .i64 k, .int .i64 a, .int .i64 b] w fun e w' => e = .returned (.bool true) ∧ Below w.heap.size w w' := by
  have f1 : ((dv [115, 117, 98] k [(dv [97, 100, 100] k [a, b]), b]) != cutI a k) = false := nes (l_subadd k a b)
  have f2 : ((dv [97, 100, 100] k [a, b]) != (dv [97, 100, 100] k [b, a])) = false := nes (l_addcomm k a b)
  have f3 : ((dv [109, 117, 108] k [a, b]) != (dv [109, 117, 108] k [b, a])) = false := nes (l_mulcomm k a b)
  have f4 : ((dv [120, 111, 114] k [(dv [120, 111, 114] k [a, b]), b]) != cutI a k) = false := nes (l_xor k a b)
  have f5 : ((dv [110, 111, 116] k [(dv [110, 111, 116] k [a])]) != cutI a k) = false := nes (l_not k a)
  have g1 : ((dv [111, 114] k [(dv [97, 110, 100] k [a, b]), (dv [120, 111, 114] k [a, b])]) != (dv [111, 114] k [a, b])) = false := nes (l_or k a b)
  have g3 : ((dv [108, 116] k [a, a]) != 0) = false := nes (l_lt k a)
  have g4 : ((dv [115, 117, 98] k [a, b]) != (dv [97, 100, 100] k [(dv [97, 100, 100] k [a, (dv [110, 111, 116] k [b])]), 1])) = false := nes (l_neg k a b)
  have g2 : ((dv [101, 113] k [a, b]) == 1) = (cutI a k == cutI b k) := l_eq k a b
  go_enter Try.func4, Try.ntmps4
  go_wp2_with fail
  refine (alive11 _).mono ?_
  rintro e w0 ⟨rfl, hb0⟩
  have c0 : w0.cell? ⟨w.heap.size, 0, none⟩ = some (.int .i64 k) := Ext.cell hb0 (cell_new _ _ _ _)
  have e0 : Ext w w0 := (Ext.alloc w _).trans hb0
  clear hb0
  by_cases h1 : k < 1
  · go_wp2_with fail
    go_ret
    exact ⟨rfl, e0⟩
  by_cases h2 : 64 < k
  · go_wp2_with fail
    go_ret
    exact ⟨rfl, e0⟩
  go_wp2_with fail
  refine (rcut_any _ _ _ ha).mono ?_
  rintro e w' ⟨rfl, rfl⟩
  go_wp2_with fail
  refine (rcut_any _ _ _ hb).mono ?_
  rintro e w' ⟨rfl, rfl⟩
  go_wp2_with fail
  refine (clos_any _ [a, b] k _ _ _ (SliceInts.lit _ _ [a, b] (len2 _ _)) ((Ext.alloc _ _).cell c0)).mono ?_
  rintro e w1 ⟨rfl, hb⟩
  have c1 := Ext.cell hb ((Ext.alloc _ _).cell c0)
  have e1 := Ext.trans (Ext.trans e0 (Ext.alloc _ _)) hb
  clear hb c0 e0
  go_wp2_with fail
  refine (clos_any _ [(dv [97, 100, 100] k [a, b]), b] k _ _ _ (SliceInts.lit _ _ [(dv [97, 100, 100] k [a, b]), b] (len2 _ _)) ((Ext.alloc _ _).cell c1)).mono ?_
  rintro e w2 ⟨rfl, hb⟩
  have c2 := Ext.cell hb ((Ext.alloc _ _).cell c1)
  have e2 := Ext.trans (Ext.trans e1 (Ext.alloc _ _)) hb
  clear hb c1 e1
  go_wp2_with fail
  refine (clos_any _ [a, b] k _ _ _ (SliceInts.lit _ _ [a, b] (len2 _ _)) ((Ext.alloc _ _).cell c2)).mono ?_
  rintro e w3 ⟨rfl, hb⟩
  have c3 := Ext.cell hb ((Ext.alloc _ _).cell c2)
  have e3 := Ext.trans (Ext.trans e2 (Ext.alloc _ _)) hb
  clear hb c2 e2
  go_wp2_with fail
  refine (clos_any _ [b, a] k _ _ _ (SliceInts.lit _ _ [b, a] (len2 _ _)) ((Ext.alloc _ _).cell c3)).mono ?_
  rintro e w4 ⟨rfl, hb⟩
  have c4 := Ext.cell hb ((Ext.alloc _ _).cell c3)
  have e4 := Ext.trans (Ext.trans e3 (Ext.alloc _ _)) hb
  clear hb c3 e3
  go_wp2_with fail
  refine (clos_any _ [a, b] k _ _ _ (SliceInts.lit _ _ [a, b] (len2 _ _)) ((Ext.alloc _ _).cell c4)).mono ?_
  rintro e w5 ⟨rfl, hb⟩
  have c5 := Ext.cell hb ((Ext.alloc _ _).cell c4)
  have e5 := Ext.trans (Ext.trans e4 (Ext.alloc _ _)) hb
  clear hb c4 e4
  go_wp2_with fail
  refine (clos_any _ [b, a] k _ _ _ (SliceInts.lit _ _ [b, a] (len2 _ _)) ((Ext.alloc _ _).cell c5)).mono ?_
  rintro e w6 ⟨rfl, hb⟩
  have c6 := Ext.cell hb ((Ext.alloc _ _).cell c5)
  have e6 := Ext.trans (Ext.trans e5 (Ext.alloc _ _)) hb
  clear hb c5 e5
  go_wp2_with fail
  refine (clos_any _ [a, b] k _ _ _ (SliceInts.lit _ _ [a, b] (len2 _ _)) ((Ext.alloc _ _).cell c6)).mono ?_
  rintro e w7 ⟨rfl, hb⟩
  have c7 := Ext.cell hb ((Ext.alloc _ _).cell c6)
  have e7 := Ext.trans (Ext.trans e6 (Ext.alloc _ _)) hb
  clear hb c6 e6
  go_wp2_with fail
  refine (clos_any _ [(dv [120, 111, 114] k [a, b]), b] k _ _ _ (SliceInts.lit _ _ [(dv [120, 111, 114] k [a, b]), b] (len2 _ _)) ((Ext.alloc _ _).cell c7)).mono ?_
  rintro e w8 ⟨rfl, hb⟩
  have c8 := Ext.cell hb ((Ext.alloc _ _).cell c7)
  have e8 := Ext.trans (Ext.trans e7 (Ext.alloc _ _)) hb
  clear hb c7 e7
  go_wp2_with fail
  refine (clos_any _ [a] k _ _ _ (SliceInts.lit _ _ [a] (len1 _)) ((Ext.alloc _ _).cell c8)).mono ?_
  rintro e w9 ⟨rfl, hb⟩
  have c9 := Ext.cell hb ((Ext.alloc _ _).cell c8)
  have e9 := Ext.trans (Ext.trans e8 (Ext.alloc _ _)) hb
  clear hb c8 e8
  go_wp2_with fail
  refine (clos_any _ [(dv [110, 111, 116] k [a])] k _ _ _ (SliceInts.lit _ _ [(dv [110, 111, 116] k [a])] (len1 _)) ((Ext.alloc _ _).cell c9)).mono ?_
  rintro e w10 ⟨rfl, hb⟩
  have c10 := Ext.cell hb ((Ext.alloc _ _).cell c9)
  have e10 := Ext.trans (Ext.trans e9 (Ext.alloc _ _)) hb
  clear hb c9 e9
  go_wp2_with fail
  refine (clos_any _ [a, b] k _ _ _ (SliceInts.lit _ _ [a, b] (len2 _ _)) ((Ext.alloc _ _).cell c10)).mono ?_
  rintro e w11 ⟨rfl, hb⟩
  have c11 := Ext.cell hb ((Ext.alloc _ _).cell c10)
  have e11 := Ext.trans (Ext.trans e10 (Ext.alloc _ _)) hb
  clear hb c10 e10
  go_wp2_with fail
  refine (clos_any _ [a, b] k _ _ _ (SliceInts.lit _ _ [a, b] (len2 _ _)) ((Ext.alloc _ _).cell c11)).mono ?_
  rintro e w12 ⟨rfl, hb⟩
  have c12 := Ext.cell hb ((Ext.alloc _ _).cell c11)
  have e12 := Ext.trans (Ext.trans e11 (Ext.alloc _ _)) hb
  clear hb c11 e11
  go_wp2_with fail
  refine (clos_any _ [(dv [97, 110, 100] k [a, b]), (dv [120, 111, 114] k [a, b])] k _ _ _ (SliceInts.lit _ _ [(dv [97, 110, 100] k [a, b]), (dv [120, 111, 114] k [a, b])] (len2 _ _)) ((Ext.alloc _ _).cell c12)).mono ?_
  rintro e w13 ⟨rfl, hb⟩
  have c13 := Ext.cell hb ((Ext.alloc _ _).cell c12)
  have e13 := Ext.trans (Ext.trans e12 (Ext.alloc _ _)) hb
  clear hb c12 e12
  go_wp2_with fail
  refine (clos_any _ [a, b] k _ _ _ (SliceInts.lit _ _ [a, b] (len2 _ _)) ((Ext.alloc _ _).cell c13)).mono ?_
  rintro e w14 ⟨rfl, hb⟩
  have c14 := Ext.cell hb ((Ext.alloc _ _).cell c13)
  have e14 := Ext.trans (Ext.trans e13 (Ext.alloc _ _)) hb
  clear hb c13 e13
  go_wp2_with fail
  refine (clos_any _ [a, b] k _ _ _ (SliceInts.lit _ _ [a, b] (len2 _ _)) ((Ext.alloc _ _).cell c14)).mono ?_
  rintro e w15 ⟨rfl, hb⟩
  have c15 := Ext.cell hb ((Ext.alloc _ _).cell c14)
  have e15 := Ext.trans (Ext.trans e14 (Ext.alloc _ _)) hb
  clear hb c14 e14
  go_wp2_with fail
  refine (clos_any _ [a, a] k _ _ _ (SliceInts.lit _ _ [a, a] (len2 _ _)) ((Ext.alloc _ _).cell c15)).mono ?_
  rintro e w16 ⟨rfl, hb⟩
  have c16 := Ext.cell hb ((Ext.alloc _ _).cell c15)
  have e16 := Ext.trans (Ext.trans e15 (Ext.alloc _ _)) hb
  clear hb c15 e15
  go_wp2_with fail
  refine (clos_any _ [a, b] k _ _ _ (SliceInts.lit _ _ [a, b] (len2 _ _)) ((Ext.alloc _ _).cell c16)).mono ?_
  rintro e w17 ⟨rfl, hb⟩
  have c17 := Ext.cell hb ((Ext.alloc _ _).cell c16)
  have e17 := Ext.trans (Ext.trans e16 (Ext.alloc _ _)) hb
  clear hb c16 e16
  go_wp2_with fail
  refine (clos_any _ [b] k _ _ _ (SliceInts.lit _ _ [b] (len1 _)) ((Ext.alloc _ _).cell c17)).mono ?_
  rintro e w18 ⟨rfl, hb⟩
  have c18 := Ext.cell hb ((Ext.alloc _ _).cell c17)
  have e18 := Ext.trans (Ext.trans e17 (Ext.alloc _ _)) hb
  clear hb c17 e17
  go_wp2_with fail
  refine (clos_any _ [a, (dv [110, 111, 116] k [b])] k _ _ _ (SliceInts.lit _ _ [a, (dv [110, 111, 116] k [b])] (len2 _ _)) ((Ext.alloc _ _).cell c18)).mono ?_
  rintro e w19 ⟨rfl, hb⟩
  have c19 := Ext.cell hb ((Ext.alloc _ _).cell c18)
  have e19 := Ext.trans (Ext.trans e18 (Ext.alloc _ _)) hb
  clear hb c18 e18
  go_wp2_with fail
  refine (clos_any _ [(dv [97, 100, 100] k [a, (dv [110, 111, 116] k [b])]), 1] k _ _ _ (SliceInts.lit _ _ [(dv [97, 100, 100] k [a, (dv [110, 111, 116] k [b])]), 1] (len2 _ _)) ((Ext.alloc _ _).cell c19)).mono ?_
  rintro e w20 ⟨rfl, hb⟩
  have c20 := Ext.cell hb ((Ext.alloc _ _).cell c19)
  have e20 := Ext.trans (Ext.trans e19 (Ext.alloc _ _)) hb
  clear hb c19 e19
  clear f1 f2 f3 f4 f5 g1 g2 g3
  cases hz : cutI b k == 0 with
  | true =>
    go_wp2_with fail
    go_ret
    exact ⟨rfl, e20⟩
  | false =>
    have q1 : ((dv [97, 100, 100] k [(dv [109, 117, 108] k [(dv [100, 105, 118] k [a, b]), b]), (dv [114, 101, 109] k [a, b])]) == cutI a k) = true := sames (l_div k a b hz)
    have q2 : ((dv [108, 116] k [(dv [114, 101, 109] k [a, b]), b]) == 1) = true := sames (l_rem k a b hz)
    go_wp2_with fail
    refine (clos_any _ [a, b] k _ _ _ (SliceInts.lit _ _ [a, b] (len2 _ _)) ((Ext.alloc _ _).cell c20)).mono ?_
    rintro e w21 ⟨rfl, hb⟩
    have c21 := Ext.cell hb ((Ext.alloc _ _).cell c20)
    have e21 := Ext.trans (Ext.trans e20 (Ext.alloc _ _)) hb
    clear hb c20 e20
    go_wp2_with fail
    refine (clos_any _ [(dv [100, 105, 118] k [a, b]), b] k _ _ _ (SliceInts.lit _ _ [(dv [100, 105, 118] k [a, b]), b] (len2 _ _)) ((Ext.alloc _ _).cell c21)).mono ?_
    rintro e w22 ⟨rfl, hb⟩
    have c22 := Ext.cell hb ((Ext.alloc _ _).cell c21)
    have e22 := Ext.trans (Ext.trans e21 (Ext.alloc _ _)) hb
    clear hb c21 e21
    go_wp2_with fail
    refine (clos_any _ [a, b] k _ _ _ (SliceInts.lit _ _ [a, b] (len2 _ _)) ((Ext.alloc _ _).cell c22)).mono ?_
    rintro e w23 ⟨rfl, hb⟩
    have c23 := Ext.cell hb ((Ext.alloc _ _).cell c22)
    have e23 := Ext.trans (Ext.trans e22 (Ext.alloc _ _)) hb
    clear hb c22 e22
    go_wp2_with fail
    refine (clos_any _ [(dv [109, 117, 108] k [(dv [100, 105, 118] k [a, b]), b]), (dv [114, 101, 109] k [a, b])] k _ _ _ (SliceInts.lit _ _ [(dv [109, 117, 108] k [(dv [100, 105, 118] k [a, b]), b]), (dv [114, 101, 109] k [a, b])] (len2 _ _)) ((Ext.alloc _ _).cell c23)).mono ?_
    rintro e w24 ⟨rfl, hb⟩
    have c24 := Ext.cell hb ((Ext.alloc _ _).cell c23)
    have e24 := Ext.trans (Ext.trans e23 (Ext.alloc _ _)) hb
    clear hb c23 e23
    go_wp2_with fail
    refine (clos_any _ [a, b] k _ _ _ (SliceInts.lit _ _ [a, b] (len2 _ _)) ((Ext.alloc _ _).cell c24)).mono ?_
    rintro e w25 ⟨rfl, hb⟩
    have c25 := Ext.cell hb ((Ext.alloc _ _).cell c24)
    have e25 := Ext.trans (Ext.trans e24 (Ext.alloc _ _)) hb
    clear hb c24 e24
    go_wp2_with fail
    refine (clos_any _ [(dv [114, 101, 109] k [a, b]), b] k _ _ _ (SliceInts.lit _ _ [(dv [114, 101, 109] k [a, b]), b] (len2 _ _)) ((Ext.alloc _ _).cell c25)).mono ?_
    rintro e w26 ⟨rfl, hb⟩
    have c26 := Ext.cell hb ((Ext.alloc _ _).cell c25)
    have e26 := Ext.trans (Ext.trans e25 (Ext.alloc _ _)) hb
    clear hb c25 e25
    go_wp2_with fail
    go_ret
    exact ⟨rfl, e26⟩
end Go.Proofs.Ytmffhdijfkcjkaa
