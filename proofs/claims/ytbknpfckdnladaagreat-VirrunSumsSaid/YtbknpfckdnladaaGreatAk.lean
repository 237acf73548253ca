/- append. No condition. -/
import Derived.Test.YtbknpfckdnladaaGreatAj
import Derived.Room.Entries
import Derived.Deep.DeepAppendWide
set_option linter.unusedVariables false
set_option maxHeartbeats 4000000
namespace Go.Proofs.YtbknpfckdnladaaGreat
section
variable {P : Program} {G : Gh} {ρ : Operand → Value} {ev : Operand → AV} {o : Oper} {w : World} {M M' : Mem} {r : AV}
theorem rows_of_con {b oo sz n : Nat} {g : Nat → List AV} {vs : Nat → Nat → Value} (hs : St G w M) (h0 : 0 < sz) (hsz : ∀ i, i < n → (g i).length = sz) (hcon : ∀ (i j : Nat) (a : AV), i < n → (g i)[j]? = some a → G.con b (oo + (i * sz + j)) = some (vs i j)) (hr : ∀ (i j : Nat) (a : AV), i < n → (g i)[j]? = some a → RV G (vs i j) a) :
    ∃ arr : Array Value, (loadCells ⟨b, oo, none⟩ (n * sz)).run P w = .ok arr w ∧ arr.size = n * sz ∧ RowR G arr 0 sz n g := by
  have idx : ∀ q, q < n * sz → q / sz < n ∧ q % sz < sz ∧ q / sz * sz + q % sz = q := fun q hq => ⟨Nat.div_lt_of_lt_mul (by rw [Nat.mul_comm]; exact hq), Nat.mod_lt _ h0, by rw [Nat.mul_comm]; exact Nat.div_add_mod q sz⟩
  refine ⟨((List.range (n * sz)).map fun q => vs (q / sz) (q % sz)).toArray, ?_, by simp, fun i hi => ⟨hsz i hi, fun j v a e f => ?_⟩⟩
  · have := run_loadCells_list (P := P) (w := w) ⟨b, oo, none⟩ ((List.range (n * sz)).map fun q => vs (q / sz) (q % sz)) (fun q v hq => by
      have hlt : q < n * sz := by have := (List.getElem?_eq_some_iff.1 hq).1; simpa using this
      rw [List.getElem?_map, List.getElem?_range hlt] at hq
      cases hq
      obtain ⟨h1, h2, h3⟩ := idx q hlt
      obtain ⟨a, ha⟩ : ∃ a, (g (q / sz))[q % sz]? = some a := ⟨_, List.getElem?_eq_getElem (by rw [hsz _ h1]; exact h2)⟩
      have := hcon _ _ a h1 ha
      rw [h3] at this
      rw [add_none]
      exact hs.con _ _ _ this)
    simpa using this
  · have hj : j < sz := by rw [← hsz i hi]; exact (List.getElem?_eq_some_iff.1 f).1
    have hle : (i + 1) * sz ≤ n * sz := Nat.mul_le_mul_right sz hi
    rw [Nat.succ_mul] at hle
    rw [List.getElem?_toArray, List.getElem?_map, List.getElem?_range (by omega)] at e
    cases e
    dsimp only
    rw [Nat.zero_add, Nat.mul_comm i sz, Nat.mul_add_div h0, Nat.div_eq_of_lt hj, Nat.mul_add_mod, Nat.mod_eq_of_lt hj]
    exact hr i j a hi f
theorem rows_of_row {b base off sz n len : Nat} {g : Nat → List AV} {arr : Array Value} {t : TypeId} (hc : w.heap[b]? = some (.cells arr t (0, 0))) (hr : RowR G arr base sz n g) (hsz : base + n * sz ≤ arr.size) (hle : off + len ≤ n) :
    ∃ ar : Array Value, (loadCells ⟨b, base + off * sz, none⟩ (len * sz)).run P w = .ok ar w ∧ ar.size = len * sz ∧ RowR G ar 0 sz len (fun i => g (off + i)) := by
  have h1 : (off + len) * sz ≤ n * sz := Nat.mul_le_mul_right sz hle
  rw [Nat.add_mul] at h1
  have hl : ((arr.toList.drop (base + off * sz)).take (len * sz)).length = len * sz := by rw [List.length_take, List.length_drop, Array.length_toList]; omega
  refine ⟨((arr.toList.drop (base + off * sz)).take (len * sz)).toArray, ?_, by rw [List.size_toArray, hl], fun i hi => ⟨(hr _ (by omega)).1, fun j v a e f => ?_⟩⟩
  · have := run_loadCells_list (P := P) (w := w) ⟨b, base + off * sz, none⟩ ((arr.toList.drop (base + off * sz)).take (len * sz)) (fun q v hq => by
      have hlt : q < len * sz := by have := (List.getElem?_eq_some_iff.1 hq).1; omega
      rw [List.getElem?_take_of_lt hlt, List.getElem?_drop] at hq
      rw [add_none, cell_of hc]
      simpa using hq)
    rw [hl] at this
    exact this
  · have hj : j < sz := by rw [← (hr (off + i) (by omega)).1]; exact (List.getElem?_eq_some_iff.1 f).1
    have hle2 : (i + 1) * sz ≤ len * sz := Nat.mul_le_mul_right sz hi
    rw [Nat.succ_mul] at hle2
    rw [List.getElem?_toArray, Nat.zero_add, List.getElem?_take_of_lt (by omega), List.getElem?_drop] at e
    refine (hr (off + i) (by omega)).2 j v a ?_ f
    rw [Nat.add_mul, show base + (off * sz + i * sz + j) = base + off * sz + (i * sz + j) by omega]
    simpa using e
/-- What is appended: its length, its cells. -/
theorem src_ok {x : Value} {a : AV} {k sz : Nat} {gx : Nat → List AV} (hs : St G w M) (hx : RV G x a) (h : getSl M a = some (k, gx)) (h0 : 0 < sz) (hk : k = 0 ∨ (gx 0).length = sz) :
    (Builtin.lenOf x).run P w = .ok k w ∧ ∃ ar : Array Value, (Builtin.firstCells sz k x).run P w = .ok ar w ∧ ar.size = k * sz ∧ RowR G ar 0 sz k gx := by
  unfold getSl at h
  split at h
  · rename_i nl fu n g
    cases h
    cases hx with
    | lstn => exact ⟨rfl, #[], rfl, by simp, fun i hi => by omega⟩
    | lst vs hc hf hsz hcon hr =>
      rename_i b oo cap sz'
      refine ⟨rfl, ?_⟩
      by_cases hk0 : k = 0
      · subst hk0
        exact ⟨#[], by simp only [Builtin.firstCells, Nat.zero_mul]; rfl, by simp, fun i hi => by omega⟩
      · have hszz : sz' = sz := by
          rcases hk with hk | hk
          · exact absurd hk hk0
          · rw [← hk, hsz 0 (by omega)]
        subst hszz
        exact rows_of_con hs h0 hsz hcon hr
  · rename_i id off len fu sz2
    split at h
    · rename_i sz3 n g hb
      cases hcd : (Nat.beq sz2 sz3 && Nat.ble (off + len) n) with
      | false => rw [hcd] at h; cases h
      | true =>
        rw [hcd] at h
        simp only [Bool.and_eq_true, Nat.beq_eq, Nat.ble_eq] at hcd
        cases h
        cases hx with
        | sl hp hc hf ht hoo =>
        rename_i b base cap oo
        obtain ⟨rfl, hle⟩ := hcd
        refine ⟨rfl, ?_⟩
        obtain ⟨arr, t, hcc, hsz, htot, hr⟩ := hs.blk _ _ _ _ hb hp
        by_cases hk0 : k = 0
        · subst hk0
          exact ⟨#[], by simp only [Builtin.firstCells, Nat.zero_mul]; rfl, by simp, fun i hi => by omega⟩
        · have hszz : sz2 = sz := by
            rcases hk with hk | hk
            · exact absurd hk hk0
            · rw [← hk]; exact (hr _ (by omega)).1.symm
          subst hszz
          have hoo : oo = base + off * sz2 := by
            rcases hoo with e | e
            · omega
            · exact e
          subst hoo
          exact rows_of_row hcc hr hsz hle
    · cases h
  · rename_i s
    cases h
    cases hx
    refine ⟨rfl, ?_⟩
    by_cases hk0 : s.data.toList.length = 0
    · refine ⟨#[], ?_, by rw [hk0]; simp, fun i hi => by omega⟩
      simp only [Builtin.firstCells, hk0, Sem.run_pure]
      congr 1
      apply Array.eq_empty_of_size_eq_zero
      simp
    · have hsz1 : sz = 1 := by
        rcases hk with hk | hk
        · exact absurd hk hk0
        · exact hk.symm
      subst hsz1
      refine ⟨s.data.map fun b => .int .u8 b.toNat, ?_, by simp, fun i hi => ⟨rfl, fun j v a e f => ?_⟩⟩
      · simp only [Builtin.firstCells, Sem.run_pure]
        congr 2
        rw [ByteArray.data_extract]
        simp
      · match j, e, f with
        | 0, e, f =>
          cases f
          rw [Nat.zero_add, Nat.mul_one, Nat.add_zero, Array.getElem?_map] at e
          have hlt : i < s.data.size := by simpa using hi
          rw [Array.getElem?_eq_getElem hlt] at e
          cases e
          have : s.data.toList.getD i 0 = s.data[i] := by rw [List.getD_eq_getElem?_getD, List.getElem?_eq_getElem (by simpa using hlt)]; simp
          rw [this]
          exact .int _ _
        | j + 1, e, f => simp at f
  · cases h
theorem append_room {t0 t1 e ty : TypeId} {i : TypeInfo} {d2 : TypeDesc} {ao : Option Addr} {x : Value} {sLen sCap k : Nat} {new : Array Value} (h0 : undB P t0 = some (.slice e)) (hi : infoB P e = some i) (h1 : undB P t1 = some d2) (hd : notInt (some d2) = true)
    (hl : (Builtin.lenOf x).run P w = .ok k w) (hn : (Builtin.firstCells i.size k x).run P w = .ok new w) (hc : sLen + k ≤ sCap) :
    (Builtin.append_ #[t0, t1] ty #[.slice ao sLen sCap, x]).run P w = match ao with
      | some a => ((storeCells (a.add (sLen * i.size)) new.toList).run P w).andThen fun _ w' => .ok (.slice (some a) (sLen + k) sCap) w'
      | none => .ok (.slice none (sLen + k) sCap) w := by
  cases d2 <;> first | (cases hd; done) | skip
  all_goals
    cases ao <;> simp [Builtin.append_, undB_ok h0, undB_ok h1, underlying, sizeOf, typeInfo, infoB_ok hi, hl, hc, hn, Sem.run_bind]
set_option maxHeartbeats 40000000 in
theorem append_grow {t0 t1 e ty : TypeId} {i : TypeInfo} {d2 : TypeDesc} {z : Value} {ao : Option Addr} {x : Value} {sLen sCap k : Nat} {old new : Array Value} (h0 : undB P t0 = some (.slice e)) (hi : infoB P e = some i) (hz : i.zero = some z) (h1 : undB P t1 = some d2) (hd : notInt (some d2) = true)
    (hl : (Builtin.lenOf x).run P w = .ok k w) (hn : (Builtin.firstCells i.size k x).run P w.drew = .ok new w.drew) (hol : (Builtin.firstCells i.size sLen (.slice ao sLen sCap)).run P w.drew = .ok old w.drew) (hc : sCap < sLen + k) (hb : sLen + k ≤ 16777216) (hby : i.bytes ≤ 65536) :
    ∃ nc, sLen + k ≤ nc ∧ (Builtin.append_ #[t0, t1] ty #[.slice ao sLen sCap, x]).run P w = .ok (.slice (some ⟨w.heap.size, 0, none⟩) (sLen + k) nc) { w.drew with heap := w.heap.push (.cells (old ++ new ++ Builtin.zeroCells z.cells (nc - (sLen + k))) e) } := by
  have hnc : ¬ (sLen + k ≤ sCap) := by omega
  have h63 : ¬ (9223372036854775807 < ((sLen : Int) + (k : Int))) := by omega
  have h48 : ¬ (281474976710656 < Builtin.nextslicecap (sLen + k) sCap * i.bytes) := by
    have h1 := nextslicecap_le_wide hc
    have h2 : Builtin.nextslicecap (sLen + k) sCap * i.bytes ≤ 33554432 * 65536 := Nat.mul_le_mul (by omega) hby
    omega
  have hq : (Question.appendCap (sLen + k) sCap e).forced = false := rfl
  refine ⟨grownCap w (sLen + k) sCap e, ?_, ?_⟩
  · unfold grownCap; simp [Question.cut]
  · cases d2 <;> first | (cases hd; done) | skip
    all_goals
      simp [Builtin.append_, undB_ok h0, undB_ok h1, underlying, sizeOf, typeInfo, infoB_ok hi, hl, hnc, h63, h48, hq, Sem.run_bind]
      rw [hol]
      simp only [Result.andThen_ok]
      rw [hn]
      simp only [Result.andThen_ok, zeroValue, typeInfo, Sem.run_bind, run_program, infoB_ok hi, hz, Sem.run_pure, newRow, run_newObj]
      rfl
end
end Go.Proofs.YtbknpfckdnladaaGreat
