/- The law where it only asks its example; the law for every input. -/
import Derived.Test.YtcnhlemenpgkbaaGreatDoorJW15
import Derived.Test.YtcnhlemenpgkbaaGreatDoorJW16
import Derived.Deep.Slices
import Derived.OpenShut
namespace Go.Proofs.YtcnhlemenpgkbaaGreatDoor
set_option linter.unusedSimpArgs false
set_option linter.unusedVariables false
set_option linter.unnecessarySimpa false
open Go.RowKit M

section
variable {w : World}
set_option maxRecDepth 100000 in
theorem vMain_bad (n : Int) (h : n < 20 ∨ 120 < n) (u v x : Value) : Calls Tryz.prog 3 #[.int .i64 n, u, v, x] w fun e w' => e = .returned (.bool true) ∧ Fr [] w w' := by
  by_cases h1 : n < 20
  · clear h
    go_enter Tryz.func3, Tryz.ntmps3
    go_wp2_with fail
    refine (vSanity_calls _).mono ?_
    rintro e w1 ⟨rfl, f1⟩
    go_wp2_with fail
    go_ret
    exact ⟨rfl, f1⟩
  · have h1' : 20 ≤ n := by omega
    have h2 : 120 < n := by omega
    clear h
    go_enter Tryz.func3, Tryz.ntmps3
    go_wp2_with fail
    refine (vSanity_calls _).mono ?_
    rintro e w1 ⟨rfl, f1⟩
    go_wp2_with fail
    go_ret
    exact ⟨rfl, f1⟩
set_option maxRecDepth 100000 in
theorem vMain_long (n : Int) (h1 : 20 ≤ n) (h2 : n ≤ 120) (A C : Option Addr) (l1 c1 l3 c3 : Nat) (v : Value) (hl : 12 < l1 ∨ 40 < l3) : Calls Tryz.prog 3 #[.int .i64 n, .slice A l1 c1, v, .slice C l3 c3] w fun e w' => e = .returned (.bool true) ∧ Fr [] w w' := by
  by_cases k1 : 12 < l1
  · have k1' : (12 : Int) < (l1 : Int) := by omega
    clear hl
    go_enter Tryz.func3, Tryz.ntmps3
    go_wp2_with fail
    refine (vSanity_calls _).mono ?_
    rintro e w1 ⟨rfl, f1⟩
    go_wp2_with fail
    go_ret
    exact ⟨rfl, f1⟩
  · have k1' : (l1 : Int) ≤ 12 := by omega
    have k2' : (40 : Int) < (l3 : Int) := by omega
    clear hl
    go_enter Tryz.func3, Tryz.ntmps3
    go_wp2_with fail
    refine (vSanity_calls _).mono ?_
    rintro e w1 ⟨rfl, f1⟩
    go_wp2_with fail
    go_ret
    exact ⟨rfl, f1⟩

/-- The law, for every number and all lists. -/
theorem vMain_calls (n : Int) {u v x : Value} {xs : List StepM} {fs : List UInt8} {picks : List Int}
    (hl : StepsAt (fun k => k < w.heap.size) w u xs) (hf : BytesAt (fun k => k < w.heap.size) w v fs) (hp : IntsAt (fun k => k < w.heap.size) w x picks) (lf : fs.length ≤ 9223372036854775807) (hok : ∀ x ∈ xs, StepOk x) :
    Calls Tryz.prog 3 #[.int .i64 n, u, v, x] w fun e w' => e = .returned (.bool true) ∧ Fr [] w w' := by
  by_cases h1 : 20 ≤ n ∧ n ≤ 120
  · by_cases h2 : xs.length ≤ 12 ∧ picks.length ≤ 40
    · exact vMain_good vSanity_calls n h1.1 h1.2 (fun k h => h) hl hf hp h2.1 h2.2 lf hok
    · obtain ⟨A, ca, rfl, _⟩ := id hl
      obtain ⟨C, cc, rfl, _⟩ := id hp
      exact vMain_long n h1.1 h1.2 A C _ _ _ _ v (by omega)
  · exact vMain_bad n (by omega) u v x
end
end Go.Proofs.YtcnhlemenpgkbaaGreatDoor
/- Scripts among the journal's arguments: what their data say of the memory. -/
namespace Go.Proofs.YtcnhlemenpgkbaaGreatDoor
set_option linter.unusedSimpArgs false
set_option linter.unusedVariables false
set_option linter.unnecessarySimpa false
open Go.RowKit M Go.ChangeShapes Go.Deep

section
variable {H : Type} {enc : TypeId × Value → H} {W : World} {sp : Nat → Bool} {held : Bool}

theorem cells_four {w : World} {a : Addr} {cs : List Value} (h : w.cells? 0 a 4 = some cs) : ∃ v0 v1 v2 v3, cs = [v0, v1, v2, v3] ∧ w.cell? (a.add 0) = some v0 ∧ w.cell? (a.add 1) = some v1 ∧ w.cell? (a.add 2) = some v2 ∧ w.cell? (a.add 3) = some v3 := by
  unfold World.cells? at h
  rw [if_pos (Nat.zero_le _)] at h
  have hl := mapM_some_length h
  rw [List.length_range] at hl
  have hg := fun i (hi : i < 4) => mapM_some_get h i i (by rw [List.getElem?_range hi])
  match cs, hl with
  | [v0, v1, v2, v3], _ => exact ⟨v0, v1, v2, v3, rfl, hg 0 (by omega), hg 1 (by omega), hg 2 (by omega), hg 3 (by omega)⟩

theorem ints_of_trod {fuel : Nat} {v : Value} {x : DataW H × List MemPlace} (h : DataW.trod enc Tryz.prog W 0 sp held fuel 24 [v] = some x) :
    ∃ xs, IntsAt (fun k => k < W.heap.size) W v xs ∧ ∀ n ∈ xs, -9223372036854775808 ≤ n ∧ n ≤ 9223372036854775807 := by
  rcases open_ints Tryz.underlying24 Tryz.underlying3 (by kernel_rfl) h with ⟨hcs, _⟩ | ⟨a, len, cap, zs, hcs, _, hl, _, hz, _, hcell, hw⟩
  · obtain rfl : v = .slice none 0 0 := by simpa using hcs
    exact ⟨[], ⟨none, 0, rfl, fun j hj => by simp at hj⟩, by simp⟩
  · obtain rfl : v = .slice (some a) len cap := by simpa using hcs
    have hlz : len ≤ zs.length := by rw [hz]; split <;> omega
    refine ⟨zs.take len, ⟨some a, cap, by rw [List.length_take, Nat.min_eq_left hlz], fun j hj => ?_⟩, fun n hn => ?_⟩
    · rw [List.length_take] at hj
      have hc := hcell j (by omega)
      refine ⟨a, rfl, ?_, ?_⟩
      · have := World.block_lt_of_cell? _ _ hc
        rwa [add_block] at this
      · rw [hc, List.getElem_take]
        simp [List.getD, show j < zs.length by omega]
    · exact bounds_i64 (hw n (List.mem_of_mem_take hn))

theorem bytes_of_trod {fuel : Nat} {v : Value} {x : DataW H × List MemPlace} (h : DataW.trod enc Tryz.prog W 0 sp held fuel 23 [v] = some x) :
    ∃ fs : List UInt8, BytesAt (fun k => k < W.heap.size) W v fs ∧ fs.length ≤ 9223372036854775807 := by
  rcases open_ints Tryz.underlying23 Tryz.underlying5 (by kernel_rfl) h with ⟨hcs, _⟩ | ⟨a, len, cap, zs, hcs, _, hl, hm, hz, _, hcell, hw⟩
  · obtain rfl : v = .slice none 0 0 := by simpa using hcs
    exact ⟨[], ⟨none, 0, rfl, fun j x hj => by simp at hj⟩, by simp⟩
  · obtain rfl : v = .slice (some a) len cap := by simpa using hcs
    have hlz : len ≤ zs.length := by rw [hz]; split <;> omega
    have hlen : ((zs.take len).map fun z => UInt8.ofNat z.toNat).length = len := by rw [List.length_map, List.length_take, Nat.min_eq_left hlz]
    unfold maxLen at hm
    refine ⟨(zs.take len).map fun z => UInt8.ofNat z.toNat, ⟨some a, cap, by rw [hlen], fun j x hj => ?_⟩, by rw [hlen]; omega⟩
    have hjl : j < len := by
      rcases Nat.lt_or_ge j len with h | h
      · exact h
      · rw [List.getElem?_eq_none (by rw [hlen]; exact h)] at hj; cases hj
    have hc := hcell j (by omega)
    have hwj := bounds_u8 (hw (zs.getD j 0) (by rw [List.getD, List.getElem?_eq_getElem (by omega)]; exact List.getElem_mem _))
    have hx : x = UInt8.ofNat (zs.getD j 0).toNat := by
      rw [List.getElem?_map, List.getElem?_take, if_pos hjl] at hj
      rw [List.getD, List.getElem?_eq_getElem (by omega)] at hwj ⊢
      rw [List.getElem?_eq_getElem (by omega)] at hj
      simpa using hj.symm
    refine ⟨a, rfl, ?_, ?_⟩
    · have := World.block_lt_of_cell? _ _ hc
      rwa [add_block] at this
    · rw [hc, hx]
      have : ((UInt8.ofNat (zs.getD j 0).toNat).toNat : Int) = zs.getD j 0 := by rw [UInt8.toNat_ofNat']; omega
      rw [this]

theorem step_of_trod {fuel : Nat} {a : Addr} {cs : List Value} {x : DataW H × List MemPlace} (hc : W.cells? 0 a 4 = some cs) (h : DataW.trod enc Tryz.prog W 0 sp held fuel 32 cs = some x) :
    ∃ (o : StepM) (sv : Value), (W.cell? (a.add 0) = some (.int .i64 o.kind) ∧ W.cell? (a.add 1) = some (.int .i64 o.n) ∧ W.cell? (a.add 2) = some (.int .u8 o.fill.toNat) ∧ W.cell? (a.add 3) = some sv) ∧
      IntsAt (fun k => k < W.heap.size) W sv o.sizes ∧ StepOk o := by
  obtain ⟨v0, v1, v2, v3, rfl, c0, c1, c2, c3⟩ := cells_four hc
  obtain ⟨xs, n, _, _, _, hlen, hf⟩ := DataW.trod_struct Tryz.underlying32 h
  have e1 : Tryz.prog.cellsOf 3 = 1 := by kernel_rfl
  have e2 : Tryz.prog.cellsOf 24 = 1 := by kernel_rfl
  have e3 : Tryz.prog.cellsOf 5 = 1 := by kernel_rfl
  have hg : ∀ i, i < 4 → ∃ y, xs[i]? = some y := fun i hi => ⟨xs[i]'(by rw [hlen]; exact hi), List.getElem?_eq_getElem _⟩
  obtain ⟨y0, g0⟩ := hg 0 (by omega)
  obtain ⟨y1, g1⟩ := hg 1 (by omega)
  obtain ⟨y2, g2⟩ := hg 2 (by omega)
  obtain ⟨y3, g3⟩ := hg 3 (by omega)
  have t0 : DataW.trod enc Tryz.prog W 0 sp held n 3 (([v0, v1, v2, v3].drop 0).take (Tryz.prog.cellsOf 3)) = xs[0]? := hf 0 _ rfl
  have t1 : DataW.trod enc Tryz.prog W 0 sp held n 3 (([v0, v1, v2, v3].drop 1).take (Tryz.prog.cellsOf 3)) = xs[1]? := hf 1 _ rfl
  have t2 : DataW.trod enc Tryz.prog W 0 sp held n 5 (([v0, v1, v2, v3].drop 2).take (Tryz.prog.cellsOf 5)) = xs[2]? := hf 2 _ rfl
  have t3 : DataW.trod enc Tryz.prog W 0 sp held n 24 (([v0, v1, v2, v3].drop 3).take (Tryz.prog.cellsOf 24)) = xs[3]? := hf 3 _ rfl
  rw [g0] at t0
  rw [g1] at t1
  rw [g2] at t2
  rw [g3] at t3
  simp only [e1, e2, e3, List.drop_zero, List.drop_succ_cons, List.take_succ_cons, List.take_zero] at t0 t1 t2 t3
  obtain ⟨k, hk, _, _⟩ := DataW.trod_int Tryz.underlying3 t0
  obtain ⟨m, hm, _, wm⟩ := DataW.trod_int Tryz.underlying3 t1
  obtain ⟨b, hb, _, wb⟩ := DataW.trod_int Tryz.underlying5 t2
  obtain ⟨ss, hss, wss⟩ := ints_of_trod t3
  obtain rfl : v0 = .int .i64 k := by simpa using hk
  obtain rfl : v1 = .int .i64 m := by simpa using hm
  obtain rfl : v2 = .int .u8 b := by simpa using hb
  have hb' := bounds_u8 wb
  refine ⟨⟨k, m, UInt8.ofNat b.toNat, ss⟩, v3, ⟨c0, c1, ?_, c3⟩, hss, bounds_i64 wm, wss⟩
  rw [c2]
  have : ((UInt8.ofNat b.toNat).toNat : Int) = b := by rw [UInt8.toNat_ofNat']; omega
  rw [this]

theorem steps_of_trod {v : Value} {d : DataW H} {ps : List MemPlace} (h : DataW.Trod enc Tryz.prog W 0 sp held 22 v d ps) (hv : ∃ a len cap, v = .slice a len cap) :
    ∃ ops : List StepM, StepsAt (fun k => k < W.heap.size) W v ops ∧ ∀ o ∈ ops, StepOk o := by
  obtain ⟨a0, l0, c0, rfl⟩ := hv
  obtain ⟨fuel, hf⟩ := h
  have e5 : Tryz.prog.cellsOf 32 = 4 := by kernel_rfl
  rcases open_slice Tryz.underlying22 hf with ⟨hcs, _⟩ | ⟨a, len, cap, m, n, D, Pl, hcs, _, hl, _, hm, _, hel⟩
  · simp [Value.cells] at hcs
    obtain ⟨rfl, rfl, rfl⟩ := hcs
    exact ⟨[], ⟨none, 0, rfl, fun i o ho => by simp at ho⟩, by simp⟩
  · simp [Value.cells] at hcs
    obtain ⟨rfl, rfl, rfl⟩ := hcs
    rw [e5] at hel
    have hml : l0 ≤ m := by rw [hm]; split <;> omega
    have each : ∀ i, i < l0 → ∃ q : StepM × Value, (W.cell? ((a.add (i * 4)).add 0) = some (.int .i64 q.1.kind) ∧ W.cell? ((a.add (i * 4)).add 1) = some (.int .i64 q.1.n) ∧ W.cell? ((a.add (i * 4)).add 2) = some (.int .u8 q.1.fill.toNat) ∧ W.cell? ((a.add (i * 4)).add 3) = some q.2) ∧
        IntsAt (fun k => k < W.heap.size) W q.2 q.1.sizes ∧ StepOk q.1 := by
      intro i hi
      obtain ⟨cs', h1, h2⟩ := hel i (by omega)
      obtain ⟨o, sv, r⟩ := step_of_trod h1 h2
      exact ⟨(o, sv), r⟩
    haveI : Inhabited (StepM × Value) := ⟨(⟨0, 0, 0, []⟩, .slice none 0 0)⟩
    obtain ⟨f, hf'⟩ := choose_lt each
    refine ⟨(List.range l0).map fun i => (f i).1, ⟨some a, c0, by simp, fun i o ho => ?_⟩, fun o ho => ?_⟩
    · rw [List.getElem?_map] at ho
      have hi : i < l0 := by
        rcases Nat.lt_or_ge i l0 with h | h
        · exact h
        · rw [List.getElem?_eq_none (by simpa using h)] at ho; cases ho
      rw [List.getElem?_range hi] at ho
      obtain rfl : (f i).1 = o := Option.some.inj ho
      obtain ⟨⟨k0, k1, k2, k3⟩, hp, _⟩ := hf' i hi
      obtain ⟨b, off, spot⟩ := a
      have hs : spot = none := by
        have := World.cell?_spot (hf' 0 (by omega)).1.1
        simpa [Addr.add] using this
      subst hs
      rw [Addr.add_add, Go.WideShapes.add_plain] at k0 k1 k2 k3
      exact ⟨b, off, (f i).2, rfl, World.block_lt_of_cell? _ _ k0, ⟨k0, by rw [← Nat.add_assoc] at k1; exact k1, by rw [← Nat.add_assoc] at k2; exact k2, by rw [← Nat.add_assoc] at k3; exact k3⟩, hp⟩
    · obtain ⟨i, hi, rfl⟩ := List.mem_map.1 ho
      rw [List.mem_range] at hi
      exact (hf' i hi).2.2
end
end Go.Proofs.YtcnhlemenpgkbaaGreatDoor
