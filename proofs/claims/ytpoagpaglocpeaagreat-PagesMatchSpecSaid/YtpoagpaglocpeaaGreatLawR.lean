/- Scripts among the arguments: what their data say of the memory. -/
import Derived.Test.YtpoagpaglocpeaaGreatLawM
import Derived.Deep.Slices
import Derived.OpenShut
namespace Go.Proofs.YtpoagpaglocpeaaGreat
set_option linter.unusedSimpArgs false
set_option linter.unusedVariables false
set_option linter.unnecessarySimpa false
open Go.RowKit M Go.ChangeShapes Go.Deep

section
variable {H : Type} {enc : TypeId × Value → H} {W : World} {sp : Nat → Bool} {held : Bool}

theorem cells_five {w : World} {a : Addr} {cs : List Value} (h : w.cells? 0 a 5 = some cs) : ∃ v0 v1 v2 v3 v4, cs = [v0, v1, v2, v3, v4] ∧ w.cell? (a.add 0) = some v0 ∧ w.cell? (a.add 1) = some v1 ∧ w.cell? (a.add 2) = some v2 ∧ w.cell? (a.add 3) = some v3 ∧ w.cell? (a.add 4) = some v4 := by
  unfold World.cells? at h
  rw [if_pos (Nat.zero_le _)] at h
  have hl := mapM_some_length h
  rw [List.length_range] at hl
  have hg := fun i (hi : i < 5) => mapM_some_get h i i (by rw [List.getElem?_range hi])
  match cs, hl with
  | [v0, v1, v2, v3, v4], _ => exact ⟨v0, v1, v2, v3, v4, rfl, hg 0 (by omega), hg 1 (by omega), hg 2 (by omega), hg 3 (by omega), hg 4 (by omega)⟩

theorem ints_of_trod {fuel : Nat} {v : Value} {x : DataW H × List MemPlace} (h : DataW.trod enc Tryz.prog W 0 sp held fuel 47 [v] = some x) :
    ∃ xs, IntsAt (fun k => k < W.heap.size) W v xs ∧ ∀ n ∈ xs, -9223372036854775808 ≤ n ∧ n ≤ 9223372036854775807 := by
  rcases open_ints Tryz.underlying47 Tryz.underlying3 (by kernel_rfl) h with ⟨hcs, _⟩ | ⟨a, len, cap, zs, hcs, _, hl, _, hz, _, hcell, hw⟩
  · obtain rfl : v = .slice none 0 0 := by simpa using hcs
    exact ⟨[], ⟨none, 0, rfl, fun j hj => by simp at hj⟩, by simp⟩
  · obtain rfl : v = .slice (some a) len cap := by simpa using hcs
    have hlz : len ≤ zs.length := by rw [hz]; split <;> omega
    refine ⟨zs.take len, ⟨some a, cap, by rw [List.length_take, Nat.min_eq_left hlz], fun j hj => ?_⟩, fun n hn => ?_⟩
    · rw [List.length_take] at hj
      have hc := hcell j (by omega)
      refine ⟨a, rfl, ?_, ?_⟩
      · have := World.block_lt_of_cell? _ _ hc
        rwa [add_block] at this
      · rw [hc, List.getElem_take]
        simp [List.getD, show j < zs.length by omega]
    · exact bounds_i64 (hw n (List.mem_of_mem_take hn))

theorem op_of_trod {fuel : Nat} {a : Addr} {cs : List Value} {x : DataW H × List MemPlace} (hc : W.cells? 0 a 5 = some cs) (h : DataW.trod enc Tryz.prog W 0 sp held fuel 49 cs = some x) :
    ∃ (o : OpM) (pv kv : Value), (W.cell? (a.add 0) = some (.int .i64 o.kind) ∧ W.cell? (a.add 1) = some pv ∧ W.cell? (a.add 2) = some (.int .u8 o.byte.toNat) ∧ W.cell? (a.add 3) = some (.int .i64 o.n) ∧ W.cell? (a.add 4) = some kv) ∧
      IntsAt (fun k => k < W.heap.size) W pv o.pages ∧ IntsAt (fun k => k < W.heap.size) W kv o.picks ∧ OpOk o := by
  obtain ⟨v0, v1, v2, v3, v4, rfl, c0, c1, c2, c3, c4⟩ := cells_five hc
  obtain ⟨xs, n, _, _, _, hlen, hf⟩ := DataW.trod_struct Tryz.underlying49 h
  have e1 : Tryz.prog.cellsOf 3 = 1 := by kernel_rfl
  have e2 : Tryz.prog.cellsOf 47 = 1 := by kernel_rfl
  have e3 : Tryz.prog.cellsOf 5 = 1 := by kernel_rfl
  have hg : ∀ i, i < 5 → ∃ y, xs[i]? = some y := fun i hi => ⟨xs[i]'(by rw [hlen]; exact hi), List.getElem?_eq_getElem _⟩
  obtain ⟨y0, g0⟩ := hg 0 (by omega)
  obtain ⟨y1, g1⟩ := hg 1 (by omega)
  obtain ⟨y2, g2⟩ := hg 2 (by omega)
  obtain ⟨y3, g3⟩ := hg 3 (by omega)
  obtain ⟨y4, g4⟩ := hg 4 (by omega)
  have t0 : DataW.trod enc Tryz.prog W 0 sp held n 3 (([v0, v1, v2, v3, v4].drop 0).take (Tryz.prog.cellsOf 3)) = xs[0]? := hf 0 _ rfl
  have t1 : DataW.trod enc Tryz.prog W 0 sp held n 47 (([v0, v1, v2, v3, v4].drop 1).take (Tryz.prog.cellsOf 47)) = xs[1]? := hf 1 _ rfl
  have t2 : DataW.trod enc Tryz.prog W 0 sp held n 5 (([v0, v1, v2, v3, v4].drop 2).take (Tryz.prog.cellsOf 5)) = xs[2]? := hf 2 _ rfl
  have t3 : DataW.trod enc Tryz.prog W 0 sp held n 3 (([v0, v1, v2, v3, v4].drop 3).take (Tryz.prog.cellsOf 3)) = xs[3]? := hf 3 _ rfl
  have t4 : DataW.trod enc Tryz.prog W 0 sp held n 47 (([v0, v1, v2, v3, v4].drop 4).take (Tryz.prog.cellsOf 47)) = xs[4]? := hf 4 _ rfl
  rw [g0] at t0
  rw [g1] at t1
  rw [g2] at t2
  rw [g3] at t3
  rw [g4] at t4
  simp only [e1, e2, e3, List.drop_zero, List.drop_succ_cons, List.take_succ_cons, List.take_zero] at t0 t1 t2 t3 t4
  obtain ⟨k, hk, _, _⟩ := DataW.trod_int Tryz.underlying3 t0
  obtain ⟨b, hb, _, wb⟩ := DataW.trod_int Tryz.underlying5 t2
  obtain ⟨m, hm, _, wm⟩ := DataW.trod_int Tryz.underlying3 t3
  obtain ⟨ps, hps, wps⟩ := ints_of_trod t1
  obtain ⟨ks, hks, _⟩ := ints_of_trod t4
  obtain rfl : v0 = .int .i64 k := by simpa using hk
  obtain rfl : v2 = .int .u8 b := by simpa using hb
  obtain rfl : v3 = .int .i64 m := by simpa using hm
  have hb' := bounds_u8 wb
  refine ⟨⟨k, ps, UInt8.ofNat b.toNat, m, ks⟩, v1, v4, ⟨c0, c1, ?_, c3, c4⟩, hps, hks, (bounds_i64 wm).2, wps⟩
  rw [c2]
  have : ((UInt8.ofNat b.toNat).toNat : Int) = b := by rw [UInt8.toNat_ofNat']; omega
  rw [this]

theorem ops_of_trod {v : Value} {d : DataW H} {ps : List MemPlace} (h : DataW.Trod enc Tryz.prog W 0 sp held 37 v d ps) (hv : ∃ a len cap, v = .slice a len cap) :
    ∃ ops : List OpM, OpsAt (fun k => k < W.heap.size) W v ops ∧ ∀ o ∈ ops, OpOk o := by
  obtain ⟨a0, l0, c0, rfl⟩ := hv
  obtain ⟨fuel, hf⟩ := h
  have e5 : Tryz.prog.cellsOf 49 = 5 := by kernel_rfl
  rcases open_slice Tryz.underlying37 hf with ⟨hcs, _⟩ | ⟨a, len, cap, m, n, D, Pl, hcs, _, hl, _, hm, _, hel⟩
  · simp [Value.cells] at hcs
    obtain ⟨rfl, rfl, rfl⟩ := hcs
    exact ⟨[], ⟨none, 0, rfl, fun i o ho => by simp at ho⟩, by simp⟩
  · simp [Value.cells] at hcs
    obtain ⟨rfl, rfl, rfl⟩ := hcs
    rw [e5] at hel
    have hml : l0 ≤ m := by rw [hm]; split <;> omega
    have each : ∀ i, i < l0 → ∃ q : OpM × Value × Value, (W.cell? ((a.add (i * 5)).add 0) = some (.int .i64 q.1.kind) ∧ W.cell? ((a.add (i * 5)).add 1) = some q.2.1 ∧ W.cell? ((a.add (i * 5)).add 2) = some (.int .u8 q.1.byte.toNat) ∧ W.cell? ((a.add (i * 5)).add 3) = some (.int .i64 q.1.n) ∧ W.cell? ((a.add (i * 5)).add 4) = some q.2.2) ∧
        IntsAt (fun k => k < W.heap.size) W q.2.1 q.1.pages ∧ IntsAt (fun k => k < W.heap.size) W q.2.2 q.1.picks ∧ OpOk q.1 := by
      intro i hi
      obtain ⟨cs', h1, h2⟩ := hel i (by omega)
      obtain ⟨o, pv, kv, r⟩ := op_of_trod h1 h2
      exact ⟨(o, pv, kv), r⟩
    haveI : Inhabited (OpM × Value × Value) := ⟨(⟨0, [], 0, 0, []⟩, .slice none 0 0, .slice none 0 0)⟩
    obtain ⟨f, hf'⟩ := choose_lt each
    refine ⟨(List.range l0).map fun i => (f i).1, ⟨some a, c0, by simp, fun i o ho => ?_⟩, fun o ho => ?_⟩
    · rw [List.getElem?_map] at ho
      have hi : i < l0 := by
        rcases Nat.lt_or_ge i l0 with h | h
        · exact h
        · rw [List.getElem?_eq_none (by simpa using h)] at ho; cases ho
      rw [List.getElem?_range hi] at ho
      obtain rfl : (f i).1 = o := Option.some.inj ho
      obtain ⟨⟨k0, k1, k2, k3, k4⟩, hp, hk, _⟩ := hf' i hi
      obtain ⟨b, off, spot⟩ := a
      have hs : spot = none := by
        have := World.cell?_spot (hf' 0 (by omega)).1.1
        simpa [Addr.add] using this
      subst hs
      rw [Addr.add_add, Go.WideShapes.add_plain] at k0 k1 k2 k3 k4
      exact ⟨b, off, (f i).2.1, (f i).2.2, rfl, World.block_lt_of_cell? _ _ k0, World.block_lt_of_cell? _ _ k0, ⟨k0, by rw [← Nat.add_assoc] at k1; exact k1, by rw [← Nat.add_assoc] at k2; exact k2, by rw [← Nat.add_assoc] at k3; exact k3, by rw [← Nat.add_assoc] at k4; exact k4⟩, hp, hk⟩
    · obtain ⟨i, hi, rfl⟩ := List.mem_map.1 ho
      rw [List.mem_range] at hi
      exact (hf' i hi).2.2.2
end

end Go.Proofs.YtpoagpaglocpeaaGreat
