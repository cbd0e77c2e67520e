/- Laws of the walk for whole arrays, for the map of what is pending, for blocks under names. -/
import Derived.Test.YtpoagpaglocpeaaRep
namespace Go.Proofs.Ytpoagpaglocpeaa
set_option linter.unusedSimpArgs false
set_option linter.unusedVariables false
set_option linter.unnecessarySimpa false
open Go.RowKit M

section
variable {P : Program} {ops : Array Oper} {Q : Exit → Act → World → Prop} {a : Act} {w : World} {rest : List Oper} {o : Oper}

/-- An operation whose run is known. -/
theorem wpL_val {v : Value} {w' : World} (hg : o.guard = none) (hrun : (execOp a.eval o).run P w = .ok (.value v) w') (h : wpList P ops Q rest (a.put o.dst v) w') :
    wpList P ops Q (o :: rest) a w :=
  wpList_plain hg fun K hK => by
    unfold Oper.wp
    rw [hrun]
    exact hK _ _ h
theorem wpL_skip {w' : World} (hg : o.guard = none) (hrun : (execOp a.eval o).run P w = .ok .skip w') (h : wpList P ops Q rest (a.put o.dst undef) w') :
    wpList P ops Q (o :: rest) a w :=
  wpList_plain hg fun K hK => by
    unfold Oper.wp
    rw [hrun]
    exact hK _ _ h

theorem run_zeroValue {T : TypeId} {z : Value} (hz : (P.info? T).map (·.zero) = some (some z)) : (zeroValue T).run P w = .ok z w := by
  cases hq : P.info? T with
  | none => simp [hq] at hz
  | some i =>
    have hz' : i.zero = some z := by simpa [hq] using hz
    simp [zeroValue, typeInfo, Sem.run_bind, hq, hz']

/-- The walk stands still here: the next operation is met by hand. -/
def Hold (p : Prop) : Prop := p
theorem unhold {p : Prop} (h : p) : Hold p := h
theorem wpL_stop (h : Hold (wpList P ops Q (o :: rest) a w)) : wpList P ops Q (o :: rest) a w := h

/-- A new variable of a type of several cells. -/
theorem wpL_alloc (hg : o.guard = none) (T : TypeId) (ho : o.op = .alloc T) (z : Array Value) (hz : (P.info? T).map (·.zero) = some (some (.agg z)))
    (h : ∀ w', w'.heap[w.heap.size]? = some (.cells z T (0, 0)) → Fr [] w w' → w'.heap.size = w.heap.size + 1 → wpList P ops Q rest (a.put o.dst (.pointer (some ⟨w.heap.size, 0, none⟩))) w') : wpList P ops Q (o :: rest) a w := by
  refine wpL_val hg (w' := w.alloc (.cells z T)) ?_ (h _ (heap_alloc_new _ _) ((Fr.refl _ _).alloc _) (by simp))
  unfold execOp
  simp only [ho, Instr.alloc, Sem.run_bind, run_zeroValue hz, Result.andThen_ok]
  rfl

/-- A struct or an array put into a new variable. -/
theorem wpL_box (hg : o.guard = none) (T : TypeId) (x : Operand) (ho : o.op = .box T x) (vs : Array Value) (hx : a.eval x = .agg vs)
    (h : ∀ w', w'.heap[w.heap.size]? = some (.cells vs T (0, 0)) → Fr [] w w' → w'.heap.size = w.heap.size + 1 → wpList P ops Q rest (a.put o.dst (.pointer (some ⟨w.heap.size, 0, none⟩))) w') : wpList P ops Q (o :: rest) a w := by
  refine wpL_val hg (w' := w.alloc (.cells vs T)) ?_ (h _ (heap_alloc_new _ _) ((Fr.refl _ _).alloc _) (by simp))
  unfold execOp
  simp only [ho, hx, Instr.box]
  rfl

theorem run_isAgg {T : TypeId} {d : TypeDesc} (hu : P.underlying T = some d) (hd : (match d with | .struct _ | .array _ _ => true | _ => false) = true) : (isAgg T).run P w = .ok true w := by
  unfold isAgg
  rw [Sem.run_bind, run_underlying hu w]
  cases d <;> simp_all
theorem run_sizeOf {T : TypeId} {n : Nat} (hi : (P.info? T).map (·.size) = some n) : (sizeOf T).run P w = .ok n w := by
  cases hq : P.info? T with
  | none => simp [hq] at hi
  | some i =>
    have hs : i.size = n := by simpa [hq] using hi
    simp [sizeOf, typeInfo, Sem.run_bind, hq, hs]

theorem addr_add (g off j : Nat) : (⟨g, off, none⟩ : Addr).add j = ⟨g, off + j, none⟩ := by unfold Addr.add; split <;> simp_all

/-- A whole array, read from the midst of a block. -/
theorem run_loadVar_mid (g off : Nat) (t ty : TypeId) (cs : Array Value) (vs : List Value) (fr : Nat × Nat) (d : TypeDesc) (hg : w.heap[g]? = some (.cells cs t fr))
    (hu : P.underlying ty = some d) (hd : (match d with | .struct _ | .array _ _ => true | _ => false) = true) (hi : (P.info? ty).map (·.size) = some vs.length)
    (hv : ∀ j, j < vs.length → cs[off + j]? = vs[j]?) :
    (loadVar ty ⟨g, off, none⟩).run P w = .ok (.agg vs.toArray) w := by
  have hl := run_loadCells_list (P := P) w ⟨g, off, none⟩ vs (fun j v hj => by
    rw [addr_add, cell_of_row w g _ cs t fr hg, hv j (List.getElem?_eq_some_iff.1 hj).1]; exact hj)
  simp [loadVar, Sem.run_bind, run_isAgg hu hd, run_sizeOf hi, hl]

theorem wpL_load (hgd : o.guard = none) (ty : TypeId) (x : Operand) (ho : o.op = .load ty x)
    (g off : Nat) (hx : a.eval x = .pointer (some ⟨g, off, none⟩)) (t : TypeId) (cs : Array Value) (vs : List Value) (fr : Nat × Nat) (d : TypeDesc) (hg : w.heap[g]? = some (.cells cs t fr))
    (hu : P.underlying ty = some d) (hd : (match d with | .struct _ | .array _ _ => true | _ => false) = true) (hi : (P.info? ty).map (·.size) = some vs.length)
    (hv : ∀ j, j < vs.length → cs[off + j]? = vs[j]?)
    (h : wpList P ops Q rest (a.put o.dst (.agg vs.toArray)) w) : wpList P ops Q (o :: rest) a w := by
  refine wpL_val hgd ?_ h
  unfold execOp
  simp only [ho, hx, Instr.loadAt, Instr.sureAddr, Sem.run_bind, Sem.run_pure, Result.andThen_ok, run_loadVar_mid g off t ty cs vs fr d hg hu hd hi hv]

/-- A whole array, stored into the midst of a block. -/
theorem wpL_store (hgd : o.guard = none) (ty : TypeId) (x y : Operand) (ho : o.op = .store ty x y) (hdst : o.dst = none)
    (g off : Nat) (hx : a.eval x = .pointer (some ⟨g, off, none⟩)) (vs : List Value) (hy : a.eval y = .agg vs.toArray) (t : TypeId) (cs : Array Value) (hg : w.heap[g]? = some (.cells cs t (0, 0)))
    (hi : (P.info? ty).map (·.size) = some vs.length) (hfit : off + vs.length ≤ cs.size) (h1 : ∀ v ∈ vs, v.oneCell' = true)
    (h : ∀ w', w'.heap[g]? = some (.cells (cs.toList.take off ++ vs ++ cs.toList.drop (off + vs.length)).toArray t (0, 0)) → Fr [g] w w' → w'.heap.size = w.heap.size → wpList P ops Q rest a w') : wpList P ops Q (o :: rest) a w := by
  refine wpL_skip hgd (w' := w.setRow g (cs.toList.take (off + 0) ++ vs ++ cs.toList.drop (off + 0 + vs.length)).toArray) ?_ ?_
  · unfold execOp
    have hst := run_storeCells_at P g off t vs 0 cs w hg (by omega) h1
    simp only [ho, hx, hy, Instr.storeAt, Instr.sureAddr, storeVar, Value.cells, Sem.run_bind, Sem.run_pure, Result.andThen_ok, run_sizeOf hi]
    simp [hst]
  · rw [hdst]
    exact h _ (setRow_heap w g _ _ t _ hg) ((Fr.refl _ _).setRow (.inl (by simp)) _) (by simp)

/-- A whole array, stored over a whole block. -/
theorem wpL_store0 (hgd : o.guard = none) (ty : TypeId) (x y : Operand) (ho : o.op = .store ty x y) (hdst : o.dst = none)
    (g : Nat) (hx : a.eval x = .pointer (some ⟨g, 0, none⟩)) (vs : List Value) (hy : a.eval y = .agg vs.toArray) (t : TypeId) (cs : Array Value) (hg : w.heap[g]? = some (.cells cs t (0, 0)))
    (hi : (P.info? ty).map (·.size) = some vs.length) (hfit : vs.length = cs.size) (h1 : ∀ v ∈ vs, v.oneCell' = true)
    (h : ∀ w', w'.heap[g]? = some (.cells vs.toArray t (0, 0)) → Fr [g] w w' → w'.heap.size = w.heap.size → wpList P ops Q rest a w') : wpList P ops Q (o :: rest) a w :=
  wpL_store hgd ty x y ho hdst g 0 hx vs hy t cs hg hi (by omega) h1 fun w' hw => h w' (by
    rw [hw, List.drop_of_length_le (by simp; omega)]; simp)

/-- The map of what is pending, looked into. -/
theorem findNow_none (n : Int) : ∀ (l : List Ent) (k : Nat), (∀ x ∈ l, (x.i : Int) ≠ n) → Instr.findNow (.int .i64) (.int .i64 n) (l.map ent) k = some none
  | [], _, _ => rfl
  | x :: l, k, h => by
    have hx : (n == (x.i : Int)) = false := beq_eq_false_iff_ne.2 (fun e => h x (by simp) e.symm)
    simp only [List.map_cons, Instr.findNow, Instr.sameNow, ent, if_true, hx]
    exact findNow_none n l (k + 1) (fun y hy => h y (by simp [hy]))
theorem findNow_some (x : Ent) : ∀ (l : List Ent) (k : Nat), x ∈ l → (l.map Ent.i).Nodup → ∃ j, l[j]? = some x ∧ Instr.findNow (.int .i64) (.int .i64 x.i) (l.map ent) k = some (some (k + j, .agg (cellsOf x.b).toArray))
  | [], _, h, _ => by simp at h
  | y :: l, k, h, hn => by
    simp only [List.map_cons, List.nodup_cons] at hn
    by_cases e : y = x
    · subst e
      exact ⟨0, rfl, by simp [Instr.findNow, Instr.sameNow, ent]⟩
    · have hx : x ∈ l := by simpa [Ne.symm e] using h
      have hne : ((x.i : Int) == (y.i : Int)) = false := by
        have : x.i ≠ y.i := fun e' => hn.1 (e' ▸ List.mem_map_of_mem (f := Ent.i) hx)
        exact beq_eq_false_iff_ne.2 (by omega)
      obtain ⟨j, hj, hf⟩ := findNow_some x l (k + 1) hx hn.2
      refine ⟨j + 1, by simpa using hj, ?_⟩
      simp only [List.map_cons, Instr.findNow, Instr.sameNow, ent, if_true, hne]
      rw [show k + (j + 1) = k + 1 + j from by omega]
      exact hf

theorem run_getObj_map {r : Nat} {es : Array MapEntry} {c : Nat} (h : w.heap[r]? = some (.map es c)) : (getObj r).run P w = .ok (.map es c) w := by
  simp [getObj, Sem.run, h]

theorem run_checkKey_int {K : TypeId} (hK : P.underlying K = some (.int .i64)) (e : Bool) (n : Nat) (x : Int) : (Instr.checkKey e (n + 1) K (.int .i64 x)).run P w = .ok () w := by
  simp [Instr.checkKey, run_underlying hK]

theorem run_findKey_int {K : TypeId} (hK : P.underlying K = some (.int .i64)) (n : Int) (es : List MapEntry) (r : Option (Nat × Value)) (h : Instr.findNow (.int .i64) (.int .i64 n) es 0 = some r) :
    (Instr.findKey K (.int .i64 n) es).run P w = .ok r w := by
  simp [Instr.findKey, run_underlying hK, h]

def pendOf (pg : List Pg) (n : Int) : Option Bytes := if 0 ≤ n then (pg[n.toNat]?).bind Pg.new else none

theorem find_pend {l : List Ent} {c : Nat} {pg : List Pg} (h : Pends l c pg) (n : Int) :
    (∃ b, pendOf pg n = some b ∧ ∃ j x, l[j]? = some x ∧ (x.i : Int) = n ∧ x.b = b ∧ Instr.findNow (.int .i64) (.int .i64 n) (l.map ent) 0 = some (some (j, .agg (cellsOf b).toArray))) ∨
    (pendOf pg n = none ∧ (∀ x ∈ l, (x.i : Int) ≠ n) ∧ Instr.findNow (.int .i64) (.int .i64 n) (l.map ent) 0 = some none) := by
  by_cases hex : ∃ x ∈ l, (x.i : Int) = n
  · obtain ⟨x, hx, rfl⟩ := hex
    obtain ⟨j, hj, hf⟩ := findNow_some x l 0 hx h.keys
    refine .inl ⟨x.b, ?_, j, x, hj, rfl, rfl, by simpa using hf⟩
    simpa [pendOf] using (h.fits x.i x.b).1 ⟨x, hx, rfl, rfl⟩
  · have hno : ∀ x ∈ l, (x.i : Int) ≠ n := fun x hx e => hex ⟨x, hx, e⟩
    refine .inr ⟨?_, hno, findNow_none n l 0 hno⟩
    unfold pendOf
    split
    · rename_i h0
      cases hb : (pg[n.toNat]?).bind Pg.new with
      | none => rfl
      | some b =>
        obtain ⟨x, hx, hi, _⟩ := (h.fits n.toNat b).2 hb
        exact absurd (by omega) (hno x hx)
    · rfl

theorem wpL_lookup_pend (hgd : o.guard = none) (T : TypeId) (x y : Operand) (ho : o.op = .lookup T x y true) (K E : TypeId) (hT : P.underlying T = some (.map K E)) (hK : P.underlying K = some (.int .i64))
    (z : Array Value) (hz : (P.info? E).map (·.zero) = some (some (.agg z))) (r : Nat) (hx : a.eval x = .map (some r)) (n : Int) (hy : a.eval y = .int .i64 n) (l : List Ent) (c : Nat) (pg : List Pg)
    (hr : w.heap[r]? = some (.map (l.map ent).toArray c)) (hP : Pends l c pg)
    (h : wpList P ops Q rest (a.put o.dst (match pendOf pg n with | some b => .tuple #[.agg (cellsOf b).toArray, .bool true] | none => .tuple #[.agg z, .bool false])) w) : wpList P ops Q (o :: rest) a w := by
  refine wpL_val hgd ?_ h
  unfold execOp
  simp only [ho, hx, hy, Instr.lookup, Sem.run_bind, run_underlying hT, Result.andThen_ok, run_getObj_map hr, Sem.run_pure, run_checkKey_int hK]
  rcases find_pend hP n with ⟨b, hb, j, _, _, _, _, hf⟩ | ⟨hb, _, hf⟩
  · simp [run_findKey_int hK n _ _ hf, hb]
  · simp [run_findKey_int hK n _ _ hf, hb, run_zeroValue hz]
end

/-- A function's end, where the result is an array that lies in a variable. -/
theorem bodyPost_row {P : Program} {fn : Func} {R : Ending → World → Prop} {a : Act} {w : World} (p : Tmp) (T : TypeId) (hres : fn.results = #[.cell p T]) (g : Nat) (hp : a.tmps.getD p undef = .pointer (some ⟨g, 0, none⟩))
    (t : TypeId) (vs : List Value) (fr : Nat × Nat) (d : TypeDesc) (hg : w.heap[g]? = some (.cells vs.toArray t fr)) (hu : P.underlying T = some d) (hd : (match d with | .struct _ | .array _ _ => true | _ => false) = true)
    (hi : (P.info? T).map (·.size) = some vs.length) (hdf : a.defers = []) (hR : R (.returned (.agg vs.toArray)) w) : bodyPost P fn R .ret a w := by
  exact bodyPost_ret (v := .agg vs.toArray) (results_cell_row hres a.tmps w g t vs.toArray fr d hp hg hu hd (by simpa using hi)) hdf hR

/-- The rows of a disk. -/
theorem rows_length : ∀ (pg : List Pg), (∀ p ∈ pg, p.old.length = 128) → (rows pg).length = 128 * pg.length
  | [], _ => rfl
  | p :: r, h => by
    have := rows_length r (fun q hq => h q (by simp [hq]))
    simp only [rows, List.flatMap_cons, List.length_append, cellsOf_length, h p (by simp), List.length_cons] at this ⊢
    omega
theorem rows_get : ∀ (pg : List Pg) (i : Nat) (p : Pg), (∀ p ∈ pg, p.old.length = 128) → pg[i]? = some p → ∀ j, j < 128 → (rows pg)[i * 128 + j]? = (cellsOf p.old)[j]?
  | [], _, _, _, h, _, _ => by simp at h
  | q :: r, 0, p, ho, h, j, hj => by
    obtain rfl : q = p := by simpa using h
    simp only [rows, List.flatMap_cons, Nat.zero_mul, Nat.zero_add]
    rw [List.getElem?_append_left (by rw [cellsOf_length, ho q (by simp)]; exact hj)]
  | q :: r, i + 1, p, ho, h, j, hj => by
    have ih := rows_get r i p (fun x hx => ho x (by simp [hx])) (by simpa using h) j hj
    simp only [rows, List.flatMap_cons] at ih ⊢
    rw [List.getElem?_append_right (by rw [cellsOf_length, ho q (by simp)]; omega), cellsOf_length, ho q (by simp)]
    rw [show (i + 1) * 128 + j - 128 = i * 128 + j from by omega]
    exact ih

theorem cellsOf_one (s : Bytes) : ∀ v ∈ cellsOf s, v.oneCell' = true := by
  intro v hv
  simp only [cellsOf, List.mem_map] at hv
  obtain ⟨x, _, rfl⟩ := hv
  rfl

end Go.Proofs.Ytpoagpaglocpeaa
