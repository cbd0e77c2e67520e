/- Laws of the walk for whole arrays, for the map of what is pending, for blocks under names. -/
import Derived.Test.YtcnhlemenpgkbaaGreatDoorRep
import Derived.Laws.BytesArg
import Derived.StillTailTactics
namespace Go.Proofs.YtcnhlemenpgkbaaGreatDoor
set_option linter.unusedSimpArgs false
set_option linter.unusedVariables false
set_option linter.unnecessarySimpa false
open Go.RowKit M

section
variable {P : Program} {ops : Array Oper} {Q : Exit → Act → World → Prop} {a : Act} {w : World} {rest : List Oper} {o : Oper}

/-- An operation whose run is known. -/
theorem wpL_val {v : Value} {w' : World} (hg : o.guard = none) (hrun : (execOp a.eval o).run P w = .ok (.value v) w') (h : wpList P ops Q rest (a.put o.dst v) w') :
    wpList P ops Q (o :: rest) a w :=
  wpList_plain hg fun K hK => by
    unfold Oper.wp
    rw [hrun]
    exact hK _ _ h
theorem wpL_skip {w' : World} (hg : o.guard = none) (hrun : (execOp a.eval o).run P w = .ok .skip w') (h : wpList P ops Q rest (a.put o.dst undef) w') :
    wpList P ops Q (o :: rest) a w :=
  wpList_plain hg fun K hK => by
    unfold Oper.wp
    rw [hrun]
    exact hK _ _ h

theorem run_zeroValue {T : TypeId} {z : Value} (hz : (P.info? T).map (·.zero) = some (some z)) : (zeroValue T).run P w = .ok z w := by
  cases hq : P.info? T with
  | none => simp [hq] at hz
  | some i =>
    have hz' : i.zero = some z := by simpa [hq] using hz
    simp [zeroValue, typeInfo, Sem.run_bind, hq, hz']

/-- The walk stands still here: the next operation is met by hand. -/
def Hold (p : Prop) : Prop := p
theorem unhold {p : Prop} (h : p) : Hold p := h
theorem wpL_stop (h : Hold (wpList P ops Q (o :: rest) a w)) : wpList P ops Q (o :: rest) a w := h

/-- A new variable of a type of several cells. -/
theorem wpL_alloc (hg : o.guard = none) (T : TypeId) (ho : o.op = .alloc T) (z : Array Value) (hz : (P.info? T).map (·.zero) = some (some (.agg z)))
    (h : ∀ w', w'.heap[w.heap.size]? = some (.cells z T (0, 0)) → Fr [] w w' → w'.heap.size = w.heap.size + 1 → wpList P ops Q rest (a.put o.dst (.pointer (some ⟨w.heap.size, 0, none⟩))) w') : wpList P ops Q (o :: rest) a w := by
  refine wpL_val hg (w' := w.alloc (.cells z T)) ?_ (h _ (heap_alloc_new _ _) ((Fr.refl _ _).alloc _) (by simp))
  unfold execOp
  simp only [ho, Instr.alloc, Sem.run_bind, run_zeroValue hz, Result.andThen_ok]
  rfl

/-- A struct or an array put into a new variable. -/
theorem wpL_box (hg : o.guard = none) (T : TypeId) (x : Operand) (ho : o.op = .box T x) (vs : Array Value) (hx : a.eval x = .agg vs)
    (h : ∀ w', w'.heap[w.heap.size]? = some (.cells vs T (0, 0)) → Fr [] w w' → w'.heap.size = w.heap.size + 1 → wpList P ops Q rest (a.put o.dst (.pointer (some ⟨w.heap.size, 0, none⟩))) w') : wpList P ops Q (o :: rest) a w := by
  refine wpL_val hg (w' := w.alloc (.cells vs T)) ?_ (h _ (heap_alloc_new _ _) ((Fr.refl _ _).alloc _) (by simp))
  unfold execOp
  simp only [ho, hx, Instr.box]
  rfl

theorem run_isAgg {T : TypeId} {d : TypeDesc} (hu : P.underlying T = some d) (hd : (match d with | .struct _ | .array _ _ => true | _ => false) = true) : (isAgg T).run P w = .ok true w := by
  unfold isAgg
  rw [Sem.run_bind, run_underlying hu w]
  cases d <;> simp_all
theorem run_sizeOf {T : TypeId} {n : Nat} (hi : (P.info? T).map (·.size) = some n) : (sizeOf T).run P w = .ok n w := by
  cases hq : P.info? T with
  | none => simp [hq] at hi
  | some i =>
    have hs : i.size = n := by simpa [hq] using hi
    simp [sizeOf, typeInfo, Sem.run_bind, hq, hs]

theorem addr_add (g off j : Nat) : (⟨g, off, none⟩ : Addr).add j = ⟨g, off + j, none⟩ := by unfold Addr.add; split <;> simp_all

/-- A whole array, read from the midst of a block. -/
theorem run_loadVar_mid (g off : Nat) (t ty : TypeId) (cs : Array Value) (vs : List Value) (fr : Nat × Nat) (d : TypeDesc) (hg : w.heap[g]? = some (.cells cs t fr))
    (hu : P.underlying ty = some d) (hd : (match d with | .struct _ | .array _ _ => true | _ => false) = true) (hi : (P.info? ty).map (·.size) = some vs.length)
    (hv : ∀ j, j < vs.length → cs[off + j]? = vs[j]?) :
    (loadVar ty ⟨g, off, none⟩).run P w = .ok (.agg vs.toArray) w := by
  have hl := run_loadCells_list (P := P) w ⟨g, off, none⟩ vs (fun j v hj => by
    rw [addr_add, cell_of_row w g _ cs t fr hg, hv j (List.getElem?_eq_some_iff.1 hj).1]; exact hj)
  simp [loadVar, Sem.run_bind, run_isAgg hu hd, run_sizeOf hi, hl]

theorem wpL_load (hgd : o.guard = none) (ty : TypeId) (x : Operand) (ho : o.op = .load ty x)
    (g off : Nat) (hx : a.eval x = .pointer (some ⟨g, off, none⟩)) (t : TypeId) (cs : Array Value) (vs : List Value) (fr : Nat × Nat) (d : TypeDesc) (hg : w.heap[g]? = some (.cells cs t fr))
    (hu : P.underlying ty = some d) (hd : (match d with | .struct _ | .array _ _ => true | _ => false) = true) (hi : (P.info? ty).map (·.size) = some vs.length)
    (hv : ∀ j, j < vs.length → cs[off + j]? = vs[j]?)
    (h : wpList P ops Q rest (a.put o.dst (.agg vs.toArray)) w) : wpList P ops Q (o :: rest) a w := by
  refine wpL_val hgd ?_ h
  unfold execOp
  simp only [ho, hx, Instr.loadAt, Instr.sureAddr, Sem.run_bind, Sem.run_pure, Result.andThen_ok, run_loadVar_mid g off t ty cs vs fr d hg hu hd hi hv]

/-- A whole array, stored into the midst of a block. -/
theorem wpL_store (hgd : o.guard = none) (ty : TypeId) (x y : Operand) (ho : o.op = .store ty x y) (hdst : o.dst = none)
    (g off : Nat) (hx : a.eval x = .pointer (some ⟨g, off, none⟩)) (vs : List Value) (hy : a.eval y = .agg vs.toArray) (t : TypeId) (cs : Array Value) (hg : w.heap[g]? = some (.cells cs t (0, 0)))
    (hi : (P.info? ty).map (·.size) = some vs.length) (hfit : off + vs.length ≤ cs.size) (h1 : ∀ v ∈ vs, v.oneCell' = true)
    (h : ∀ w', w'.heap[g]? = some (.cells (cs.toList.take off ++ vs ++ cs.toList.drop (off + vs.length)).toArray t (0, 0)) → Fr [g] w w' → w'.heap.size = w.heap.size → wpList P ops Q rest a w') : wpList P ops Q (o :: rest) a w := by
  refine wpL_skip hgd (w' := w.setRow g (cs.toList.take (off + 0) ++ vs ++ cs.toList.drop (off + 0 + vs.length)).toArray) ?_ ?_
  · unfold execOp
    have hst := run_storeCells_at P g off t vs 0 cs w hg (by omega) h1
    simp only [ho, hx, hy, Instr.storeAt, Instr.sureAddr, storeVar, Value.cells, Sem.run_bind, Sem.run_pure, Result.andThen_ok, run_sizeOf hi]
    simp [hst]
  · rw [hdst]
    exact h _ (setRow_heap w g _ _ t _ hg) ((Fr.refl _ _).setRow (.inl (by simp)) _) (by simp)

/-- A whole array, stored over a whole block. -/
theorem wpL_store0 (hgd : o.guard = none) (ty : TypeId) (x y : Operand) (ho : o.op = .store ty x y) (hdst : o.dst = none)
    (g : Nat) (hx : a.eval x = .pointer (some ⟨g, 0, none⟩)) (vs : List Value) (hy : a.eval y = .agg vs.toArray) (t : TypeId) (cs : Array Value) (hg : w.heap[g]? = some (.cells cs t (0, 0)))
    (hi : (P.info? ty).map (·.size) = some vs.length) (hfit : vs.length = cs.size) (h1 : ∀ v ∈ vs, v.oneCell' = true)
    (h : ∀ w', w'.heap[g]? = some (.cells vs.toArray t (0, 0)) → Fr [g] w w' → w'.heap.size = w.heap.size → wpList P ops Q rest a w') : wpList P ops Q (o :: rest) a w :=
  wpL_store hgd ty x y ho hdst g 0 hx vs hy t cs hg hi (by omega) h1 fun w' hw => h w' (by
    rw [hw, List.drop_of_length_le (by simp; omega)]; simp)

/-- The map of what is pending, looked into. -/
theorem findNow_none (n : Int) : ∀ (l : List Ent) (k : Nat), (∀ x ∈ l, (x.i : Int) ≠ n) → Instr.findNow (.int .i64) (.int .i64 n) (l.map ent) k = some none
  | [], _, _ => rfl
  | x :: l, k, h => by
    have hx : (n == (x.i : Int)) = false := beq_eq_false_iff_ne.2 (fun e => h x (by simp) e.symm)
    simp only [List.map_cons, Instr.findNow, Instr.sameNow, ent, if_true, hx]
    exact findNow_none n l (k + 1) (fun y hy => h y (by simp [hy]))
theorem findNow_some (x : Ent) : ∀ (l : List Ent) (k : Nat), x ∈ l → (l.map Ent.i).Nodup → ∃ j, l[j]? = some x ∧ Instr.findNow (.int .i64) (.int .i64 x.i) (l.map ent) k = some (some (k + j, .agg (cellsOf x.b).toArray))
  | [], _, h, _ => by simp at h
  | y :: l, k, h, hn => by
    simp only [List.map_cons, List.nodup_cons] at hn
    by_cases e : y = x
    · subst e
      exact ⟨0, rfl, by simp [Instr.findNow, Instr.sameNow, ent]⟩
    · have hx : x ∈ l := by simpa [Ne.symm e] using h
      have hne : ((x.i : Int) == (y.i : Int)) = false := by
        have : x.i ≠ y.i := fun e' => hn.1 (e' ▸ List.mem_map_of_mem (f := Ent.i) hx)
        exact beq_eq_false_iff_ne.2 (by omega)
      obtain ⟨j, hj, hf⟩ := findNow_some x l (k + 1) hx hn.2
      refine ⟨j + 1, by simpa using hj, ?_⟩
      simp only [List.map_cons, Instr.findNow, Instr.sameNow, ent, if_true, hne]
      rw [show k + (j + 1) = k + 1 + j from by omega]
      exact hf

theorem run_getObj_map {r : Nat} {es : Array MapEntry} {c : Nat} (h : w.heap[r]? = some (.map es c)) : (getObj r).run P w = .ok (.map es c) w := by
  simp [getObj, Sem.run, h]

theorem run_checkKey_int {K : TypeId} (hK : P.underlying K = some (.int .i64)) (e : Bool) (n : Nat) (x : Int) : (Instr.checkKey e (n + 1) K (.int .i64 x)).run P w = .ok () w := by
  simp [Instr.checkKey, run_underlying hK]

theorem run_findKey_int {K : TypeId} (hK : P.underlying K = some (.int .i64)) (n : Int) (es : List MapEntry) (r : Option (Nat × Value)) (h : Instr.findNow (.int .i64) (.int .i64 n) es 0 = some r) :
    (Instr.findKey K (.int .i64 n) es).run P w = .ok r w := by
  simp [Instr.findKey, run_underlying hK, h]

def pendOf (pg : List Pg) (n : Int) : Option Bytes := if 0 ≤ n then (pg[n.toNat]?).bind Pg.new else none

theorem find_pend {l : List Ent} {c : Nat} {pg : List Pg} (h : Pends l c pg) (n : Int) :
    (∃ b, pendOf pg n = some b ∧ ∃ j x, l[j]? = some x ∧ (x.i : Int) = n ∧ x.b = b ∧ Instr.findNow (.int .i64) (.int .i64 n) (l.map ent) 0 = some (some (j, .agg (cellsOf b).toArray))) ∨
    (pendOf pg n = none ∧ (∀ x ∈ l, (x.i : Int) ≠ n) ∧ Instr.findNow (.int .i64) (.int .i64 n) (l.map ent) 0 = some none) := by
  by_cases hex : ∃ x ∈ l, (x.i : Int) = n
  · obtain ⟨x, hx, rfl⟩ := hex
    obtain ⟨j, hj, hf⟩ := findNow_some x l 0 hx h.keys
    refine .inl ⟨x.b, ?_, j, x, hj, rfl, rfl, by simpa using hf⟩
    simpa [pendOf] using (h.fits x.i x.b).1 ⟨x, hx, rfl, rfl⟩
  · have hno : ∀ x ∈ l, (x.i : Int) ≠ n := fun x hx e => hex ⟨x, hx, e⟩
    refine .inr ⟨?_, hno, findNow_none n l 0 hno⟩
    unfold pendOf
    split
    · rename_i h0
      cases hb : (pg[n.toNat]?).bind Pg.new with
      | none => rfl
      | some b =>
        obtain ⟨x, hx, hi, _⟩ := (h.fits n.toNat b).2 hb
        exact absurd (by omega) (hno x hx)
    · rfl

theorem wpL_lookup_pend (hgd : o.guard = none) (T : TypeId) (x y : Operand) (ho : o.op = .lookup T x y true) (K E : TypeId) (hT : P.underlying T = some (.map K E)) (hK : P.underlying K = some (.int .i64))
    (z : Array Value) (hz : (P.info? E).map (·.zero) = some (some (.agg z))) (r : Nat) (hx : a.eval x = .map (some r)) (n : Int) (hy : a.eval y = .int .i64 n) (l : List Ent) (c : Nat) (pg : List Pg)
    (hr : w.heap[r]? = some (.map (l.map ent).toArray c)) (hP : Pends l c pg)
    (h : wpList P ops Q rest (a.put o.dst (match pendOf pg n with | some b => .tuple #[.agg (cellsOf b).toArray, .bool true] | none => .tuple #[.agg z, .bool false])) w) : wpList P ops Q (o :: rest) a w := by
  refine wpL_val hgd ?_ h
  unfold execOp
  simp only [ho, hx, hy, Instr.lookup, Sem.run_bind, run_underlying hT, Result.andThen_ok, run_getObj_map hr, Sem.run_pure, run_checkKey_int hK]
  rcases find_pend hP n with ⟨b, hb, j, _, _, _, _, hf⟩ | ⟨hb, _, hf⟩
  · simp [run_findKey_int hK n _ _ hf, hb]
  · simp [run_findKey_int hK n _ _ hf, hb, run_zeroValue hz]
end

/-- A function's end, where the result is an array that lies in a variable. -/
theorem bodyPost_row {P : Program} {fn : Func} {R : Ending → World → Prop} {a : Act} {w : World} (p : Tmp) (T : TypeId) (hres : fn.results = #[.cell p T]) (g : Nat) (hp : a.tmps.getD p undef = .pointer (some ⟨g, 0, none⟩))
    (t : TypeId) (vs : List Value) (fr : Nat × Nat) (d : TypeDesc) (hg : w.heap[g]? = some (.cells vs.toArray t fr)) (hu : P.underlying T = some d) (hd : (match d with | .struct _ | .array _ _ => true | _ => false) = true)
    (hi : (P.info? T).map (·.size) = some vs.length) (hdf : a.defers = []) (hR : R (.returned (.agg vs.toArray)) w) : bodyPost P fn R .ret a w := by
  exact bodyPost_ret (v := .agg vs.toArray) (results_cell_row hres a.tmps w g t vs.toArray fr d hp hg hu hd (by simpa using hi)) hdf hR

/-- The rows of a disk. -/
theorem rows_length : ∀ (pg : List Pg), (∀ p ∈ pg, p.old.length = 128) → (rows pg).length = 128 * pg.length
  | [], _ => rfl
  | p :: r, h => by
    have := rows_length r (fun q hq => h q (by simp [hq]))
    simp only [rows, List.flatMap_cons, List.length_append, cellsOf_length, h p (by simp), List.length_cons] at this ⊢
    omega
theorem rows_get : ∀ (pg : List Pg) (i : Nat) (p : Pg), (∀ p ∈ pg, p.old.length = 128) → pg[i]? = some p → ∀ j, j < 128 → (rows pg)[i * 128 + j]? = (cellsOf p.old)[j]?
  | [], _, _, _, h, _, _ => by simp at h
  | q :: r, 0, p, ho, h, j, hj => by
    obtain rfl : q = p := by simpa using h
    simp only [rows, List.flatMap_cons, Nat.zero_mul, Nat.zero_add]
    rw [List.getElem?_append_left (by rw [cellsOf_length, ho q (by simp)]; exact hj)]
  | q :: r, i + 1, p, ho, h, j, hj => by
    have ih := rows_get r i p (fun x hx => ho x (by simp [hx])) (by simpa using h) j hj
    simp only [rows, List.flatMap_cons] at ih ⊢
    rw [List.getElem?_append_right (by rw [cellsOf_length, ho q (by simp)]; omega), cellsOf_length, ho q (by simp)]
    rw [show (i + 1) * 128 + j - 128 = i * 128 + j from by omega]
    exact ih

theorem cellsOf_one (s : Bytes) : ∀ v ∈ cellsOf s, v.oneCell' = true := by
  intro v hv
  simp only [cellsOf, List.mem_map] at hv
  obtain ⟨x, _, rfl⟩ := hv
  rfl

end Go.Proofs.YtcnhlemenpgkbaaGreatDoor
/- More laws of the walk: texts out of bytes, copies into a page, the map of what is pending written, gone over and cleared. -/
namespace Go.Proofs.YtcnhlemenpgkbaaGreatDoor
set_option linter.unusedSimpArgs false
set_option linter.unusedVariables false
set_option linter.unnecessarySimpa false
open Go.RowKit M

section
variable {P : Program} {ops : Array Oper} {Q : Exit → Act → World → Prop} {a : Act} {w : World} {rest : List Oper} {o : Oper}

theorem strOf_nums (s : Bytes) : strOfNums (s.map fun x => (x.toNat : Int)) = ⟨s.toArray⟩ := by
  have h : (strOfNums (s.map fun x => (x.toNat : Int))).data.toList = s := by
    rw [strOfNums_data, List.map_map]
    conv => rhs; rw [← List.map_id s]
    refine List.map_congr_left fun x _ => ?_
    simp
  cases hq : strOfNums (s.map fun x => (x.toNat : Int)) with
  | mk d => rw [hq] at h; simp only at h; rw [← h]

/-- A text out of bytes. -/
theorem wpL_text (hgd : o.guard = none) (src dst : TypeId) (x : Operand) (ho : o.op = .convert src dst x) (e : TypeId) (hs : P.underlying src = some (.slice e)) (he : P.underlying e = some (.int .u8)) (hd : P.underlying dst = some .string)
    (g off len cap : Nat) (hx : a.eval x = .slice (some ⟨g, off, none⟩) len cap) (t : TypeId) (cs : Array Value) (fr : Nat × Nat) (s : Bytes) (hg : w.heap[g]? = some (.cells cs t fr)) (hl : s.length = len)
    (hv : ∀ j, j < len → cs[off + j]? = (cellsOf s)[j]?)
    (h : wpList P ops Q rest (a.put o.dst (str s)) w) : wpList P ops Q (o :: rest) a w := by
  refine wpL_val hgd ?_ h
  have hc := run_convert_bytes_arg (P := P) w src e hs he g off len cap (s.map fun x => (x.toNat : Int)) (by simpa using hl) (fun i hi => by
    rw [cell_of_row w g _ cs t fr hg, hv i hi]
    have hi' : i < s.length := by omega
    simp [cellsOf, List.getD, hi']) dst hd
  unfold execOp
  simp only [ho, hx, Sem.run_bind, hc, Result.andThen_ok, strOf_nums]
  rfl

/-- A whole array, read within a region that draws its order. -/
theorem wpStill_load {K : Act → Prop} (hgd : o.guard = none) (ty : TypeId) (x : Operand) (ho : o.op = .load ty x)
    (g off : Nat) (hx : a.eval x = .pointer (some ⟨g, off, none⟩)) (t : TypeId) (cs : Array Value) (vs : List Value) (fr : Nat × Nat) (d : TypeDesc) (hg : w.heap[g]? = some (.cells cs t fr))
    (hu : P.underlying ty = some d) (hd : (match d with | .struct _ | .array _ _ => true | _ => false) = true) (hi : (P.info? ty).map (·.size) = some vs.length)
    (hv : ∀ j, j < vs.length → cs[off + j]? = vs[j]?)
    (h : wpStill P ops w K rest (a.put o.dst (.agg vs.toArray))) : wpStill P ops w K (o :: rest) a := by
  refine wpStill_step fun K' hK => ?_
  have hw : Region.wanted o (yielded ops a.tmps) = true := by simp [Region.wanted, hgd]
  rw [if_pos hw]
  have hr : (execOp a.eval o).run P w = .ok (.value (.agg vs.toArray)) w := by
    unfold execOp
    simp only [ho, hx, Instr.loadAt, Instr.sureAddr, Sem.run_bind, Sem.run_pure, Result.andThen_ok, run_loadVar_mid g off t ty cs vs fr d hg hu hd hi hv]
  simp only [Oper.still, Oper.stillUpon, hr]
  exact ⟨trivial, hK _ h⟩

/-- A text copied over the begin of a row of bytes. -/
theorem run_copy_str (dT sT ty elem : TypeId) (g off dLen dCap : Nat) (cur : Array Value) (t : TypeId) (s : Bytes)
    (hu : P.underlying dT = some (.slice elem)) (hs : (P.info? elem).map (·.size) = some 1) (hg : w.heap[g]? = some (.cells cur t (0, 0))) (hn : s.length ≤ dLen) (hfit : off + s.length ≤ cur.size) :
    (Builtin.copy_ #[dT, sT] ty #[.slice (some ⟨g, off, none⟩) dLen dCap, .string ⟨s.toArray⟩]).run P w =
      .ok (goInt s.length) (w.setRow g (cur.toList.take off ++ cellsOf s ++ cur.toList.drop (off + (cellsOf s).length)).toArray) := by
  have hst := run_storeCells_at P g off t (cellsOf s) 0 cur w hg (by rw [cellsOf_length]; omega) (cellsOf_one s)
  have hm : Nat.min (ByteArray.mk s.toArray).size dLen = s.length := by
    show min s.toArray.size dLen = _
    simp; omega
  have hx : ((ByteArray.mk s.toArray).extract 0 s.length).data.map (fun b => Value.int .u8 b.toNat) = (cellsOf s).toArray := by
    apply Array.ext'
    simp [cellsOf]
  have hsz := run_sizeOf (P := P) (w := w) hs
  simp only [Builtin.copy_, List.getElem?_toArray, List.getElem?_cons_zero, List.getElem?_cons_succ, Sem.run_bind, run_underlying hu, Result.andThen_ok, Builtin.lenOf, Sem.run_pure, hsz, hm, Builtin.firstCells, hx, Nat.add_zero] at hst ⊢
  simp [hst]

theorem wpL_copy_str (hgd : o.guard = none) (x y : Operand) (dT sT elem : TypeId) (ho : o.op = .call { callee := .builtin .copy, args := #[x, y], argTypes := #[dT, sT] })
    (hu : P.underlying dT = some (.slice elem)) (hs : (P.info? elem).map (·.size) = some 1) (g off dLen dCap : Nat) (hx : a.eval x = .slice (some ⟨g, off, none⟩) dLen dCap) (s : Bytes) (hy : a.eval y = .string ⟨s.toArray⟩)
    (t : TypeId) (cur : Array Value) (hg : w.heap[g]? = some (.cells cur t (0, 0))) (hn : s.length ≤ dLen) (hfit : off + s.length ≤ cur.size)
    (h : ∀ w', w'.heap[g]? = some (.cells (cur.toList.take off ++ cellsOf s ++ cur.toList.drop (off + s.length)).toArray t (0, 0)) → Fr [g] w w' → w'.heap.size = w.heap.size → wpList P ops Q rest (a.put o.dst (goInt s.length)) w') :
    wpList P ops Q (o :: rest) a w := by
  refine wpL_val hgd (v := goInt s.length) (w' := w.setRow g (cur.toList.take off ++ cellsOf s ++ cur.toList.drop (off + (cellsOf s).length)).toArray) ?_ ?_
  · have := run_copy_str (P := P) (w := w) dT sT o.type elem g off dLen dCap cur t s hu hs hg hn hfit
    simp only [List.append_assoc] at this ⊢
    simp [execOp, ho, resolve, invoke, builtin, hx, hy, this, Result.andThen]
  · rw [cellsOf_length]
    exact h _ (setRow_heap w g _ _ t _ hg) ((Fr.refl _ _).setRow (.inl (by simp)) _) (by simp)

/-- Bytes copied into a row of bytes. -/
theorem wpL_copy_row (hgd : o.guard = none) (x y : Operand) (dT sT elem : TypeId) (ho : o.op = .call { callee := .builtin .copy, args := #[x, y], argTypes := #[dT, sT] })
    (hu : P.underlying dT = some (.slice elem)) (hs : (P.info? elem).map (·.size) = some 1) (g off dLen dCap sg soff sLen sCap : Nat) (hx : a.eval x = .slice (some ⟨g, off, none⟩) dLen dCap) (hy : a.eval y = .slice (some ⟨sg, soff, none⟩) sLen sCap)
    (s : Bytes) (t : TypeId) (cur : Array Value) (hg : w.heap[g]? = some (.cells cur t (0, 0))) (t2 : TypeId) (src : Array Value) (fr : Nat × Nat) (hsg : w.heap[sg]? = some (.cells src t2 fr)) (hn : s.length = Nat.min sLen dLen)
    (hsrc : ∀ j, j < s.length → src[soff + j]? = (cellsOf s)[j]?) (hfit : off + s.length ≤ cur.size)
    (h : ∀ w', w'.heap[g]? = some (.cells (cur.toList.take off ++ cellsOf s ++ cur.toList.drop (off + s.length)).toArray t (0, 0)) → Fr [g] w w' → w'.heap.size = w.heap.size → wpList P ops Q rest (a.put o.dst (goInt s.length)) w') :
    wpList P ops Q (o :: rest) a w := by
  refine wpL_val hgd (v := goInt s.length) (w' := w.setRow g (cur.toList.take off ++ cellsOf s ++ cur.toList.drop (off + (cellsOf s).length)).toArray) ?_ ?_
  · have := run_copy_row (P := P) w dT sT o.type elem g off dLen dCap ⟨sg, soff, none⟩ sLen sCap cur t (cellsOf s) hu hs hg (by rw [cellsOf_length]; exact hn) (fun j v hj => by
      rw [addr_add, cell_of_row w sg _ src t2 fr hsg, hsrc j (by have := (List.getElem?_eq_some_iff.1 hj).1; rwa [cellsOf_length] at this)]; exact hj) (by rw [cellsOf_length]; exact hfit) (cellsOf_one s)
    rw [cellsOf_length] at this ⊢
    simp only [List.append_assoc] at this ⊢
    simp [execOp, ho, resolve, invoke, builtin, hx, hy, this, Result.andThen]
  · rw [cellsOf_length]
    exact h _ (setRow_heap w g _ _ t _ hg) ((Fr.refl _ _).setRow (.inl (by simp)) _) (by simp)

/-! The map of what is pending -/
def setNew (pg : List Pg) (n : Nat) (b : Bytes) : List Pg := pg.modify n fun p => { p with new := some b }

theorem setNew_get (pg : List Pg) (n i : Nat) (b : Bytes) (hn : n < pg.length) : ((setNew pg n b)[i]?).bind Pg.new = if i = n then some b else (pg[i]?).bind Pg.new := by
  unfold setNew
  rw [List.getElem?_modify]
  by_cases e : i = n
  · subst e
    simp [hn]
  · have e' : ¬ n = i := fun x => e x.symm
    rw [if_neg e]
    simp only [if_neg e']
    cases pg[i]? <;> rfl

theorem Pends.push {l : List Ent} {c : Nat} {pg : List Pg} (h : Pends l c pg) (n : Nat) (b : Bytes) (hn : n < pg.length) (hno : ∀ x ∈ l, (x.i : Int) ≠ n) : Pends (l ++ [⟨n, b, c⟩]) (c + 1) (setNew pg n b) where
  keys := by
    simp only [List.map_append, List.map_cons, List.map_nil, List.nodup_append, List.nodup_cons, List.not_mem_nil, not_false_eq_true, List.nodup_nil, and_true, List.mem_cons, or_false, true_and]
    refine ⟨h.keys, fun a ha b' hb' => ?_⟩
    obtain ⟨x, hx, rfl⟩ := List.mem_map.1 ha
    subst hb'
    have := hno x hx
    omega
  borns := by
    simp only [List.map_append, List.map_cons, List.map_nil, List.nodup_append, List.nodup_cons, List.not_mem_nil, not_false_eq_true, List.nodup_nil, and_true, List.mem_cons, or_false, true_and]
    refine ⟨h.borns, fun a ha b' hb' => ?_⟩
    obtain ⟨x, hx, rfl⟩ := List.mem_map.1 ha
    subst hb'
    have := h.young x hx
    omega
  young := fun x hx => by
    rcases List.mem_append.1 hx with hx | hx
    · have := h.young x hx; omega
    · simp at hx; subst hx; simp
  fits := fun i b' => by
    rw [setNew_get pg n i b hn]
    constructor
    · rintro ⟨x, hx, rfl, rfl⟩
      rcases List.mem_append.1 hx with hx | hx
      · rw [if_neg (by have := hno x hx; omega)]
        exact (h.fits x.i x.b).1 ⟨x, hx, rfl, rfl⟩
      · simp at hx; subst hx; simp
    · intro hb
      by_cases e : i = n
      · rw [if_pos e] at hb
        injection hb with hb
        subst e; subst hb
        exact ⟨⟨i, b, c⟩, by simp, rfl, rfl⟩
      · rw [if_neg e] at hb
        obtain ⟨x, hx, h1, h2⟩ := (h.fits i b').2 hb
        exact ⟨x, by simp [hx], h1, h2⟩

theorem nodup_get_eq {α : Type} {l : List α} (h : l.Nodup) {i j : Nat} (hi : i < l.length) (hj : j < l.length) (e : l[i] = l[j]) : i = j := by
  have hp := List.pairwise_iff_getElem.1 h
  rcases Nat.lt_trichotomy i j with x | x | x
  · exact absurd e (hp i j hi hj x)
  · exact x
  · exact absurd e.symm (hp j i hj hi x)
theorem set_same {α : Type} {l : List α} {j : Nat} {v : α} (h : l[j]? = some v) : l.set j v = l := by
  apply List.ext_getElem?
  intro k
  rw [List.getElem?_set]
  split
  · rename_i e
    subst e
    rw [h, if_pos (List.getElem?_eq_some_iff.1 h).1]
  · rfl

theorem Pends.over {l : List Ent} {c : Nat} {pg : List Pg} (h : Pends l c pg) (n : Nat) (b : Bytes) (hn : n < pg.length) {j : Nat} {x : Ent} (hj : l[j]? = some x) (hx : x.i = n) : Pends (l.set j ⟨n, b, x.born⟩) c (setNew pg n b) where
  keys := by
    rw [List.map_set, show ((⟨n, b, x.born⟩ : Ent).i) = x.i from hx.symm, set_same (by simp [hj])]
    exact h.keys
  borns := by
    rw [List.map_set, show ((⟨n, b, x.born⟩ : Ent).born) = x.born from rfl, set_same (by simp [hj])]
    exact h.borns
  young := fun y hy => by
    rcases List.mem_or_eq_of_mem_set hy with hy | rfl
    · exact h.young y hy
    · exact h.young x (List.mem_of_getElem? hj)
  fits := fun i b' => by
    rw [setNew_get pg n i b hn]
    obtain ⟨hjl, hjx⟩ := List.getElem?_eq_some_iff.1 hj
    constructor
    · rintro ⟨y, hy, rfl, rfl⟩
      obtain ⟨k, hk, hky⟩ := List.mem_iff_getElem.1 hy
      rw [List.getElem_set] at hky
      by_cases e : j = k
      · rw [if_pos e] at hky; subst hky; simp
      · rw [if_neg e] at hky
        have hkl : k < l.length := by simpa using hk
        have hne : y.i ≠ n := by
          intro e2
          apply e
          refine nodup_get_eq h.keys (by simpa using hjl) (by simpa using hkl) ?_
          simp only [List.getElem_map, hjx, hky]
          omega
        rw [if_neg hne]
        exact (h.fits y.i y.b).1 ⟨y, hky ▸ List.getElem_mem hkl, rfl, rfl⟩
    · intro hb
      by_cases e : i = n
      · rw [if_pos e] at hb
        injection hb with hb
        subst e; subst hb
        exact ⟨⟨i, b, x.born⟩, List.mem_iff_getElem.2 ⟨j, by simpa using hjl, by simp⟩, rfl, rfl⟩
      · rw [if_neg e] at hb
        obtain ⟨y, hy, h1, h2⟩ := (h.fits i b').2 hb
        obtain ⟨k, hk, hky⟩ := List.mem_iff_getElem.1 hy
        have hjk : j ≠ k := by
          intro e2; subst e2
          rw [hjx] at hky; subst hky; omega
        exact ⟨y, List.mem_iff_getElem.2 ⟨k, by simpa using hk, by rw [List.getElem_set, if_neg hjk]; exact hky⟩, h1, h2⟩

theorem run_setObj_map {r : Nat} {es : Array MapEntry} {c : Nat} (h : w.heap[r]? = some (.map es c)) (o' : Obj) : (setObj r o').run P w = .ok () (w.putObj r o') := by
  simp [setObj, Sem.run, h, World.putObj]

theorem run_mapUpdate_pend (T K E : TypeId) (hT : P.underlying T = some (.map K E)) (hK : P.underlying K = some (.int .i64)) (r n : Nat) (b : Bytes) (l : List Ent) (c : Nat) (pg : List Pg)
    (hr : w.heap[r]? = some (.map (l.map ent).toArray c)) (hP : Pends l c pg) (hn : n < pg.length) :
    ∃ l' c', (Instr.mapUpdate T (.map (some r)) (.int .i64 n) (.agg (cellsOf b).toArray)).run P w = .ok () (w.putObj r (.map (l'.map ent).toArray c')) ∧ Pends l' c' (setNew pg n b) := by
  rcases find_pend hP (n : Int) with ⟨b0, _, j, x, hj, hxi, hxb, hf⟩ | ⟨_, hno, hf⟩
  · have hxn : x.i = n := by omega
    refine ⟨l.set j ⟨n, b, x.born⟩, c, ?_, hP.over n b hn hj hxn⟩
    have hky : (Instr.keyThatStays (.int .i64 (n : Int)) (.int .i64 (n : Int))).run P w = .ok (.int .i64 (n : Int)) w := by simp [Instr.keyThatStays, Instr.sameBits]
    have hget : (((l.map ent).toArray[j]?).map (·.key)).getD (.int .i64 (n : Int)) = .int .i64 (n : Int) := by simp [hj, ent, hxn]
    have hes : (l.map ent).toArray.modify j (fun e => { e with key := .int .i64 (n : Int), val := .agg (cellsOf b).toArray }) = ((l.set j ⟨n, b, x.born⟩).map ent).toArray := by
      apply Array.ext'
      simp only [Array.toList_modify]
      rw [List.map_set]
      apply List.ext_getElem?
      intro k
      rw [List.getElem?_modify, List.getElem?_set]
      by_cases e : j = k
      · subst e
        obtain ⟨hjl, hjx⟩ := List.getElem?_eq_some_iff.1 hj
        simp [ent, hjl, hjx]
      · simp [e]
    simp only [Instr.mapUpdate, Sem.run_bind, run_underlying hT, Result.andThen_ok, run_getObj_map hr, run_checkKey_int hK, run_findKey_int hK n _ _ hf, hget, hky, hes, run_setObj_map hr]
  · refine ⟨l ++ [⟨n, b, c⟩], c + 1, ?_, hP.push n b hn hno⟩
    have hes : (l.map ent).toArray.push { key := .int .i64 (n : Int), val := .agg (cellsOf b).toArray, born := c } = ((l ++ [(⟨n, b, c⟩ : Ent)]).map ent).toArray := by simp [ent]
    simp only [Instr.mapUpdate, Sem.run_bind, run_underlying hT, Result.andThen_ok, run_getObj_map hr, run_checkKey_int hK, run_findKey_int hK n _ _ hf, hes, run_setObj_map hr]

theorem wpL_mapUpdate_pend (hgd : o.guard = none) (T : TypeId) (x y z : Operand) (ho : o.op = .mapUpdate T x y z) (hdst : o.dst = none) (K E : TypeId) (hT : P.underlying T = some (.map K E)) (hK : P.underlying K = some (.int .i64)) (r n : Nat) (b : Bytes)
    (hx : a.eval x = .map (some r)) (hy : a.eval y = .int .i64 n) (hz : a.eval z = .agg (cellsOf b).toArray) (l : List Ent) (c : Nat) (pg : List Pg)
    (hr : w.heap[r]? = some (.map (l.map ent).toArray c)) (hP : Pends l c pg) (hn : n < pg.length)
    (h : ∀ w' l' c', w'.heap[r]? = some (.map (l'.map ent).toArray c') → Pends l' c' (setNew pg n b) → Fr [r] w w' → w'.heap.size = w.heap.size → wpList P ops Q rest a w') : wpList P ops Q (o :: rest) a w := by
  obtain ⟨l', c', hrun, hP'⟩ := run_mapUpdate_pend (P := P) (w := w) T K E hT hK r n b l c pg hr hP hn
  refine wpL_skip hgd (w' := w.putObj r (.map (l'.map ent).toArray c')) ?_ ?_
  · unfold execOp
    simp only [ho, hx, hy, hz, Sem.run_bind, hrun, Result.andThen_ok, Sem.run_pure]
  · rw [hdst]
    exact h _ l' c' (World.putObj_heap_same (lt_of_heap hr)) hP' ((Fr.refl _ _).putObj (.inl (by simp)) _) (by simp)

/-! The greater and the smaller of two numbers; the begin of an array; a look into the map -/
theorem wpL_max (hgd : o.guard = none) (x y : Operand) (T U : TypeId) (ho : o.op = .call { callee := .builtin .max, args := #[x, y], argTypes := #[T, U] }) (m n : Int) (hx : a.eval x = .int .i64 m) (hy : a.eval y = .int .i64 n)
    (h : wpList P ops Q rest (a.put o.dst (.int .i64 (max m n))) w) : wpList P ops Q (o :: rest) a w := by
  refine wpL_val hgd ?_ h
  have hrun : (Builtin.max_ #[T, U] o.type #[.int .i64 m, .int .i64 n]).run P w = .ok (.int .i64 (max m n)) w := by
    have e : (if n > m then n else m) = max m n := by omega
    simp [Builtin.max_, Builtin.max2, e]
  simp [execOp, ho, resolve, invoke, builtin, hx, hy, hrun, Result.andThen]
theorem wpL_min (hgd : o.guard = none) (x y : Operand) (T U : TypeId) (ho : o.op = .call { callee := .builtin .min, args := #[x, y], argTypes := #[T, U] }) (m n : Int) (hx : a.eval x = .int .i64 m) (hy : a.eval y = .int .i64 n)
    (h : wpList P ops Q rest (a.put o.dst (.int .i64 (min m n))) w) : wpList P ops Q (o :: rest) a w := by
  refine wpL_val hgd ?_ h
  have hrun : (Builtin.min_ #[T, U] o.type #[.int .i64 m, .int .i64 n]).run P w = .ok (.int .i64 (min m n)) w := by
    have e : (if n < m then n else m) = min m n := by omega
    simp [Builtin.min_, Builtin.min2, e]
  simp [execOp, ho, resolve, invoke, builtin, hx, hy, hrun, Result.andThen]

/-- An operation within a region that draws its order. -/
theorem wpStill_val {K : Act → Prop} {v : Value} (hgd : o.guard = none) (hr : (execOp a.eval o).run P w = .ok (.value v) w) (h : wpStill P ops w K rest (a.put o.dst v)) : wpStill P ops w K (o :: rest) a := by
  refine wpStill_step fun K' hK => ?_
  have hw : Region.wanted o (yielded ops a.tmps) = true := by simp [Region.wanted, hgd]
  rw [if_pos hw]
  simp only [Oper.still, Oper.stillUpon, hr]
  exact ⟨trivial, hK _ h⟩

theorem run_sliceTo (T : TypeId) (x y : Operand) (ho : o.op = .slice T x none (some y) none) (N : Nat) (E : TypeId) (hT : P.underlying T = some (.array N E)) (hE : (P.info? E).map (·.size) = some 1) (hN : 0 < N)
    (g off : Nat) (hx : a.eval x = .pointer (some ⟨g, off, none⟩)) (n : Nat) (hy : a.eval y = .int .i64 n) (hn : n ≤ N) : (execOp a.eval o).run P w = .ok (.value (.slice (some ⟨g, off, none⟩) n N)) w := by
  have h1 : ¬ N = 0 := by omega
  have h2 : (0 : Int) ≤ (n : Int) ∧ (n : Int) ≤ (N : Int) := by omega
  unfold execOp
  simp only [ho, hx, hy, Instr.sliceAt, Option.map_some, Option.map_none, Sem.run_bind, run_underlying hT, Result.andThen_ok, Instr.sureAddr, Sem.run_pure, Instr.sliceBounds, Instr.sliceBound, asIntOf, h2, and_self, if_true, Int.toNat_natCast, run_sizeOf hE]
  simp [h1, addr_add]

theorem wpL_get_pend (hgd : o.guard = none) (T : TypeId) (x y : Operand) (ho : o.op = .lookup T x y false) (K E : TypeId) (hT : P.underlying T = some (.map K E)) (hK : P.underlying K = some (.int .i64))
    (r : Nat) (hx : a.eval x = .map (some r)) (n : Int) (hy : a.eval y = .int .i64 n) (l : List Ent) (c : Nat) (pg : List Pg)
    (hr : w.heap[r]? = some (.map (l.map ent).toArray c)) (hP : Pends l c pg) (b : Bytes) (hb : pendOf pg n = some b)
    (h : wpList P ops Q rest (a.put o.dst (.agg (cellsOf b).toArray)) w) : wpList P ops Q (o :: rest) a w := by
  refine wpL_val hgd ?_ h
  unfold execOp
  simp only [ho, hx, hy, Instr.lookup, Sem.run_bind, run_underlying hT, Result.andThen_ok, run_getObj_map hr, Sem.run_pure, run_checkKey_int hK]
  rcases find_pend hP n with ⟨b', hb', j, _, _, _, _, hf⟩ | ⟨hb', _, hf⟩
  · obtain rfl : b' = b := by rw [hb] at hb'; injection hb' with e; exact e.symm
    simp [run_findKey_int hK n _ _ hf]
  · rw [hb] at hb'; cases hb'

/-- One text behind another. -/
theorem wpL_cat (hgd : o.guard = none) (x y : Operand) (T U : TypeId) (ho : o.op = .binOp .add T x y U) (s t : Bytes) (hx : a.eval x = .string ⟨s.toArray⟩) (hy : a.eval y = .string ⟨t.toArray⟩) (hl : s.length + t.length ≤ 1000000000)
    (h : wpList P ops Q rest (a.put o.dst (.string ⟨(s ++ t).toArray⟩)) w) : wpList P ops Q (o :: rest) a w := by
  refine wpL_val hgd ?_ h
  have h1 := run_string_add_sum (P := P) (w := w) ⟨s.toArray⟩ ⟨t.toArray⟩ (by show s.toArray.size + t.toArray.size ≤ _; simp; omega)
  rw [ByteArray.mk_append_mk] at h1
  have h2 : (eqGuard .add T x y (.string ⟨s.toArray⟩) (.string ⟨t.toArray⟩)).run P w = .ok () w := by simp [eqGuard]
  unfold execOp
  simp only [ho, hx, hy, Sem.run_bind, h2, Result.andThen_ok, binOp, h1, Sem.run_pure]

/-! Parts of a text -/
theorem str_part (s : Bytes) (m n : Nat) : (⟨s.toArray⟩ : ByteArray).extract m n = ⟨((s.take n).drop m).toArray⟩ := by
  apply ByteArray.ext
  rw [ByteArray.data_extract]
  simp [List.drop_take]

theorem run_bound (n y : Nat) (h : n ≤ y) (c : BoundsCode) : (Instr.sliceBound (.int .i64 n) y c).run P w = .ok n w := by
  have h2 : (0 : Int) ≤ (n : Int) ∧ (n : Int) ≤ (y : Int) := by omega
  simp only [Instr.sliceBound, asIntOf, Sem.run_bind, Sem.run_pure, Result.andThen_ok]
  rw [if_pos h2]
  simp

theorem run_strTo (T : TypeId) (x y : Operand) (ho : o.op = .slice T x none (some y) none) (hT : P.underlying T = some .string) (s : Bytes) (hx : a.eval x = .string ⟨s.toArray⟩) (n : Nat) (hy : a.eval y = .int .i64 n) (hn : n ≤ s.length) :
    (execOp a.eval o).run P w = .ok (.value (.string ⟨(s.take n).toArray⟩)) w := by
  have hs : (ByteArray.mk s.toArray).size = s.length := by show s.toArray.size = _; simp
  unfold execOp
  simp only [ho, hx, hy, Instr.sliceAt, Option.map_some, Option.map_none, Sem.run_bind, run_underlying hT, Result.andThen_ok, Instr.slice, hs, Sem.run_pure, Instr.sliceBounds]
  simp [run_bound _ _ hn, str_part]
theorem run_strFrom (T : TypeId) (x y : Operand) (ho : o.op = .slice T x (some y) none none) (hT : P.underlying T = some .string) (s : Bytes) (hx : a.eval x = .string ⟨s.toArray⟩) (m : Nat) (hy : a.eval y = .int .i64 m) (hm : m ≤ s.length) :
    (execOp a.eval o).run P w = .ok (.value (.string ⟨(s.drop m).toArray⟩)) w := by
  have hs : (ByteArray.mk s.toArray).size = s.length := by show s.toArray.size = _; simp
  unfold execOp
  simp only [ho, hx, hy, Instr.sliceAt, Option.map_some, Option.map_none, Sem.run_bind, run_underlying hT, Result.andThen_ok, Instr.slice, hs, Sem.run_pure, Instr.sliceBounds]
  simp [run_bound _ _ hm, str_part]
theorem run_strMid (T : TypeId) (x y z : Operand) (ho : o.op = .slice T x (some y) (some z) none) (hT : P.underlying T = some .string) (s : Bytes) (hx : a.eval x = .string ⟨s.toArray⟩) (m n : Nat) (hy : a.eval y = .int .i64 m) (hz : a.eval z = .int .i64 n) (hm : m ≤ n) (hn : n ≤ s.length) :
    (execOp a.eval o).run P w = .ok (.value (.string ⟨((s.take n).drop m).toArray⟩)) w := by
  have hs : (ByteArray.mk s.toArray).size = s.length := by show s.toArray.size = _; simp
  unfold execOp
  simp only [ho, hx, hy, hz, Instr.sliceAt, Option.map_some, Option.map_none, Sem.run_bind, run_underlying hT, Result.andThen_ok, Instr.slice, hs, Sem.run_pure, Instr.sliceBounds]
  simp [run_bound _ _ hm, run_bound _ _ hn, str_part]

/-! Texts compared; an operation whose guard lets it by -/
theorem wpL_valg {v : Value} {w' : World} (hw : Region.wanted o (yielded ops a.tmps) = true) (hrun : (execOp a.eval o).run P w = .ok (.value v) w') (h : wpList P ops Q rest (a.put o.dst v) w') :
    wpList P ops Q (o :: rest) a w :=
  wpList_step fun K hK => by
    rw [if_pos hw]
    unfold Oper.wp
    rw [hrun]
    exact hK _ _ h

theorem str_eq_iff (s t : Bytes) : ((⟨s.toArray⟩ : ByteArray).toList == (⟨t.toArray⟩ : ByteArray).toList) = true ↔ s = t := by simp

theorem run_strNe (x y : Operand) (T U : TypeId) (ho : o.op = .binOp .neq T x y U) (s t : Bytes) (hx : a.eval x = .string ⟨s.toArray⟩) (hy : a.eval y = .string ⟨t.toArray⟩) (b : Bool) (hb : b = true ↔ s ≠ t) :
    (execOp a.eval o).run P w = .ok (.value (.bool b)) w := by
  have h2 : (eqGuard .neq T x y (.string ⟨s.toArray⟩) (.string ⟨t.toArray⟩)).run P w = .ok () w := by simp [eqGuard]
  have h3 : (!((⟨s.toArray⟩ : ByteArray).toList == (⟨t.toArray⟩ : ByteArray).toList)) = b := by
    rw [Bool.eq_iff_iff, hb, Bool.not_eq_true', ← Bool.not_eq_true, str_eq_iff]
  unfold execOp
  simp only [ho, hx, hy, Sem.run_bind, h2, Result.andThen_ok, binOp, Op.stringOp, Sem.run_pure, h3]
theorem run_strEq (x y : Operand) (T U : TypeId) (ho : o.op = .binOp .eql T x y U) (s t : Bytes) (hx : a.eval x = .string ⟨s.toArray⟩) (hy : a.eval y = .string ⟨t.toArray⟩) (b : Bool) (hb : b = true ↔ s = t) :
    (execOp a.eval o).run P w = .ok (.value (.bool b)) w := by
  have h2 : (eqGuard .eql T x y (.string ⟨s.toArray⟩) (.string ⟨t.toArray⟩)).run P w = .ok () w := by simp [eqGuard]
  have h3 : ((⟨s.toArray⟩ : ByteArray).toList == (⟨t.toArray⟩ : ByteArray).toList) = b := by
    rw [Bool.eq_iff_iff, hb, str_eq_iff]
  unfold execOp
  simp only [ho, hx, hy, Sem.run_bind, h2, Result.andThen_ok, binOp, Op.stringOp, Sem.run_pure, h3]

end
end Go.Proofs.YtcnhlemenpgkbaaGreatDoor
/- Going over a map: each step hands out some entry that has not come yet, or ends when all have come. -/
namespace Go.Proofs.YtcnhlemenpgkbaaGreatDoor
set_option linter.unusedSimpArgs false
set_option linter.unusedVariables false
set_option linter.unnecessarySimpa false
open Go.RowKit M

section
variable {P : Program} {ops : Array Oper} {Q : Exit → Act → World → Prop} {a : Act} {w : World} {rest : List Oper} {o : Oper}

theorem run_choose_any (n : Nat) (hn : 0 < n) : ∃ k w1, k < n ∧ (w1 = w ∨ w1 = w.drew) ∧ (choose (.mapNext n)).run P w = .ok k w1 := by
  by_cases h : n ≤ 1
  · refine ⟨0, w, hn, .inl rfl, ?_⟩
    simp [choose, Sem.run, Question.forced, h]
  · refine ⟨w.tape w.drawn (.mapNext n) % n, w.drew, Nat.mod_lt _ hn, .inr rfl, ?_⟩
    simp [choose, Sem.run, Question.forced, Question.cut, h]

theorem run_getObj_iter {r : Nat} {m : Option Nat} {s : Nat} {seen : Array Nat} {c : Nat} (h : w.heap[r]? = some (.mapIter m s seen c)) : (getObj r).run P w = .ok (.mapIter m s seen c) w := by
  simp [getObj, Sem.run, h]
theorem run_setObj_iter {r : Nat} {m : Option Nat} {s : Nat} {seen : Array Nat} {c : Nat} (h : w.heap[r]? = some (.mapIter m s seen c)) (o' : Obj) : (setObj r o').run P w = .ok () (w.putObj r o') := by
  simp [setObj, Sem.run, h, World.putObj]

theorem run_next_map {es : List MapEntry} {c m r : Nat} {done : List Nat} (T : TypeId) (hm : w.heap[m]? = some (.map es.toArray c)) (hit : w.heap[r]? = some (.mapIter (some m) c done.toArray c)) (hy : ∀ e ∈ es, e.born < c) :
    ((∀ e ∈ es, e.born ∈ done) ∧ (Instr.next (.pointer (some ⟨r, 0, none⟩)) false T).run P w = .ok (.tuple #[.bool false]) w) ∨
    (∃ e w1, e ∈ es ∧ e.born ∉ done ∧ (w1 = w ∨ w1 = w.drew) ∧
      (Instr.next (.pointer (some ⟨r, 0, none⟩)) false T).run P w = .ok (.tuple #[.bool true, e.key, e.val]) (w1.putObj r (.mapIter (some m) c (done ++ [e.born]).toArray c))) := by
  have hg : (!(done.toArray).isEmpty && !(es.toArray).isEmpty && es.toArray.all fun x => decide (x.born ≥ c)) = false := by
    cases es with
    | nil => simp
    | cons e es =>
      have := hy e (by simp)
      simp only [List.all_toArray, List.all_cons, Bool.and_eq_false_iff, decide_eq_false_iff_not]
      exact .inr (.inl (by omega))
  let left := es.filter fun e => !done.contains e.born
  have hleft : (es.toArray.filter fun e => !(done.toArray).contains e.born) = left.toArray := by simp [left]
  have hly : ∀ e ∈ left, e.born < c := fun e he => hy e ((List.mem_filter.1 he).1)
  have hold : left.toArray.filter (fun e => decide (e.born < c)) = left.toArray := by
    rw [List.filter_toArray, List.filter_eq_self.2 (fun e he => by simpa using hly e he)]
  have hnew : left.toArray.filter (fun e => decide (e.born ≥ c)) = #[] := by
    rw [List.filter_toArray, List.filter_eq_nil_iff.2 (fun e he => by have := hly e he; simpa using this)]
  cases hl : left with
  | nil =>
    refine .inl ⟨fun e he => ?_, ?_⟩
    · have := List.filter_eq_nil_iff.1 hl e he
      simpa using this
    · rw [hl] at hleft hold hnew
      simp only [Instr.next, Sem.run_bind, run_getObj_iter hit, run_getObj_map hm, Result.andThen_ok, hg, hleft, hold, hnew]
      simp [choose, Sem.run, Question.forced, Sem.run_bind]
  | cons x xs =>
    have hpos : 0 < left.length := by rw [hl]; simp
    obtain ⟨k, w1, hk, hw1, hch⟩ := run_choose_any (P := P) (w := w) left.length hpos
    refine .inr ⟨left[k], w1, (List.mem_filter.1 (List.getElem_mem hk)).1, ?_, hw1, ?_⟩
    · have := (List.mem_filter.1 (List.getElem_mem hk)).2
      simpa using this
    · have hempty : left.toArray.isEmpty = false := by rw [hl]; rfl
      have hcand : ((if left.toArray.isEmpty = true then #[(none : Option MapEntry)] else #[]) ++ (left.toArray ++ #[]).map some) = (left.map some).toArray := by
        rw [hempty]; simp
      have hit1 : w1.heap[r]? = some (.mapIter (some m) c done.toArray c) := by rcases hw1 with rfl | rfl <;> exact hit
      simp only [Instr.next, Sem.run_bind, run_getObj_iter hit, run_getObj_map hm, Result.andThen_ok, hg, hleft, hold, hnew, hcand]
      have hsz : (left.map some).toArray.size = left.length := by simp
      rw [hsz]
      simp only [Bool.false_eq_true, if_false, Sem.run_bind, Result.andThen_ok, hch]
      have hget : (left.map some).toArray[k]? = some (some left[k]) := by simp [hk]
      rw [hget]
      simp [run_setObj_iter hit1]

theorem find_born {e : MapEntry} : ∀ {es : List MapEntry}, e ∈ es → (es.map (·.born)).Nodup → es.find? (fun x => x.born == e.born) = some e
  | [], he, _ => by simp at he
  | y :: ys, he, hn => by
    simp only [List.map_cons, List.nodup_cons] at hn
    rw [List.find?_cons]
    rcases List.mem_cons.1 he with rfl | he'
    · simp
    · have : y.born ≠ e.born := fun e' => hn.1 (e' ▸ List.mem_map_of_mem (f := fun x : MapEntry => x.born) he')
      have h2 : (y.born == e.born) = false := by simpa using this
      rw [h2]
      exact find_born he' hn.2

theorem run_entry_map {es : List MapEntry} {c m r : Nat} {done : List Nat} {e : MapEntry} (hm : w.heap[m]? = some (.map es.toArray c)) (hit : w.heap[r]? = some (.mapIter (some m) c (done ++ [e.born]).toArray c))
    (he : e ∈ es) (hn : (es.map (·.born)).Nodup) : (Instr.entry (.pointer (some ⟨r, 0, none⟩))).run P w = .ok (.tuple #[e.key, e.val]) w := by
  have hf : es.toArray.find? (fun x => x.born == e.born) = some e := by
    rw [List.find?_toArray]
    exact find_born he hn
  have hb : (done ++ [e.born]).toArray.back? = some e.born := by simp
  simp only [Instr.entry, Sem.run_bind, run_getObj_iter hit, Result.andThen_ok, hb, run_getObj_map hm]
  simp [hf]

theorem wpL_range (hgd : o.guard = none) (T : TypeId) (x : Operand) (ho : o.op = .range T x) (K E : TypeId) (hT : P.underlying T = some (.map K E)) (m : Nat) (hx : a.eval x = .map (some m)) (es : Array MapEntry) (c : Nat)
    (hm : w.heap[m]? = some (.map es c))
    (h : ∀ w', w'.heap[w.heap.size]? = some (.mapIter (some m) c #[] c) → Fr [] w w' → w'.heap.size = w.heap.size + 1 → wpList P ops Q rest (a.put o.dst (.pointer (some ⟨w.heap.size, 0, none⟩))) w') : wpList P ops Q (o :: rest) a w := by
  refine wpL_val hgd (w' := w.alloc (.mapIter (some m) c #[] c)) ?_ (h _ (heap_alloc_new _ _) ((Fr.refl _ _).alloc _) (by simp))
  unfold execOp
  simp only [ho, hx, Instr.range, Sem.run_bind, run_underlying hT, Result.andThen_ok, run_getObj_map hm, Sem.run_pure]
  rfl

theorem wpL_next (hgd : o.guard = none) (x : Operand) (ho : o.op = .next x false) (r m : Nat) (hx : a.eval x = .pointer (some ⟨r, 0, none⟩)) (es : List MapEntry) (c : Nat) (done : List Nat)
    (hm : w.heap[m]? = some (.map es.toArray c)) (hit : w.heap[r]? = some (.mapIter (some m) c done.toArray c)) (hy : ∀ e ∈ es, e.born < c)
    (h0 : (∀ e ∈ es, e.born ∈ done) → wpList P ops Q rest (a.put o.dst (.tuple #[.bool false])) w)
    (h1 : ∀ e w', e ∈ es → e.born ∉ done → w'.heap[r]? = some (.mapIter (some m) c (done ++ [e.born]).toArray c) → Fr [r] w w' → w'.heap.size = w.heap.size → wpList P ops Q rest (a.put o.dst (.tuple #[.bool true, e.key, e.val])) w') :
    wpList P ops Q (o :: rest) a w := by
  rcases run_next_map (P := P) (w := w) o.type hm hit hy with ⟨hall, hrun⟩ | ⟨e, w1, he, hne, hw1, hrun⟩
  · refine wpL_val hgd ?_ (h0 hall)
    unfold execOp
    simp only [ho, hx, Sem.run_bind, hrun, Result.andThen_ok, Sem.run_pure]
  · refine wpL_val hgd (v := .tuple #[.bool true, e.key, e.val]) (w' := w1.putObj r (.mapIter (some m) c (done ++ [e.born]).toArray c)) ?_ ?_
    · unfold execOp
      simp only [ho, hx, Sem.run_bind, hrun, Result.andThen_ok, Sem.run_pure]
    · have hsz : w1.heap.size = w.heap.size := by rcases hw1 with rfl | rfl <;> rfl
      have hf : Fr [r] w w1 := by
        rcases hw1 with rfl | rfl
        · exact Fr.refl _ _
        · exact (Fr.refl _ _).drew
      exact h1 e _ he hne (World.putObj_heap_same (by rw [hsz]; exact lt_of_heap hit)) (hf.putObj (.inl (by simp)) _) (by simp [hsz])

theorem wpL_entry (hgd : o.guard = none) (x : Operand) (ho : o.op = .entry x) (r m : Nat) (hx : a.eval x = .pointer (some ⟨r, 0, none⟩)) (es : List MapEntry) (c : Nat) (done : List Nat) (e : MapEntry)
    (hm : w.heap[m]? = some (.map es.toArray c)) (hit : w.heap[r]? = some (.mapIter (some m) c (done ++ [e.born]).toArray c)) (he : e ∈ es) (hn : (es.map (·.born)).Nodup)
    (h : wpList P ops Q rest (a.put o.dst (.tuple #[e.key, e.val])) w) : wpList P ops Q (o :: rest) a w := by
  refine wpL_val hgd ?_ h
  unfold execOp
  simp only [ho, hx, Sem.run_bind, run_entry_map hm hit he hn, Result.andThen_ok, Sem.run_pure]

theorem wpL_clear_map (hgd : o.guard = none) (x : Operand) (T : TypeId) (ho : o.op = .call { callee := .builtin .clear, args := #[x], argTypes := #[T] }) (hdst : o.dst = none) (K E : TypeId) (hT : P.underlying T = some (.map K E)) (m : Nat) (hx : a.eval x = .map (some m)) (es : Array MapEntry) (c : Nat)
    (hm : w.heap[m]? = some (.map es c))
    (h : ∀ w', w'.heap[m]? = some (.map #[] c) → Fr [m] w w' → w'.heap.size = w.heap.size → wpList P ops Q rest a w') : wpList P ops Q (o :: rest) a w := by
  refine wpL_val hgd (v := .tuple #[]) (w' := w.putObj m (.map #[] c)) ?_ ?_
  · have hrun : (Builtin.clear_ #[T] o.type #[.map (some m)]).run P w = .ok (.tuple #[]) (w.putObj m (.map #[] c)) := by
      simp [Builtin.clear_, Sem.run_bind, run_underlying hT, run_getObj_map hm, run_setObj_map hm]
    simp [execOp, ho, resolve, invoke, builtin, hx, hrun, Result.andThen]
  · rw [hdst]
    exact h _ (World.putObj_heap_same (lt_of_heap hm)) ((Fr.refl _ _).putObj (.inl (by simp)) _) (by simp)

end

/-- How many are still to come. -/
def leftN : List Nat → List Nat → Nat
  | [], _ => 0
  | b :: bs, done => (if b ∈ done then 0 else 1) + leftN bs done
theorem leftN_le (x : Nat) : ∀ (bs done : List Nat), leftN bs (done ++ [x]) ≤ leftN bs done
  | [], _ => Nat.le_refl _
  | b :: bs, done => by
    have ih := leftN_le x bs done
    unfold leftN
    by_cases h1 : b ∈ done
    · rw [if_pos h1, if_pos (by simp [h1])]; omega
    · rw [if_neg h1]; split <;> omega
theorem leftN_lt : ∀ {bs done : List Nat} {b : Nat}, b ∈ bs → b ∉ done → leftN bs (done ++ [b]) < leftN bs done
  | [], _, _, h, _ => by simp at h
  | x :: bs, done, b, h, hn => by
    have hle := leftN_le b bs done
    unfold leftN
    by_cases hx : x = b
    · subst hx
      rw [if_neg hn, if_pos (by simp)]; omega
    · have hb : b ∈ bs := by simpa [Ne.symm hx] using h
      have ih := leftN_lt hb hn
      by_cases h1 : x ∈ done
      · rw [if_pos h1, if_pos (by simp [h1])]; omega
      · rw [if_neg h1, if_neg (by simp [h1, hx])]; omega

end Go.Proofs.YtcnhlemenpgkbaaGreatDoor
