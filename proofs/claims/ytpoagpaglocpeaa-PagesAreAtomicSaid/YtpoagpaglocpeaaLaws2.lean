/- More laws of the walk: texts out of bytes, copies into a page, the map of what is pending written, gone over and cleared. -/
import Derived.Test.YtpoagpaglocpeaaLaws
import Derived.Laws.BytesArg
import Derived.StillTailTactics
namespace Go.Proofs.Ytpoagpaglocpeaa
set_option linter.unusedSimpArgs false
set_option linter.unusedVariables false
set_option linter.unnecessarySimpa false
open Go.RowKit M

section
variable {P : Program} {ops : Array Oper} {Q : Exit → Act → World → Prop} {a : Act} {w : World} {rest : List Oper} {o : Oper}

theorem strOf_nums (s : Bytes) : strOfNums (s.map fun x => (x.toNat : Int)) = ⟨s.toArray⟩ := by
  have h : (strOfNums (s.map fun x => (x.toNat : Int))).data.toList = s := by
    rw [strOfNums_data, List.map_map]
    conv => rhs; rw [← List.map_id s]
    refine List.map_congr_left fun x _ => ?_
    simp
  cases hq : strOfNums (s.map fun x => (x.toNat : Int)) with
  | mk d => rw [hq] at h; simp only at h; rw [← h]

/-- A text out of bytes. -/
theorem wpL_text (hgd : o.guard = none) (src dst : TypeId) (x : Operand) (ho : o.op = .convert src dst x) (e : TypeId) (hs : P.underlying src = some (.slice e)) (he : P.underlying e = some (.int .u8)) (hd : P.underlying dst = some .string)
    (g off len cap : Nat) (hx : a.eval x = .slice (some ⟨g, off, none⟩) len cap) (t : TypeId) (cs : Array Value) (fr : Nat × Nat) (s : Bytes) (hg : w.heap[g]? = some (.cells cs t fr)) (hl : s.length = len)
    (hv : ∀ j, j < len → cs[off + j]? = (cellsOf s)[j]?)
    (h : wpList P ops Q rest (a.put o.dst (str s)) w) : wpList P ops Q (o :: rest) a w := by
  refine wpL_val hgd ?_ h
  have hc := run_convert_bytes_arg (P := P) w src e hs he g off len cap (s.map fun x => (x.toNat : Int)) (by simpa using hl) (fun i hi => by
    rw [cell_of_row w g _ cs t fr hg, hv i hi]
    have hi' : i < s.length := by omega
    simp [cellsOf, List.getD, hi']) dst hd
  unfold execOp
  simp only [ho, hx, Sem.run_bind, hc, Result.andThen_ok, strOf_nums]
  rfl

/-- A whole array, read within a region that draws its order. -/
theorem wpStill_load {K : Act → Prop} (hgd : o.guard = none) (ty : TypeId) (x : Operand) (ho : o.op = .load ty x)
    (g off : Nat) (hx : a.eval x = .pointer (some ⟨g, off, none⟩)) (t : TypeId) (cs : Array Value) (vs : List Value) (fr : Nat × Nat) (d : TypeDesc) (hg : w.heap[g]? = some (.cells cs t fr))
    (hu : P.underlying ty = some d) (hd : (match d with | .struct _ | .array _ _ => true | _ => false) = true) (hi : (P.info? ty).map (·.size) = some vs.length)
    (hv : ∀ j, j < vs.length → cs[off + j]? = vs[j]?)
    (h : wpStill P ops w K rest (a.put o.dst (.agg vs.toArray))) : wpStill P ops w K (o :: rest) a := by
  refine wpStill_step fun K' hK => ?_
  have hw : Region.wanted o (yielded ops a.tmps) = true := by simp [Region.wanted, hgd]
  rw [if_pos hw]
  have hr : (execOp a.eval o).run P w = .ok (.value (.agg vs.toArray)) w := by
    unfold execOp
    simp only [ho, hx, Instr.loadAt, Instr.sureAddr, Sem.run_bind, Sem.run_pure, Result.andThen_ok, run_loadVar_mid g off t ty cs vs fr d hg hu hd hi hv]
  simp only [Oper.still, Oper.stillUpon, hr]
  exact ⟨trivial, hK _ h⟩

/-- A text copied over the begin of a row of bytes. -/
theorem run_copy_str (dT sT ty elem : TypeId) (g off dLen dCap : Nat) (cur : Array Value) (t : TypeId) (s : Bytes)
    (hu : P.underlying dT = some (.slice elem)) (hs : (P.info? elem).map (·.size) = some 1) (hg : w.heap[g]? = some (.cells cur t (0, 0))) (hn : s.length ≤ dLen) (hfit : off + s.length ≤ cur.size) :
    (Builtin.copy_ #[dT, sT] ty #[.slice (some ⟨g, off, none⟩) dLen dCap, .string ⟨s.toArray⟩]).run P w =
      .ok (goInt s.length) (w.setRow g (cur.toList.take off ++ cellsOf s ++ cur.toList.drop (off + (cellsOf s).length)).toArray) := by
  have hst := run_storeCells_at P g off t (cellsOf s) 0 cur w hg (by rw [cellsOf_length]; omega) (cellsOf_one s)
  have hm : Nat.min (ByteArray.mk s.toArray).size dLen = s.length := by
    show min s.toArray.size dLen = _
    simp; omega
  have hx : ((ByteArray.mk s.toArray).extract 0 s.length).data.map (fun b => Value.int .u8 b.toNat) = (cellsOf s).toArray := by
    apply Array.ext'
    simp [cellsOf]
  have hsz := run_sizeOf (P := P) (w := w) hs
  simp only [Builtin.copy_, List.getElem?_toArray, List.getElem?_cons_zero, List.getElem?_cons_succ, Sem.run_bind, run_underlying hu, Result.andThen_ok, Builtin.lenOf, Sem.run_pure, hsz, hm, Builtin.firstCells, hx, Nat.add_zero] at hst ⊢
  simp [hst]

theorem wpL_copy_str (hgd : o.guard = none) (x y : Operand) (dT sT elem : TypeId) (ho : o.op = .call { callee := .builtin .copy, args := #[x, y], argTypes := #[dT, sT] })
    (hu : P.underlying dT = some (.slice elem)) (hs : (P.info? elem).map (·.size) = some 1) (g off dLen dCap : Nat) (hx : a.eval x = .slice (some ⟨g, off, none⟩) dLen dCap) (s : Bytes) (hy : a.eval y = .string ⟨s.toArray⟩)
    (t : TypeId) (cur : Array Value) (hg : w.heap[g]? = some (.cells cur t (0, 0))) (hn : s.length ≤ dLen) (hfit : off + s.length ≤ cur.size)
    (h : ∀ w', w'.heap[g]? = some (.cells (cur.toList.take off ++ cellsOf s ++ cur.toList.drop (off + s.length)).toArray t (0, 0)) → Fr [g] w w' → w'.heap.size = w.heap.size → wpList P ops Q rest (a.put o.dst (goInt s.length)) w') :
    wpList P ops Q (o :: rest) a w := by
  refine wpL_val hgd (v := goInt s.length) (w' := w.setRow g (cur.toList.take off ++ cellsOf s ++ cur.toList.drop (off + (cellsOf s).length)).toArray) ?_ ?_
  · have := run_copy_str (P := P) (w := w) dT sT o.type elem g off dLen dCap cur t s hu hs hg hn hfit
    simp only [List.append_assoc] at this ⊢
    simp [execOp, ho, resolve, invoke, builtin, hx, hy, this, Result.andThen]
  · rw [cellsOf_length]
    exact h _ (setRow_heap w g _ _ t _ hg) ((Fr.refl _ _).setRow (.inl (by simp)) _) (by simp)

/-- Bytes copied into a row of bytes. -/
theorem wpL_copy_row (hgd : o.guard = none) (x y : Operand) (dT sT elem : TypeId) (ho : o.op = .call { callee := .builtin .copy, args := #[x, y], argTypes := #[dT, sT] })
    (hu : P.underlying dT = some (.slice elem)) (hs : (P.info? elem).map (·.size) = some 1) (g off dLen dCap sg soff sLen sCap : Nat) (hx : a.eval x = .slice (some ⟨g, off, none⟩) dLen dCap) (hy : a.eval y = .slice (some ⟨sg, soff, none⟩) sLen sCap)
    (s : Bytes) (t : TypeId) (cur : Array Value) (hg : w.heap[g]? = some (.cells cur t (0, 0))) (t2 : TypeId) (src : Array Value) (fr : Nat × Nat) (hsg : w.heap[sg]? = some (.cells src t2 fr)) (hn : s.length = Nat.min sLen dLen)
    (hsrc : ∀ j, j < s.length → src[soff + j]? = (cellsOf s)[j]?) (hfit : off + s.length ≤ cur.size)
    (h : ∀ w', w'.heap[g]? = some (.cells (cur.toList.take off ++ cellsOf s ++ cur.toList.drop (off + s.length)).toArray t (0, 0)) → Fr [g] w w' → w'.heap.size = w.heap.size → wpList P ops Q rest (a.put o.dst (goInt s.length)) w') :
    wpList P ops Q (o :: rest) a w := by
  refine wpL_val hgd (v := goInt s.length) (w' := w.setRow g (cur.toList.take off ++ cellsOf s ++ cur.toList.drop (off + (cellsOf s).length)).toArray) ?_ ?_
  · have := run_copy_row (P := P) w dT sT o.type elem g off dLen dCap ⟨sg, soff, none⟩ sLen sCap cur t (cellsOf s) hu hs hg (by rw [cellsOf_length]; exact hn) (fun j v hj => by
      rw [addr_add, cell_of_row w sg _ src t2 fr hsg, hsrc j (by have := (List.getElem?_eq_some_iff.1 hj).1; rwa [cellsOf_length] at this)]; exact hj) (by rw [cellsOf_length]; exact hfit) (cellsOf_one s)
    rw [cellsOf_length] at this ⊢
    simp only [List.append_assoc] at this ⊢
    simp [execOp, ho, resolve, invoke, builtin, hx, hy, this, Result.andThen]
  · rw [cellsOf_length]
    exact h _ (setRow_heap w g _ _ t _ hg) ((Fr.refl _ _).setRow (.inl (by simp)) _) (by simp)

/-! The map of what is pending -/
def setNew (pg : List Pg) (n : Nat) (b : Bytes) : List Pg := pg.modify n fun p => { p with new := some b }

theorem setNew_get (pg : List Pg) (n i : Nat) (b : Bytes) (hn : n < pg.length) : ((setNew pg n b)[i]?).bind Pg.new = if i = n then some b else (pg[i]?).bind Pg.new := by
  unfold setNew
  rw [List.getElem?_modify]
  by_cases e : i = n
  · subst e
    simp [hn]
  · have e' : ¬ n = i := fun x => e x.symm
    rw [if_neg e]
    simp only [if_neg e']
    cases pg[i]? <;> rfl

theorem Pends.push {l : List Ent} {c : Nat} {pg : List Pg} (h : Pends l c pg) (n : Nat) (b : Bytes) (hn : n < pg.length) (hno : ∀ x ∈ l, (x.i : Int) ≠ n) : Pends (l ++ [⟨n, b, c⟩]) (c + 1) (setNew pg n b) where
  keys := by
    simp only [List.map_append, List.map_cons, List.map_nil, List.nodup_append, List.nodup_cons, List.not_mem_nil, not_false_eq_true, List.nodup_nil, and_true, List.mem_cons, or_false, true_and]
    refine ⟨h.keys, fun a ha b' hb' => ?_⟩
    obtain ⟨x, hx, rfl⟩ := List.mem_map.1 ha
    subst hb'
    have := hno x hx
    omega
  borns := by
    simp only [List.map_append, List.map_cons, List.map_nil, List.nodup_append, List.nodup_cons, List.not_mem_nil, not_false_eq_true, List.nodup_nil, and_true, List.mem_cons, or_false, true_and]
    refine ⟨h.borns, fun a ha b' hb' => ?_⟩
    obtain ⟨x, hx, rfl⟩ := List.mem_map.1 ha
    subst hb'
    have := h.young x hx
    omega
  young := fun x hx => by
    rcases List.mem_append.1 hx with hx | hx
    · have := h.young x hx; omega
    · simp at hx; subst hx; simp
  fits := fun i b' => by
    rw [setNew_get pg n i b hn]
    constructor
    · rintro ⟨x, hx, rfl, rfl⟩
      rcases List.mem_append.1 hx with hx | hx
      · rw [if_neg (by have := hno x hx; omega)]
        exact (h.fits x.i x.b).1 ⟨x, hx, rfl, rfl⟩
      · simp at hx; subst hx; simp
    · intro hb
      by_cases e : i = n
      · rw [if_pos e] at hb
        injection hb with hb
        subst e; subst hb
        exact ⟨⟨i, b, c⟩, by simp, rfl, rfl⟩
      · rw [if_neg e] at hb
        obtain ⟨x, hx, h1, h2⟩ := (h.fits i b').2 hb
        exact ⟨x, by simp [hx], h1, h2⟩

theorem nodup_get_eq {α : Type} {l : List α} (h : l.Nodup) {i j : Nat} (hi : i < l.length) (hj : j < l.length) (e : l[i] = l[j]) : i = j := by
  have hp := List.pairwise_iff_getElem.1 h
  rcases Nat.lt_trichotomy i j with x | x | x
  · exact absurd e (hp i j hi hj x)
  · exact x
  · exact absurd e.symm (hp j i hj hi x)
theorem set_same {α : Type} {l : List α} {j : Nat} {v : α} (h : l[j]? = some v) : l.set j v = l := by
  apply List.ext_getElem?
  intro k
  rw [List.getElem?_set]
  split
  · rename_i e
    subst e
    rw [h, if_pos (List.getElem?_eq_some_iff.1 h).1]
  · rfl

theorem Pends.over {l : List Ent} {c : Nat} {pg : List Pg} (h : Pends l c pg) (n : Nat) (b : Bytes) (hn : n < pg.length) {j : Nat} {x : Ent} (hj : l[j]? = some x) (hx : x.i = n) : Pends (l.set j ⟨n, b, x.born⟩) c (setNew pg n b) where
  keys := by
    rw [List.map_set, show ((⟨n, b, x.born⟩ : Ent).i) = x.i from hx.symm, set_same (by simp [hj])]
    exact h.keys
  borns := by
    rw [List.map_set, show ((⟨n, b, x.born⟩ : Ent).born) = x.born from rfl, set_same (by simp [hj])]
    exact h.borns
  young := fun y hy => by
    rcases List.mem_or_eq_of_mem_set hy with hy | rfl
    · exact h.young y hy
    · exact h.young x (List.mem_of_getElem? hj)
  fits := fun i b' => by
    rw [setNew_get pg n i b hn]
    obtain ⟨hjl, hjx⟩ := List.getElem?_eq_some_iff.1 hj
    constructor
    · rintro ⟨y, hy, rfl, rfl⟩
      obtain ⟨k, hk, hky⟩ := List.mem_iff_getElem.1 hy
      rw [List.getElem_set] at hky
      by_cases e : j = k
      · rw [if_pos e] at hky; subst hky; simp
      · rw [if_neg e] at hky
        have hkl : k < l.length := by simpa using hk
        have hne : y.i ≠ n := by
          intro e2
          apply e
          refine nodup_get_eq h.keys (by simpa using hjl) (by simpa using hkl) ?_
          simp only [List.getElem_map, hjx, hky]
          omega
        rw [if_neg hne]
        exact (h.fits y.i y.b).1 ⟨y, hky ▸ List.getElem_mem hkl, rfl, rfl⟩
    · intro hb
      by_cases e : i = n
      · rw [if_pos e] at hb
        injection hb with hb
        subst e; subst hb
        exact ⟨⟨i, b, x.born⟩, List.mem_iff_getElem.2 ⟨j, by simpa using hjl, by simp⟩, rfl, rfl⟩
      · rw [if_neg e] at hb
        obtain ⟨y, hy, h1, h2⟩ := (h.fits i b').2 hb
        obtain ⟨k, hk, hky⟩ := List.mem_iff_getElem.1 hy
        have hjk : j ≠ k := by
          intro e2; subst e2
          rw [hjx] at hky; subst hky; omega
        exact ⟨y, List.mem_iff_getElem.2 ⟨k, by simpa using hk, by rw [List.getElem_set, if_neg hjk]; exact hky⟩, h1, h2⟩

theorem run_setObj_map {r : Nat} {es : Array MapEntry} {c : Nat} (h : w.heap[r]? = some (.map es c)) (o' : Obj) : (setObj r o').run P w = .ok () (w.putObj r o') := by
  simp [setObj, Sem.run, h, World.putObj]

theorem run_mapUpdate_pend (T K E : TypeId) (hT : P.underlying T = some (.map K E)) (hK : P.underlying K = some (.int .i64)) (r n : Nat) (b : Bytes) (l : List Ent) (c : Nat) (pg : List Pg)
    (hr : w.heap[r]? = some (.map (l.map ent).toArray c)) (hP : Pends l c pg) (hn : n < pg.length) :
    ∃ l' c', (Instr.mapUpdate T (.map (some r)) (.int .i64 n) (.agg (cellsOf b).toArray)).run P w = .ok () (w.putObj r (.map (l'.map ent).toArray c')) ∧ Pends l' c' (setNew pg n b) := by
  rcases find_pend hP (n : Int) with ⟨b0, _, j, x, hj, hxi, hxb, hf⟩ | ⟨_, hno, hf⟩
  · have hxn : x.i = n := by omega
    refine ⟨l.set j ⟨n, b, x.born⟩, c, ?_, hP.over n b hn hj hxn⟩
    have hky : (Instr.keyThatStays (.int .i64 (n : Int)) (.int .i64 (n : Int))).run P w = .ok (.int .i64 (n : Int)) w := by simp [Instr.keyThatStays, Instr.sameBits]
    have hget : (((l.map ent).toArray[j]?).map (·.key)).getD (.int .i64 (n : Int)) = .int .i64 (n : Int) := by simp [hj, ent, hxn]
    have hes : (l.map ent).toArray.modify j (fun e => { e with key := .int .i64 (n : Int), val := .agg (cellsOf b).toArray }) = ((l.set j ⟨n, b, x.born⟩).map ent).toArray := by
      apply Array.ext'
      simp only [Array.toList_modify]
      rw [List.map_set]
      apply List.ext_getElem?
      intro k
      rw [List.getElem?_modify, List.getElem?_set]
      by_cases e : j = k
      · subst e
        obtain ⟨hjl, hjx⟩ := List.getElem?_eq_some_iff.1 hj
        simp [ent, hjl, hjx]
      · simp [e]
    simp only [Instr.mapUpdate, Sem.run_bind, run_underlying hT, Result.andThen_ok, run_getObj_map hr, run_checkKey_int hK, run_findKey_int hK n _ _ hf, hget, hky, hes, run_setObj_map hr]
  · refine ⟨l ++ [⟨n, b, c⟩], c + 1, ?_, hP.push n b hn hno⟩
    have hes : (l.map ent).toArray.push { key := .int .i64 (n : Int), val := .agg (cellsOf b).toArray, born := c } = ((l ++ [(⟨n, b, c⟩ : Ent)]).map ent).toArray := by simp [ent]
    simp only [Instr.mapUpdate, Sem.run_bind, run_underlying hT, Result.andThen_ok, run_getObj_map hr, run_checkKey_int hK, run_findKey_int hK n _ _ hf, hes, run_setObj_map hr]

theorem wpL_mapUpdate_pend (hgd : o.guard = none) (T : TypeId) (x y z : Operand) (ho : o.op = .mapUpdate T x y z) (hdst : o.dst = none) (K E : TypeId) (hT : P.underlying T = some (.map K E)) (hK : P.underlying K = some (.int .i64)) (r n : Nat) (b : Bytes)
    (hx : a.eval x = .map (some r)) (hy : a.eval y = .int .i64 n) (hz : a.eval z = .agg (cellsOf b).toArray) (l : List Ent) (c : Nat) (pg : List Pg)
    (hr : w.heap[r]? = some (.map (l.map ent).toArray c)) (hP : Pends l c pg) (hn : n < pg.length)
    (h : ∀ w' l' c', w'.heap[r]? = some (.map (l'.map ent).toArray c') → Pends l' c' (setNew pg n b) → Fr [r] w w' → w'.heap.size = w.heap.size → wpList P ops Q rest a w') : wpList P ops Q (o :: rest) a w := by
  obtain ⟨l', c', hrun, hP'⟩ := run_mapUpdate_pend (P := P) (w := w) T K E hT hK r n b l c pg hr hP hn
  refine wpL_skip hgd (w' := w.putObj r (.map (l'.map ent).toArray c')) ?_ ?_
  · unfold execOp
    simp only [ho, hx, hy, hz, Sem.run_bind, hrun, Result.andThen_ok, Sem.run_pure]
  · rw [hdst]
    exact h _ l' c' (World.putObj_heap_same (lt_of_heap hr)) hP' ((Fr.refl _ _).putObj (.inl (by simp)) _) (by simp)

/-! The greater and the smaller of two numbers; the begin of an array; a look into the map -/
theorem wpL_max (hgd : o.guard = none) (x y : Operand) (T U : TypeId) (ho : o.op = .call { callee := .builtin .max, args := #[x, y], argTypes := #[T, U] }) (m n : Int) (hx : a.eval x = .int .i64 m) (hy : a.eval y = .int .i64 n)
    (h : wpList P ops Q rest (a.put o.dst (.int .i64 (max m n))) w) : wpList P ops Q (o :: rest) a w := by
  refine wpL_val hgd ?_ h
  have hrun : (Builtin.max_ #[T, U] o.type #[.int .i64 m, .int .i64 n]).run P w = .ok (.int .i64 (max m n)) w := by
    have e : (if n > m then n else m) = max m n := by omega
    simp [Builtin.max_, Builtin.max2, e]
  simp [execOp, ho, resolve, invoke, builtin, hx, hy, hrun, Result.andThen]
theorem wpL_min (hgd : o.guard = none) (x y : Operand) (T U : TypeId) (ho : o.op = .call { callee := .builtin .min, args := #[x, y], argTypes := #[T, U] }) (m n : Int) (hx : a.eval x = .int .i64 m) (hy : a.eval y = .int .i64 n)
    (h : wpList P ops Q rest (a.put o.dst (.int .i64 (min m n))) w) : wpList P ops Q (o :: rest) a w := by
  refine wpL_val hgd ?_ h
  have hrun : (Builtin.min_ #[T, U] o.type #[.int .i64 m, .int .i64 n]).run P w = .ok (.int .i64 (min m n)) w := by
    have e : (if n < m then n else m) = min m n := by omega
    simp [Builtin.min_, Builtin.min2, e]
  simp [execOp, ho, resolve, invoke, builtin, hx, hy, hrun, Result.andThen]

/-- An operation within a region that draws its order. -/
theorem wpStill_val {K : Act → Prop} {v : Value} (hgd : o.guard = none) (hr : (execOp a.eval o).run P w = .ok (.value v) w) (h : wpStill P ops w K rest (a.put o.dst v)) : wpStill P ops w K (o :: rest) a := by
  refine wpStill_step fun K' hK => ?_
  have hw : Region.wanted o (yielded ops a.tmps) = true := by simp [Region.wanted, hgd]
  rw [if_pos hw]
  simp only [Oper.still, Oper.stillUpon, hr]
  exact ⟨trivial, hK _ h⟩

theorem run_sliceTo (T : TypeId) (x y : Operand) (ho : o.op = .slice T x none (some y) none) (N : Nat) (E : TypeId) (hT : P.underlying T = some (.array N E)) (hE : (P.info? E).map (·.size) = some 1) (hN : 0 < N)
    (g off : Nat) (hx : a.eval x = .pointer (some ⟨g, off, none⟩)) (n : Nat) (hy : a.eval y = .int .i64 n) (hn : n ≤ N) : (execOp a.eval o).run P w = .ok (.value (.slice (some ⟨g, off, none⟩) n N)) w := by
  have h1 : ¬ N = 0 := by omega
  have h2 : (0 : Int) ≤ (n : Int) ∧ (n : Int) ≤ (N : Int) := by omega
  unfold execOp
  simp only [ho, hx, hy, Instr.sliceAt, Option.map_some, Option.map_none, Sem.run_bind, run_underlying hT, Result.andThen_ok, Instr.sureAddr, Sem.run_pure, Instr.sliceBounds, Instr.sliceBound, asIntOf, h2, and_self, if_true, Int.toNat_natCast, run_sizeOf hE]
  simp [h1, addr_add]

theorem wpL_get_pend (hgd : o.guard = none) (T : TypeId) (x y : Operand) (ho : o.op = .lookup T x y false) (K E : TypeId) (hT : P.underlying T = some (.map K E)) (hK : P.underlying K = some (.int .i64))
    (r : Nat) (hx : a.eval x = .map (some r)) (n : Int) (hy : a.eval y = .int .i64 n) (l : List Ent) (c : Nat) (pg : List Pg)
    (hr : w.heap[r]? = some (.map (l.map ent).toArray c)) (hP : Pends l c pg) (b : Bytes) (hb : pendOf pg n = some b)
    (h : wpList P ops Q rest (a.put o.dst (.agg (cellsOf b).toArray)) w) : wpList P ops Q (o :: rest) a w := by
  refine wpL_val hgd ?_ h
  unfold execOp
  simp only [ho, hx, hy, Instr.lookup, Sem.run_bind, run_underlying hT, Result.andThen_ok, run_getObj_map hr, Sem.run_pure, run_checkKey_int hK]
  rcases find_pend hP n with ⟨b', hb', j, _, _, _, _, hf⟩ | ⟨hb', _, hf⟩
  · obtain rfl : b' = b := by rw [hb] at hb'; injection hb' with e; exact e.symm
    simp [run_findKey_int hK n _ _ hf]
  · rw [hb] at hb'; cases hb'

/-- One text behind another. -/
theorem wpL_cat (hgd : o.guard = none) (x y : Operand) (T U : TypeId) (ho : o.op = .binOp .add T x y U) (s t : Bytes) (hx : a.eval x = .string ⟨s.toArray⟩) (hy : a.eval y = .string ⟨t.toArray⟩) (hl : s.length + t.length ≤ 1000000000)
    (h : wpList P ops Q rest (a.put o.dst (.string ⟨(s ++ t).toArray⟩)) w) : wpList P ops Q (o :: rest) a w := by
  refine wpL_val hgd ?_ h
  have h1 := run_string_add_sum (P := P) (w := w) ⟨s.toArray⟩ ⟨t.toArray⟩ (by show s.toArray.size + t.toArray.size ≤ _; simp; omega)
  rw [ByteArray.mk_append_mk] at h1
  have h2 : (eqGuard .add T x y (.string ⟨s.toArray⟩) (.string ⟨t.toArray⟩)).run P w = .ok () w := by simp [eqGuard]
  unfold execOp
  simp only [ho, hx, hy, Sem.run_bind, h2, Result.andThen_ok, binOp, h1, Sem.run_pure]

/-! Parts of a text -/
theorem str_part (s : Bytes) (m n : Nat) : (⟨s.toArray⟩ : ByteArray).extract m n = ⟨((s.take n).drop m).toArray⟩ := by
  apply ByteArray.ext
  rw [ByteArray.data_extract]
  simp [List.drop_take]

theorem run_bound (n y : Nat) (h : n ≤ y) (c : BoundsCode) : (Instr.sliceBound (.int .i64 n) y c).run P w = .ok n w := by
  have h2 : (0 : Int) ≤ (n : Int) ∧ (n : Int) ≤ (y : Int) := by omega
  simp only [Instr.sliceBound, asIntOf, Sem.run_bind, Sem.run_pure, Result.andThen_ok]
  rw [if_pos h2]
  simp

theorem run_strTo (T : TypeId) (x y : Operand) (ho : o.op = .slice T x none (some y) none) (hT : P.underlying T = some .string) (s : Bytes) (hx : a.eval x = .string ⟨s.toArray⟩) (n : Nat) (hy : a.eval y = .int .i64 n) (hn : n ≤ s.length) :
    (execOp a.eval o).run P w = .ok (.value (.string ⟨(s.take n).toArray⟩)) w := by
  have hs : (ByteArray.mk s.toArray).size = s.length := by show s.toArray.size = _; simp
  unfold execOp
  simp only [ho, hx, hy, Instr.sliceAt, Option.map_some, Option.map_none, Sem.run_bind, run_underlying hT, Result.andThen_ok, Instr.slice, hs, Sem.run_pure, Instr.sliceBounds]
  simp [run_bound _ _ hn, str_part]
theorem run_strFrom (T : TypeId) (x y : Operand) (ho : o.op = .slice T x (some y) none none) (hT : P.underlying T = some .string) (s : Bytes) (hx : a.eval x = .string ⟨s.toArray⟩) (m : Nat) (hy : a.eval y = .int .i64 m) (hm : m ≤ s.length) :
    (execOp a.eval o).run P w = .ok (.value (.string ⟨(s.drop m).toArray⟩)) w := by
  have hs : (ByteArray.mk s.toArray).size = s.length := by show s.toArray.size = _; simp
  unfold execOp
  simp only [ho, hx, hy, Instr.sliceAt, Option.map_some, Option.map_none, Sem.run_bind, run_underlying hT, Result.andThen_ok, Instr.slice, hs, Sem.run_pure, Instr.sliceBounds]
  simp [run_bound _ _ hm, str_part]
theorem run_strMid (T : TypeId) (x y z : Operand) (ho : o.op = .slice T x (some y) (some z) none) (hT : P.underlying T = some .string) (s : Bytes) (hx : a.eval x = .string ⟨s.toArray⟩) (m n : Nat) (hy : a.eval y = .int .i64 m) (hz : a.eval z = .int .i64 n) (hm : m ≤ n) (hn : n ≤ s.length) :
    (execOp a.eval o).run P w = .ok (.value (.string ⟨((s.take n).drop m).toArray⟩)) w := by
  have hs : (ByteArray.mk s.toArray).size = s.length := by show s.toArray.size = _; simp
  unfold execOp
  simp only [ho, hx, hy, hz, Instr.sliceAt, Option.map_some, Option.map_none, Sem.run_bind, run_underlying hT, Result.andThen_ok, Instr.slice, hs, Sem.run_pure, Instr.sliceBounds]
  simp [run_bound _ _ hm, run_bound _ _ hn, str_part]

/-! Texts compared; an operation whose guard lets it by -/
theorem wpL_valg {v : Value} {w' : World} (hw : Region.wanted o (yielded ops a.tmps) = true) (hrun : (execOp a.eval o).run P w = .ok (.value v) w') (h : wpList P ops Q rest (a.put o.dst v) w') :
    wpList P ops Q (o :: rest) a w :=
  wpList_step fun K hK => by
    rw [if_pos hw]
    unfold Oper.wp
    rw [hrun]
    exact hK _ _ h

theorem str_eq_iff (s t : Bytes) : ((⟨s.toArray⟩ : ByteArray).toList == (⟨t.toArray⟩ : ByteArray).toList) = true ↔ s = t := by simp

theorem run_strNe (x y : Operand) (T U : TypeId) (ho : o.op = .binOp .neq T x y U) (s t : Bytes) (hx : a.eval x = .string ⟨s.toArray⟩) (hy : a.eval y = .string ⟨t.toArray⟩) (b : Bool) (hb : b = true ↔ s ≠ t) :
    (execOp a.eval o).run P w = .ok (.value (.bool b)) w := by
  have h2 : (eqGuard .neq T x y (.string ⟨s.toArray⟩) (.string ⟨t.toArray⟩)).run P w = .ok () w := by simp [eqGuard]
  have h3 : (!((⟨s.toArray⟩ : ByteArray).toList == (⟨t.toArray⟩ : ByteArray).toList)) = b := by
    rw [Bool.eq_iff_iff, hb, Bool.not_eq_true', ← Bool.not_eq_true, str_eq_iff]
  unfold execOp
  simp only [ho, hx, hy, Sem.run_bind, h2, Result.andThen_ok, binOp, Op.stringOp, Sem.run_pure, h3]
theorem run_strEq (x y : Operand) (T U : TypeId) (ho : o.op = .binOp .eql T x y U) (s t : Bytes) (hx : a.eval x = .string ⟨s.toArray⟩) (hy : a.eval y = .string ⟨t.toArray⟩) (b : Bool) (hb : b = true ↔ s = t) :
    (execOp a.eval o).run P w = .ok (.value (.bool b)) w := by
  have h2 : (eqGuard .eql T x y (.string ⟨s.toArray⟩) (.string ⟨t.toArray⟩)).run P w = .ok () w := by simp [eqGuard]
  have h3 : ((⟨s.toArray⟩ : ByteArray).toList == (⟨t.toArray⟩ : ByteArray).toList) = b := by
    rw [Bool.eq_iff_iff, hb, str_eq_iff]
  unfold execOp
  simp only [ho, hx, hy, Sem.run_bind, h2, Result.andThen_ok, binOp, Op.stringOp, Sem.run_pure, h3]

end
end Go.Proofs.Ytpoagpaglocpeaa
