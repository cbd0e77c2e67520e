/- Opening the pages of a disk: up to the loop. -/
import Derived.Test.YtcnhlemenpgkbaaGreatDoorModel6
import Derived.Test.YtcnhlemenpgkbaaGreatDoorHeld
namespace Go.Proofs.YtcnhlemenpgkbaaGreatDoor
set_option linter.unusedSimpArgs false
set_option linter.unusedVariables false
set_option linter.unnecessarySimpa false
open Go.RowKit M
attribute [local go_sem] Oper.semAt_some

/-- Between two rounds of the loop over the pages: what lies where. -/
structure OpnN (w : World) (L : DL) (num : Int) (pre : List Bytes) (v : Value) (W : World) : Prop where
  fr : Fr [] w W
  c2 : W.heap[w.heap.size]? = some (.cells #[.pointer none] 60 (0, 0))
  c3 : W.heap[w.heap.size + 1]? = some (.cells #[.int .i64 0] 34 (0, 0))
  st : W.heap[w.heap.size + 2]? = some (.cells #[Dp L, .int .i64 num, .slice none 0 0, .bool false] 71 (0, 0))
  pv : W.heap[w.heap.size + 3]? = some (.cells #[.pointer (some ⟨w.heap.size + 2, 0, none⟩)] 60 (0, 0))
  iv : W.heap[w.heap.size + 4]? = some (.cells #[v] 30 (0, 0))
  bx : W.heap[w.heap.size + 5]? = some (.cells #[Dp L] 26 (0, 0))
  row : W.ownsRow (w.heap.size + 6) 9 1 v pre.length (pre.map str)
abbrev Opn (w : World) (L : DL) (pre : List Bytes) (v : Value) (W : World) : Prop := OpnN w L (openNum pre) pre v W
def OpnI (w : World) (L : DL) (pre : List P128) (W : World) : Prop := ∃ v, Opn w L (pre.map (·.1)) v W

theorem blk_grown {A B : World} {row : Option Nat} (hg : A.grownBy B row) (hr : ∀ r, row = some r → ∃ o : Obj, A.heap[r]? = some o ∧ o.isCells = false) {k : Nat} {cs : Array Value} {t : TypeId} {fz : Nat × Nat} (h : A.heap[k]? = some (.cells cs t fz)) : B.heap[k]? = some (.cells cs t fz) := by
  rw [hg.block k (lt_of_heap' h) (fun e => ?_)]
  · exact h
  · obtain ⟨o, ho, hc⟩ := hr k e.symm
    rw [h] at ho
    cases ho
    simp [Obj.isCells] at hc
theorem Opn.own (w : World) (L : DL) (n : Nat) (hn : w.heap.size ≤ n) : OwnFrom n (OpnI w L) := by
  intro pre A B row h hg hr
  obtain ⟨v, h⟩ := h
  have hr' := fun r e => (hr r e).2
  refine ⟨v, h.fr.grown hg (fun k e => .inr (by have := (hr k e).1; omega)), blk_grown hg hr' h.c2, blk_grown hg hr' h.c3, blk_grown hg hr' h.st, blk_grown hg hr' h.pv, blk_grown hg hr' h.iv, blk_grown hg hr' h.bx, h.row.1, ?_⟩
  rcases h.row.2 with h2 | ⟨g, cap, cur, hv, hb, hgg, r⟩
  · exact .inl h2
  · exact .inr ⟨g, cap, cur, hv, hb, blk_grown hg hr' hgg, r⟩

theorem OpnN.grow0 {w : World} {L : DL} {num : Int} {pre : List Bytes} {v : Value} {A B : World} (h : OpnN w L num pre v A) (hf : Fr [] A B) : OpnN w L num pre v B :=
  ⟨h.fr.trans hf, hf.heap h.c2 (by simp), hf.heap h.c3 (by simp), hf.heap h.st (by simp), hf.heap h.pv (by simp), hf.heap h.iv (by simp), hf.heap h.bx (by simp), ownsRow_fr h.row hf (by simp)⟩

theorem OpnN.setNum {w : World} {L : DL} {num : Int} {pre : List Bytes} {v : Value} {W : World} (h : OpnN w L num pre v W) (n : Int) : OpnN w L n pre v (W.drew.setCell ⟨w.heap.size + 2, 1, none⟩ (.int .i64 n)) := by
  have hf : Fr [w.heap.size + 2] W (W.drew.setCell ⟨w.heap.size + 2, 1, none⟩ (.int .i64 n)) := (Fr.refl _ _).drew.setCell (.inl (by simp)) _
  exact ⟨h.fr.then hf (by simp), hf.heap h.c2 (by simp), hf.heap h.c3 (by simp), heap_setCell_same' _ _ _ _ _ _ (show W.drew.heap[w.heap.size + 2]? = _ from h.st), hf.heap h.pv (by simp), hf.heap h.iv (by simp), hf.heap h.bx (by simp), ownsRow_fr h.row hf (by simp)⟩
theorem OpnN.row_free {w : World} {L : DL} {num : Int} {pre : List Bytes} {W : World} {g n c : Nat} {v : Value} (h : OpnN w L num pre v W) (hv : v = .slice (some ⟨g, 0, none⟩) n c) (j : Nat) : W.frozen? ⟨g, j, none⟩ = false := by
  rcases h.row.2 with ⟨h1, _⟩ | ⟨g', cap, cur, h1, _, hgg, _⟩
  · rw [h1] at hv; cases hv
  · rw [h1] at hv
    injection hv with h2
    injection h2 with h2
    injection h2 with h2
    subst h2
    exact blk_free hgg j
theorem OpnN.setRow {w : World} {L : DL} {num : Int} {pre : List Bytes} {W : World} {g c : Nat} {v : Value} {s : Bytes} {j n : Nat} (h : OpnN w L num pre v W) (hv : v = .slice (some ⟨g, 0, none⟩) n c) (hj : j < pre.length) :
    OpnN w L num (pre.set j s) v (W.setCell ⟨g, j, none⟩ (str s)).drew := by
  have hg6 := (h.row.lt g (by rw [hv]; rfl)).1
  have hf : Fr [g] W (W.setCell ⟨g, j, none⟩ (str s)).drew := ((Fr.refl _ _).setCell (.inl (by simp)) _).drew
  have hn : ∀ k, k ≤ w.heap.size + 5 → k ∉ [g] := by intro k hk; simp; omega
  refine ⟨h.fr.then hf (by intro i hi; simp at hi; omega), hf.heap h.c2 (hn _ (by omega)), hf.heap h.c3 (hn _ (by omega)), hf.heap h.st (hn _ (by omega)), hf.heap h.pv (hn _ (by omega)), hf.heap h.iv (hn _ (by omega)), hf.heap h.bx (hn _ (by omega)), ?_⟩
  refine ⟨by simp, ?_⟩
  rcases h.row.2 with ⟨h1, _⟩ | ⟨g', cap, cur, h1, h2, hgg, h3, h4, h5, h6⟩
  · rw [h1] at hv; cases hv
  · have e : g' = g := by
      rw [h1] at hv
      injection hv with e
      injection e with e
      injection e
    subst e
    refine .inr ⟨g', cap, cur.setIfInBounds j (str s), by rw [h1]; simp, h2, heap_setCell_same' _ _ _ _ _ _ hgg, by simpa using h3, h4, by simpa using h5, ?_⟩
    rw [Array.toList_setIfInBounds, List.take_set, List.length_set, List.map_set, h6]
theorem OpnN.frS {w : World} {L : DL} {num : Int} {pre : List Bytes} {v : Value} {A B : World} {S : List Nat} (h : OpnN w L num pre v A) (hf : Fr S A B) (hS : ∀ k ∈ S, w.heap.size + 6 ≤ k ∧ v.ownBlock ≠ some k) : OpnN w L num pre v B := by
  have hn : ∀ k, k ≤ w.heap.size + 5 → k ∉ S := fun k hk e => by have := (hS k e).1; omega
  exact ⟨h.fr.then hf (fun k hk => .inr (by have := (hS k hk).1; omega)), hf.heap h.c2 (hn _ (by omega)), hf.heap h.c3 (hn _ (by omega)), hf.heap h.st (hn _ (by omega)), hf.heap h.pv (hn _ (by omega)), hf.heap h.iv (hn _ (by omega)), hf.heap h.bx (hn _ (by omega)), ownsRow_fr' h.row hf (fun k hk e => (hS k e).2 hk)⟩
/-- Behind the replay: the disk has turned; the damaged pages are collected. -/
structure OpnE (w : World) (L : DL) (num : Int) (bv : Value) (pre : List Bytes) (v : Value) (W : World) : Prop where
  fr : Fr L.all w W
  c2 : W.heap[w.heap.size]? = some (.cells #[.pointer none] 60 (0, 0))
  c3 : W.heap[w.heap.size + 1]? = some (.cells #[.int .i64 0] 34 (0, 0))
  st : W.heap[w.heap.size + 2]? = some (.cells #[Dp L, .int .i64 num, bv, .bool false] 71 (0, 0))
  pv : W.heap[w.heap.size + 3]? = some (.cells #[.pointer (some ⟨w.heap.size + 2, 0, none⟩)] 60 (0, 0))
  iv : W.heap[w.heap.size + 4]? = some (.cells #[v] 30 (0, 0))
  row : W.ownsRow (w.heap.size + 6) 9 1 v pre.length (pre.map str)
theorem OpnE.of_run {w : World} {L : DL} {num : Int} {pre : List Bytes} {v : Value} {A B : World} (h : OpnN w L num pre v A) (hf : Fr L.all A B) (hL : ∀ k ∈ L.all, k < w.heap.size) : OpnE w L num (.slice none 0 0) pre v B := by
  have hn : ∀ k, w.heap.size ≤ k → k ∉ L.all := fun k hk e => by have := hL k e; omega
  exact ⟨h.fr.any.trans hf, hf.heap h.c2 (hn _ (by omega)), hf.heap h.c3 (hn _ (by omega)), hf.heap h.st (hn _ (by omega)), hf.heap h.pv (hn _ (by omega)), hf.heap h.iv (hn _ (by omega)), ownsRow_fr' h.row hf (fun k hk => hn k (by have := (h.row.lt k hk).1; omega))⟩
theorem OpnE.frS {w : World} {L : DL} {num : Int} {bv : Value} {pre : List Bytes} {v : Value} {A B : World} {S : List Nat} (h : OpnE w L num bv pre v A) (hf : Fr S A B) (hS : ∀ k ∈ S, w.heap.size + 6 ≤ k ∧ v.ownBlock ≠ some k) : OpnE w L num bv pre v B := by
  have hn : ∀ k, k ≤ w.heap.size + 5 → k ∉ S := fun k hk e => by have := (hS k e).1; omega
  exact ⟨h.fr.then hf (fun k hk => .inr (by have := (hS k hk).1; omega)), hf.heap h.c2 (hn _ (by omega)), hf.heap h.c3 (hn _ (by omega)), hf.heap h.st (hn _ (by omega)), hf.heap h.pv (hn _ (by omega)), hf.heap h.iv (hn _ (by omega)), ownsRow_fr' h.row hf (fun k hk e => (hS k e).2 hk)⟩
theorem OpnE.setBad {w : World} {L : DL} {num : Int} {bv : Value} {pre : List Bytes} {v : Value} {A : World} (h : OpnE w L num bv pre v A) (u : Value) (hg : ∀ k, v.ownBlock = some k → w.heap.size + 6 ≤ k) : OpnE w L num u pre v (A.setCell ⟨w.heap.size + 2, 2, none⟩ u) := by
  have hf : Fr [w.heap.size + 2] A (A.setCell ⟨w.heap.size + 2, 2, none⟩ u) := (Fr.refl _ _).setCell (.inl (by simp)) _
  refine ⟨h.fr.then hf (by simp), hf.heap h.c2 (by simp), hf.heap h.c3 (by simp), ?_, hf.heap h.pv (by simp), hf.heap h.iv (by simp), ownsRow_fr' h.row hf (fun k hk e => by have := hg k hk; simp at e; omega)⟩
  exact heap_setCell_same' _ _ _ _ _ _ h.st
theorem OpnN.lt5 {w : World} {L : DL} {num : Int} {pre : List Bytes} {v : Value} {W : World} (h : OpnN w L num pre v W) : w.heap.size + 5 < W.heap.size := lt_of_heap h.bx
theorem six_new (w : World) (o0 o1 o2 o3 o4 o5 : Obj) : ((((((w.alloc o0).alloc o1).alloc o2).alloc o3).alloc o4).alloc o5).heap = (((((w.heap.push o0).push o1).push o2).push o3).push o4).push o5 := rfl
theorem six_get (h : Array Obj) (o0 o1 o2 o3 o4 o5 : Obj) : ((((((h.push o0).push o1).push o2).push o3).push o4).push o5)[h.size]? = some o0 ∧ ((((((h.push o0).push o1).push o2).push o3).push o4).push o5)[h.size + 1]? = some o1 ∧ ((((((h.push o0).push o1).push o2).push o3).push o4).push o5)[h.size + 2]? = some o2 ∧
    ((((((h.push o0).push o1).push o2).push o3).push o4).push o5)[h.size + 3]? = some o3 ∧ ((((((h.push o0).push o1).push o2).push o3).push o4).push o5)[h.size + 4]? = some o4 ∧ ((((((h.push o0).push o1).push o2).push o3).push o4).push o5)[h.size + 5]? = some o5 := by
  refine ⟨?_, ?_, ?_, ?_, ?_, ?_⟩ <;>
    · simp only [Array.getElem?_push, Array.size_push]
      repeat (rw [if_neg (by omega)])
      simp
theorem Opn.start (w : World) (L : DL) : Opn w L [] (.slice none 0 0) ((((((w.alloc (.cells #[.pointer none] 60)).alloc (.cells #[.int .i64 0] 34)).alloc (.cells #[Dp L, .int .i64 0, .slice none 0 0, .bool false] 71)).alloc (.cells #[.pointer (some ⟨w.heap.size + 2, 0, none⟩)] 60)).alloc (.cells #[.slice none 0 0] 30)).alloc (.cells #[Dp L] 26)) := by
  obtain ⟨h0, h1, h2, h3, h4, h5⟩ := six_get w.heap (.cells #[.pointer none] 60) (.cells #[.int .i64 0] 34) (.cells #[Dp L, .int .i64 0, .slice none 0 0, .bool false] 71) (.cells #[.pointer (some ⟨w.heap.size + 2, 0, none⟩)] 60) (.cells #[.slice none 0 0] 30) (.cells #[Dp L] 26)
  exact ⟨((((((Fr.refl _ _).alloc _).alloc _).alloc _).alloc _).alloc _).alloc _, h0, h1, h2, h3, h4, h5, World.ownsRow_nil _ _ _ _⟩

structure OpnH (w : World) (L : DL) (num : Int) (v : Value) (W : World) : Prop where
  fr : Fr [] w W
  c2 : W.heap[w.heap.size]? = some (.cells #[.pointer none] 60 (0, 0))
  c3 : W.heap[w.heap.size + 1]? = some (.cells #[.int .i64 0] 34 (0, 0))
  st : W.heap[w.heap.size + 2]? = some (.cells #[Dp L, .int .i64 num, .slice none 0 0, .bool false] 71 (0, 0))
  pv : W.heap[w.heap.size + 3]? = some (.cells #[.pointer (some ⟨w.heap.size + 2, 0, none⟩)] 60 (0, 0))
  iv : W.heap[w.heap.size + 4]? = some (.cells #[v] 30 (0, 0))
  bx : W.heap[w.heap.size + 5]? = some (.cells #[Dp L] 26 (0, 0))
theorem OpnN.app {w : World} {L : DL} {num : Int} {pre : List Bytes} {v v' : Value} {A B : World} {ys : List Value} {n : Nat} (h : OpnN w L num pre v A) (hown : B.ownsRow (w.heap.size + 6) 9 1 v' n ys) (hg : A.grownBy B v.ownBlock) :
    OpnH w L num v B ∧ KeepsOthers A B ∧ Kq w.heap.size (w.heap.size + 5) A B := by
  have hlt := h.row.lt
  have hb : ∀ {k : Nat} {o : Obj}, k ≤ w.heap.size + 5 → A.heap[k]? = some o → B.heap[k]? = some o := by
    intro k o hk ho
    rw [hg.block k (lt_of_heap' ho) (fun e => by have := (hlt k e.symm).1; omega)]
    exact ho
  have hf : Fr v.ownBlock.toList A B := (Fr.refl _ A).grown hg (fun k e => .inl (by simp [e]))
  refine ⟨⟨h.fr.grown hg (fun k e => .inr (by have := (hlt k e).1; omega)), hb (by omega) h.c2, hb (by omega) h.c3, hb (by omega) h.st, hb (by omega) h.pv, hb (by omega) h.iv, hb (by omega) h.bx⟩, ?_, ?_⟩
  · refine KeepsOthers.of_grownBy hg ?_
    intro j o e ho
    rcases h.row.2 with ⟨hv, _⟩ | ⟨g, cap, cur, hv, _, hgg, _⟩
    · rw [hv] at e; cases e
    · rw [hv] at e
      have e' : g = j := by injection e
      subst e'
      rw [hgg] at ho
      cases ho
      rfl
  · refine Kq.fr hf (by have := h.lt5; omega) h.lt5 ?_
    intro k hk
    have := (hlt k (by simpa [Option.mem_toList, eq_comm] using hk)).1
    omega
theorem OpnH.put {w : World} {L : DL} {num : Int} {pre : List Bytes} {v v' : Value} {B : World} (h : OpnH w L num v B) (hown : B.ownsRow (w.heap.size + 6) 9 1 v' pre.length (pre.map str)) :
    OpnN w L num pre v' (B.setCell ⟨w.heap.size + 4, 0, none⟩ v') := by
  have hf : Fr [w.heap.size + 4] B (B.setCell ⟨w.heap.size + 4, 0, none⟩ v') := (Fr.refl _ _).setCell (.inl (by simp)) _
  exact ⟨h.fr.then hf (by simp), hf.heap h.c2 (by simp), hf.heap h.c3 (by simp), hf.heap h.st (by simp), hf.heap h.pv (by simp), heap_setCell_same' _ _ _ _ _ _ h.iv, hf.heap h.bx (by simp), ownsRow_fr hown hf (by simp)⟩

theorem run_notAgg {P : Program} {w : World} {T : TypeId} {d : TypeDesc} (hu : P.underlying T = some d) (hd : (match d with | .struct _ | .array _ _ => true | _ => false) = false) : (isAgg T).run P w = .ok false w := by
  unfold isAgg
  rw [Sem.run_bind, run_underlying hu w]
  cases d <;> simp_all
theorem run_loadVar_one {P : Program} {w : World} {T : TypeId} {d : TypeDesc} (hu : P.underlying T = some d) (hd : (match d with | .struct _ | .array _ _ => true | _ => false) = false) {g : Nat} {u : Value} {t : TypeId} (e : w.heap[g]? = some (.cells #[u] t (0, 0))) :
    (loadVar T ⟨g, 0, none⟩).run P w = .ok u w := by
  have hc : w.cell? ⟨g, 0, none⟩ = some u := blk_cell e 0 rfl
  unfold loadVar
  rw [Sem.run_bind, run_notAgg hu hd]
  simp [Result.andThen, go_sem, hc]
theorem leaves_two {P : Program} {fn : Func} {n p q : Nat} {T U : TypeId} {dT dU : TypeDesc} {R : Ending → World → Prop} {w : World} {tmps : Array Value} (hres : fn.results = #[.cell p T, .cell q U]) (huT : P.underlying T = some dT) (hdT : (match dT with | .struct _ | .array _ _ => true | _ => false) = false)
    (huU : P.underlying U = some dU) (hdU : (match dU with | .struct _ | .array _ _ => true | _ => false) = false) {g h : Nat} {u v : Value} {t1 t2 : TypeId} (hp : tmps.getD p undef = .pointer (some ⟨g, 0, none⟩)) (hq : tmps.getD q undef = .pointer (some ⟨h, 0, none⟩))
    (e2 : w.heap[g]? = some (.cells #[u] t1 (0, 0))) (e3 : w.heap[h]? = some (.cells #[v] t2 (0, 0)))
    (hR : R (.returned (.tuple #[u, v])) w) : LeavesInM Fence.wide n P fn tmps R [] .returning w := by
  refine ⟨.tuple #[u, v], ?_, hR⟩
  have h1 := run_loadVar_one huT hdT e2
  have h2 := run_loadVar_one huU hdU e3
  simp only [Array.getD_eq_getD_getElem?] at hp hq
  simp [results, hres, Sem.run_bind, hp, hq, asAddr, h1, h2, Result.andThen]

section
variable {F : Fence} {n : Nat} {P : Program} {ops : Array Oper} {Q : Exit → Act → World → Prop} {a : Act} {w : World} {rest : List Oper} {o : Oper}
theorem wpLI_stop (h : Hold (wpListIn F n P ops Q (o :: rest) a w)) : wpListIn F n P ops Q (o :: rest) a w := h
theorem wpLI_append (hgd : o.guard = none) (s x : Operand) (T : TypeId) (ho : o.op = .call { callee := .builtin .append, args := #[s, x], argTypes := #[T, T] })
    (base : Nat) (E : TypeId) (z : Value) (size bytes : Nat) (hT : P.underlying T = some (.slice E)) (info : (P.info? E).map (fun i => (i.zero, i.size, i.bytes)) = some (some z, size, bytes)) (hzs : z.cells.size = size) (hsz : 0 < size) (hby : bytes ≤ 4096)
    (v : Value) (k : Nat) (xs : List Value) (hs : a.eval s = v) (hown : w.ownsRow base E size v k xs)
    (g m : Nat) (news : List Value) (hx : a.eval x = .slice (some ⟨g, 0, none⟩) m m) (hl : news.length = m * size) (t : TypeId) (fz : Nat × Nat) (hg : w.heap[g]? = some (.cells news.toArray t fz)) (h1 : ∀ u ∈ news, u.oneCell' = true)
    (hb : k + m ≤ 1000000000) (hbase : base ≤ w.heap.size)
    (h : ∀ v' w', w'.ownsRow base E size v' (k + m) (xs ++ news) → w.grownBy w' v.ownBlock → wpListIn F n P ops Q rest (a.put o.dst v') w') :
    wpListIn F n P ops Q (o :: rest) a w := by
  cases hq : P.info? E with
  | none => simp [hq] at info
  | some i =>
    obtain ⟨hz, hsi, hbi⟩ : i.zero = some z ∧ i.size = size ∧ i.bytes = bytes := by simpa [hq] using info
    refine wpListIn_append_own w hgd s x T ho base E i z size bytes hT hq hz hsi hbi hzs hsz v k xs hs hown ⟨g, 0, none⟩ m m news hx hl ?_ h1 (by unfold maxLen; omega) ?_ hbase (fun v' w' r1 r2 _ => h v' w' r1 r2)
    · intro j u hj
      rw [addr_add, cell_of_row w g _ _ t fz hg, Nat.zero_add]
      simpa using hj
    · calc (k + m) * bytes ≤ 1000000000 * 4096 := Nat.mul_le_mul hb hby
        _ ≤ 140737488355328 := by omega
end

section
variable {w : World} {L : DL} {d : Disk}

theorem num_lt4 (s : Bytes) (h : s.length ≤ 4) : num s < 4294967296 :=
  Nat.lt_of_lt_of_le (num_lt s) (by
    calc 256 ^ s.length ≤ 256 ^ 4 := Nat.pow_le_pow_right (by omega) h
      _ = 4294967296 := by decide)

theorem image128 (h : DiskOk d) : ∃ xs : List P128, xs.map (·.1) = (List.range d.pg.length).map d.now := by
  have hall : ∀ s ∈ (List.range d.pg.length).map d.now, s.length = 128 := by
    intro s hs
    obtain ⟨k, hk, rfl⟩ := List.mem_map.1 hs
    have hk' : k < d.pg.length := by simpa using hk
    have hg : d.pg[k]? = some d.pg[k] := List.getElem?_eq_getElem hk'
    simp only [Disk.now, hg, Option.getD_some, Pg.now]
    cases hb : d.pg[k].new with
    | none => exact h.olds _ (List.getElem_mem hk')
    | some b => exact h.news _ (List.getElem_mem hk') b hb
  refine ⟨((List.range d.pg.length).map d.now).attach.map fun x => ⟨x.1, hall x.1 x.2⟩, ?_⟩
  rw [List.map_map]
  exact List.attach_map_subtype_val _

set_option maxRecDepth 100000 in
set_option maxHeartbeats 1000000 in
theorem pOpen_calls (D : DiskAt w L d) (hoff : d.off = false) (htr : d.trip = -1) (h18 : 18 ≤ d.pg.length) : Calls Tryz.prog 22 #[Dp L] w fun e w' =>
    ∃ pl, e = .returned (.tuple #[Pp pl, .int .i64 0]) ∧ DiskAt w' L (openAt d).1 ∧ PagesAt w' pl L (openAt d).2 ∧ Fr L.all w w' ∧ ∀ k ∈ pl.all, w.heap.size ≤ k := by
  have hres : openAt d = ((runAll d (openSteps d.seen)).2, ⟨openNum d.seen, badsFrom 0 ((replayed d.seen).drop 17), false⟩) := rfl
  generalize openAt d = res at hres ⊢
  have HRES := Lib.hid hres
  clear hres
  have few := D.ok.few
  have hdl : d.len = (d.pg.length : Int) := by simp [Disk.len]
  have f1 : (17 : Int) < d.pg.length := by omega
  refine (callsIn_wide (n := 5)).1 ?_
  refine callsIn_of_wp_marks Tryz.func22 rfl trivial ?_ rfl
  rw [wpIn_wide]
  simp only [Tryz.ntmps22, List.size_toArray, List.length_cons, List.length_nil, Nat.reduceAdd, Nat.reduceSub, Array.replicate_succ, Array.replicate_zero, List.push_toArray, List.append_toArray, List.nil_append, List.cons_append]
  go_wp2_with (go_at_call 30; refine (dLen_calls (D.fr0 (((Fr.refl _ _).alloc _).alloc _))).mono ?_; rintro e w' ⟨rfl, rfl⟩)
  have O6 : Opn w L [] (.slice none 0 0) ((((((w.alloc (.cells #[.pointer none] 60)).alloc (.cells #[.int .i64 0] 34)).alloc (.cells #[Dp L, .int .i64 0, .slice none 0 0, .bool false] 71)).alloc (.cells #[.pointer (some ⟨w.heap.size + 1 + 1, 0, none⟩)] 60)).alloc (.cells #[.slice none 0 0] 30)).alloc (.cells #[Dp L] 26)) := Opn.start w L
  have sz5 : (((((w.alloc (.cells #[.pointer none] 60)).alloc (.cells #[.int .i64 0] 34)).alloc (.cells #[Dp L, .int .i64 0, .slice none 0 0, .bool false] 71)).alloc (.cells #[.pointer (some ⟨w.heap.size + 1 + 1, 0, none⟩)] 60)).alloc (.cells #[.slice none 0 0] 30)).heap.size = w.heap.size + 5 := by simp
  generalize (((((w.alloc (.cells #[.pointer none] 60)).alloc (.cells #[.int .i64 0] 34)).alloc (.cells #[Dp L, .int .i64 0, .slice none 0 0, .bool false] 71)).alloc (.cells #[.pointer (some ⟨w.heap.size + 1 + 1, 0, none⟩)] 60)).alloc (.cells #[.slice none 0 0] 30)) = w5 at O6 sz5 ⊢
  refine (pAll_calls L w5).mono ?_
  rintro e w6 ⟨rfl, rfl⟩
  rw [sz5]
  go_wp2_with fail
  have sz6 : (w5.alloc (.cells #[Dp L] 26)).heap.size = w.heap.size + 6 := by rw [World.size_alloc, sz5]
  generalize w5.alloc (.cells #[Dp L] 26) = w6 at O6 sz6 ⊢
  have F6 := O6.fr
  have hg6 := O6.bx
  obtain ⟨xs, hxs⟩ := image128 D.ok
  have hxl : xs.length = d.pg.length := by have := congrArg List.length hxs; simpa using this
  rw [← wpIn_wide (n := 5)]
  refine wpIn_rangeFunc_ownF (F := Fence.wide) rfl (by omega) (gf := 55) (lb := #[.pointer (some ⟨w.heap.size + 5, 0, none⟩)]) rfl trivial (enters_of Tryz.func55 (by kernel_rfl) rfl)
    (pAll_stops (w := w6) (d := d) (L := L) 4 (by omega) (w.heap.size + 5) w.heap.size hoff xs hxs (by omega) (by omega) (by rw [cell_of_row _ _ _ _ _ _ hg6]; rfl) (D.fr0 F6) D.lt)
    Kq.trans (fun W l o o' hl h _ _ => Kq.putObj (B := w6.heap.size) (by omega) (by omega) W l o o' hl h) (Below.refl _ _) (fun _ => rfl)
    (OpnI w L) (fun _ _ _ => False) (Opn.own w L _ (by omega)) (fun _ _ _ _ _ hs _ _ => hs) ⟨_, O6⟩ ?a1 ?assign ?body ?done ?stop
  case assign =>
    intro l x W K hK
    simp only [enc2]
    gi_wp2
    exact hK
  case body =>
    rintro l pre x W ⟨v, O⟩ hlen
    have hx := x.2
    have e1 : (x.1.length : Int) = 128 := by omega
    have p1 : ({ data := List.toArray x.1 } : ByteArray).extract 0 4 = ⟨(x.1.take 4).toArray⟩ := by rw [str_part]; simp
    have p2 : ({ data := List.toArray x.1 } : ByteArray).extract 124 128 = ⟨(x.1.drop 124).toArray⟩ := by rw [str_part, List.take_of_length_le (by omega)]

    gi_wp2_with fail
    have q1 : (x.1.take 4).length ≤ 7 := by rw [List.length_take]; omega
    have q2 : (x.1.drop 124).length ≤ 7 := by rw [List.length_drop]; omega
    have hw124 : IntKind.i64.wrap 124 = 124 := by decide
    refine wpIn_region_round (by kernel_rfl) (by kernel_rfl) ?_
    refine anyTake (i := 0) (v := ?_) rfl (by kernel_rfl) (by kernel_rfl) (by kernel_rfl) rfl (fun w => ?_) ?_
    rotate_left 1
    · go_simp; with_reducible rfl
    try simp only [Act.put, List.setIfInBounds_toArray, List.set_cons_zero, List.set_cons_succ]
    refine anyTake (i := 1) (v := ?_) rfl (by kernel_rfl) (by kernel_rfl) (by kernel_rfl) rfl (fun w => ?_) ?_
    rotate_left 1
    · go_simp; with_reducible rfl
    try simp only [Act.put, List.setIfInBounds_toArray, List.set_cons_zero, List.set_cons_succ]
    refine anyTake (i := 3) (v := ?_) rfl (by kernel_rfl) (by kernel_rfl) (by kernel_rfl) rfl (fun w => ?_) ?_
    rotate_left 1
    · go_simp; with_reducible rfl
    try simp only [Act.put, List.setIfInBounds_toArray, List.set_cons_zero, List.set_cons_succ]
    refine anyTake (i := 4) (v := ?_) rfl (by kernel_rfl) (by kernel_rfl) (by kernel_rfl) rfl (fun w => ?_) ?_
    rotate_left 1
    · go_simp; with_reducible rfl
    try simp only [Act.put, List.setIfInBounds_toArray, List.set_cons_zero, List.set_cons_succ]
    refine anyTake (i := 5) (v := ?_) rfl (by kernel_rfl) (by kernel_rfl) (by kernel_rfl) rfl (fun w => ?_) ?_
    rotate_left 1
    · go_simp; with_reducible rfl
    try simp only [Act.put, List.setIfInBounds_toArray, List.set_cons_zero, List.set_cons_succ]
    refine anyTake (i := 6) (v := ?_) rfl (by kernel_rfl) (by kernel_rfl) (by kernel_rfl) rfl (fun w => ?_) ?_
    rotate_left 1
    · go_simp; with_reducible rfl
    try simp only [Act.put, List.setIfInBounds_toArray, List.set_cons_zero, List.set_cons_succ]
    refine anyTake (i := 7) (v := ?_) rfl (by kernel_rfl) (by kernel_rfl) (by kernel_rfl) rfl (fun w => ?_) ?_
    rotate_left 1
    · go_simp; with_reducible rfl
    try simp only [Act.put, List.setIfInBounds_toArray, List.set_cons_zero, List.set_cons_succ]
    refine anyTake (i := 11) (v := ?_) rfl (by kernel_rfl) (by kernel_rfl) (by kernel_rfl) rfl (fun w => ?_) ?_
    rotate_left 1
    · go_simp; with_reducible rfl
    try simp only [Act.put, List.setIfInBounds_toArray, List.set_cons_zero, List.set_cons_succ]
    refine wpAny_ready (rs := [2]) (by kernel_rfl) (by simp) ?_
    refine AllReady.cons rfl (fun K hK => ?_) AllReady.nil
    go_simp
    refine (pnum_calls _ q1 _).mono ?_
    rintro e w' ⟨rfl, rfl⟩
    try dsimp only
    refine hK _ _ ?_
    clear hK K
    try simp only [Act.put, List.setIfInBounds_toArray, List.set_cons_zero, List.set_cons_succ]
    refine wpAny_ready (rs := [8]) (by kernel_rfl) (by simp) ?_
    refine AllReady.cons rfl (fun K hK => ?_) AllReady.nil
    go_simp
    refine (pnum_calls _ q2 _).mono ?_
    rintro e w' ⟨rfl, rfl⟩
    try dsimp only
    refine hK _ _ ?_
    clear hK K
    try simp only [Act.put, List.setIfInBounds_toArray, List.set_cons_zero, List.set_cons_succ]
    refine wpAny_ready (rs := [9]) (by kernel_rfl) (by simp) ?_
    refine AllReady.cons rfl (fun K hK => ?_) AllReady.nil
    go_simp
    try dsimp only
    refine hK _ _ ?_
    clear hK K
    try simp only [Act.put, List.setIfInBounds_toArray, List.set_cons_zero, List.set_cons_succ]
    refine wpAny_ready (rs := [10]) (by kernel_rfl) (by simp) ?_
    refine AllReady.cons rfl (fun K hK => ?_) AllReady.nil
    go_simp
    try dsimp only
    refine hK _ _ ?_
    clear hK K
    try simp only [Act.put, List.setIfInBounds_toArray, List.set_cons_zero, List.set_cons_succ]
    refine wpAny_done (by kernel_rfl) ?_ _
    refine ⟨rfl, ?_⟩
    have hC := heap_alloc_new W (.cells #[.int .i64 (num (x.1.take 4)), .int .i64 (num (x.1.drop 124))] 3)
    have hF : Fr [] W (W.alloc (.cells #[.int .i64 (num (x.1.take 4)), .int .i64 (num (x.1.drop 124))] 3)).drew := ((Fr.refl [] W).alloc _).drew
    have hO : OpnN w L (openNum (pre.map (·.1))) (pre.map (·.1)) v (W.alloc (.cells #[.int .i64 (num (x.1.take 4)), .int .i64 (num (x.1.drop 124))] 3)).drew := O.grow0 hF
    have hKO : KeepsOthers W (W.alloc (.cells #[.int .i64 (num (x.1.take 4)), .int .i64 (num (x.1.drop 124))] 3)).drew := (KeepsOthers.alloc _ _).trans (KeepsOthers.drew _)
    have hQ : Kq w.heap.size (w.heap.size + 5) W (W.alloc (.cells #[.int .i64 (num (x.1.take 4)), .int .i64 (num (x.1.drop 124))] 3)).drew := Kq.fr hF (by have := O.fr.size; omega) O.lt5 (by simp)
    have hCC : (W.alloc (.cells #[.int .i64 (num (x.1.take 4)), .int .i64 (num (x.1.drop 124))] 3)).drew.heap[W.heap.size]? = some (.cells (natv [num (x.1.take 4), num (x.1.drop 124)]).toArray 3 (0, 0)) := hC
    have hlW : w.heap.size + 5 < W.heap.size := O.lt5
    generalize hl2 : [num (x.1.take 4), num (x.1.drop 124)] = l2 at hCC
    have hl2l : l2.length = 2 := by rw [← hl2]; rfl
    have hlt2 : ∀ m ∈ l2, m < 4294967296 := by
      intro m hm
      rw [← hl2] at hm
      rcases List.mem_cons.1 hm with rfl | hm
      · exact num_lt4 _ (by rw [List.length_take]; omega)
      · have e : m = num (x.1.drop 124) := by simpa using hm
        rw [e]
        exact num_lt4 _ (by rw [List.length_drop]; omega)
    generalize (W.alloc (.cells #[.int .i64 (num (x.1.take 4)), .int .i64 (num (x.1.drop 124))] 3)).drew = Wa at hF hO hKO hQ hCC ⊢
    clear hC
    have HL2 := Lib.hid hl2
    clear hl2
    gi_wp2_with fail
    gi_loopg [43] 2 (fun kq i w' => ∃ k : Nat, i = .int .i64 k ∧ k ≤ 2 ∧ Hid (kq + k = 2) ∧ OpnN w L ((l2.take k).foldl upd (openNum (pre.map (·.1)))) (pre.map (·.1)) v w' ∧ KeepsOthers W w' ∧ Kq w.heap.size (w.heap.size + 5) W w' ∧ w'.heap[W.heap.size]? = some (.cells (natv l2).toArray 3 (0, 0)))
    case atStart => exact ⟨0, rfl, by omega, by simp [Hid], hO, hKO, hQ, hCC⟩
    case round =>
      obtain ⟨k, rfl, hk, hkq, hOr, hKr, hQr, hCr⟩ := hrel
      by_cases hlt : k < 2
      · have hlt' : (k : Int) < 2 := by omega
        obtain ⟨m, hm⟩ : ∃ m, l2[k]? = some m := ⟨l2[k], List.getElem?_eq_getElem (by omega)⟩
        have hmc : wr.cell? ⟨W.heap.size, k, none⟩ = some (.int .i64 m) := blk_cell hCr k (by simp [natv, hm])
        have hfold := take_snoc hm
        have hm4 := hlt2 m (List.mem_of_getElem? hm)
        have HF : Hid ((l2.take (k + 1)).foldl upd (openNum (pre.map (·.1))) = upd ((l2.take k).foldl upd (openNum (pre.map (·.1)))) m) := by unfold Hid; rw [hfold]; simp
        clear hm hfold
        generalize (l2.take k).foldl upd (openNum (pre.map (·.1))) = a0 at hOr HF
        by_cases hmx : (m : Int) ≤ 1073741824
        · have pvc : wr.cell? ⟨w.heap.size + 1 + 1 + 1, 0, none⟩ = some (.pointer (some ⟨w.heap.size + 2, 0, none⟩)) := blk_cell hOr.pv 0 rfl
          have stc : wr.cell? ⟨w.heap.size + 2, 1, none⟩ = some (.int .i64 a0) := blk_cell hOr.st 1 rfl
          have stf : wr.frozen? ⟨w.heap.size + 2, 1, none⟩ = false := blk_free hOr.st 1
          gi_wp2_with fail
          refine wpIn_region_tail_round 9 (by kernel_rfl) (by kernel_rfl) (by kernel_rfl) ?_
          simp only [List.take_succ_cons, List.take_zero, List.drop_succ_cons, List.drop_zero]
          iterate 9 still_step
          refine wpStill_nil ?_
          go_wp2_with fail
          refine ⟨rfl, ?_⟩
          have hmax : upd a0 m = max a0 m := by unfold upd; rw [if_pos hmx]
          gi_wp2_with fail
          gi_roundg (gk - 1)
          case measure => have := hkq.out; omega
          case rel =>
            refine ⟨k + 1, by go_num, by omega, by have := hkq.out; unfold Hid; omega, ?_, ?_, ?_, ?_⟩
            · rw [HF.out, hmax]; exact hOr.setNum _
            · exact hKr.trans ((KeepsOthers.drew _).trans (KeepsOthers.setCell _ _ _))
            · exact hQr.trans (Kq.fr (S := [w.heap.size + 2]) ((Fr.refl _ _).drew.setCell (.inl (by simp)) _) (by have := hQr.1.size; omega) (by have := hOr.lt5; omega) (by simp))
            · exact (heap_setCell_other wr ⟨w.heap.size + 2, 1, none⟩ W.heap.size (.int .i64 (max a0 m)) (by show W.heap.size ≠ w.heap.size + 2; omega)).trans hCr
        · have hmx' : decide ((m : Int) ≤ 1073741824) = false := by simpa using hmx
          have hmax : upd a0 m = a0 := by unfold upd; rw [if_neg hmx]
          gi_wp2_with fail
          gi_roundg (gk - 1)
          case measure => have := hkq.out; omega
          case rel =>
            refine ⟨k + 1, by go_num, by omega, by have := hkq.out; unfold Hid; omega, ?_, hKr, hQr, hCr⟩
            rw [HF.out, hmax]; exact hOr
      · obtain rfl : k = 2 := by omega
        have hlt' : decide ((2 : Int) < 2) = false := by simp
        have ivc : wr.cell? ⟨w.heap.size + 1 + 1 + 1 + 1, 0, none⟩ = some v := blk_cell hOr.iv 0 rfl
        have ivf : wr.frozen? ⟨w.heap.size + 1 + 1 + 1 + 1, 0, none⟩ = false := blk_free hOr.iv 0
        gi_wp2_with (with_reducible refine wpLI_stop (o := ⟨_, .call { callee := .builtin .append, args := _, argTypes := _ }, _, _, _, none⟩) ?_)
        have hfA : Fr [] wr (wr.alloc (.cells #[str x.1] 9)) := (Fr.refl [] wr).alloc _
        have hA := hOr.grow0 hfA
        have hgA := heap_alloc_new wr (.cells #[str x.1] 9)
        have hKA := hKr.trans (KeepsOthers.alloc wr (.cells #[str x.1] 9))
        have hQA := hQr.trans (Kq.fr (m := w.heap.size) (Bn := w.heap.size + 5) hfA (by have := hOr.lt5; omega) hOr.lt5 (by simp))
        have hsA : w.heap.size + 5 < (wr.alloc (.cells #[str x.1] 9)).heap.size := hA.lt5
        generalize (wr.alloc (.cells #[str x.1] 9)) = wa at hA hgA hKA hQA hsA ⊢
        refine unhold (wpLI_append rfl _ _ 30 rfl (w.heap.size + 6) 9 _ 1 16 Tryz.underlying30 strInfo rfl (by decide) (by decide) v pre.length ((pre.map (·.1)).map str) rfl (by simpa using hA.row) wr.heap.size 1 [str x.1] rfl rfl _ _ hgA (by simp [Value.oneCell']) (by omega) (by omega) ?_)
        intro v' w2 hown hgr
        obtain ⟨hB, hKB, hQB⟩ := hA.app hown hgr
        have ivc2 : w2.cell? ⟨w.heap.size + 1 + 1 + 1 + 1, 0, none⟩ = some v := blk_cell hB.iv 0 rfl
        have ivf2 : w2.frozen? ⟨w.heap.size + 1 + 1 + 1 + 1, 0, none⟩ = false := blk_free hB.iv 0
        have hrow : w2.ownsRow (w.heap.size + 6) 9 1 v' ((pre ++ [x]).map (·.1)).length (((pre ++ [x]).map (·.1)).map str) := by
          simpa using hown
        obtain ⟨vp', vc', rfl⟩ := ownsRow_len hown
        gi_wp2_with fail
        have hnum : (l2.take 2).foldl upd (openNum (pre.map (·.1))) = openNum ((pre ++ [x]).map (·.1)) := by
          rw [← HL2.out]
          simp [openNum]
        rw [hnum] at hB
        exact ⟨hKA.trans (hKB.trans (KeepsOthers.setCell _ _ _)), hQA.trans (hQB.trans (Kq.fr (S := [w.heap.size + 4]) ((Fr.refl _ _).setCell (.inl (by simp)) _) (by have := hB.fr.size; omega) (lt_of_heap hB.bx) (by simp))), _, hB.put hrow⟩
  case done =>
    rintro Dd ys W hDd rfl ⟨v, O⟩ hDef
    have hIM : ys.map (·.1) = d.seen := hxs
    have hys : ys.length = (ys.map (·.1)).length := by simp
    rw [hIM] at O hys
    have h128 : ∀ s ∈ d.seen, s.length = 128 := by
      intro s hs
      rw [← hIM] at hs
      obtain ⟨x, hx, rfl⟩ := List.mem_map.1 hs
      exact x.2
    have hIML : d.seen.length = d.pg.length := by simp [Disk.seen]
    have hok := openSteps_ok (d := d) hIML hoff htr
    have hres := HRES.out
    have hst : openSteps d.seen = putsN d.seen (targets d.seen) (targets d.seen).length ++ if targets d.seen = [] then [] else [.flush] := rfl
    have hrp : replayed d.seen = replayN d.seen (targets d.seen) (targets d.seen).length := rfl
    rw [hrp] at hres
    generalize openSteps d.seen = sts at hok hst hres
    have nb := openNum_bound d.seen
    change OpnN w L (openNum d.seen) d.seen v W at O
    generalize hnu : openNum d.seen = nu at O nb hres
    generalize d.seen = im at O h128 hIML hst hys hres
    clear hnu hIM hxs hrp HRES
    have htc := pTargets_calls (w := W) O.row h128 (by omega) (by omega)
    obtain ⟨t16, tsp⟩ := targets_spec im
    generalize targets im = ts at htc t16 tsp hst hres
    have HST := Lib.hid hst
    have HOK := Lib.hid hok
    have HRES := Lib.hid hres
    have m18 : 18 ≤ im.length := by omega
    have m4096 : im.length ≤ 4096 := by omega
    have HIML := Lib.hid hIML
    clear hst hok hres hIML hys hxl
    have ivc : W.cell? ⟨w.heap.size + 1 + 1 + 1 + 1, 0, none⟩ = some v := blk_cell O.iv 0 rfl
    obtain ⟨g, vc, rfl⟩ : ∃ g vc, v = .slice (some ⟨g, 0, none⟩) im.length vc := by
      rcases O.row.2 with ⟨_, h0⟩ | ⟨g, cap, cur, hv, _⟩
      · omega
      · exact ⟨g, cap, hv⟩
    go_wp2_with fail
    refine htc.mono ?_
    rintro e w1 ⟨u, rfl, U, f1⟩
    obtain ⟨up, uc, rfl⟩ := ownsRow_len U
    have O1 := O.grow0 f1
    have hgW : g < W.heap.size := (O.row.lt g rfl).2
    have hg6 : w.heap.size + 6 ≤ g := (O.row.lt g rfl).1
    have hDef1 := f1.heap hDef (by simp)
    have hDg : Dd ≠ g := by
      intro e
      rcases O.row.2 with ⟨hv, _⟩ | ⟨g', cap, cur, hv, _, hgg, _⟩
      · cases hv
      · have : g = g' := by injection hv with h1; injection h1 with h1; injection h1
        rw [← this, ← e, hDef] at hgg
        cases hgg
    go_wp2_with fail
    go_loopg [10, 66] ts.length (fun kq v10 i w' => ∃ (n : Nat) (H : List Nat), i = .int .i64 n ∧ n ≤ ts.length ∧ Hid (kq + n = ts.length) ∧ OpnN w L nu (replayN im ts n) (.slice (some ⟨g, 0, none⟩) im.length vc) w' ∧ Lst w1.heap.size H w' L v10 (putsN im ts n) ∧ (∀ k ∈ H, w1.heap.size ≤ k ∧ k < w'.heap.size) ∧ Fr [g] w1 w')
    case atStart => exact ⟨0, [], rfl, by omega, by simp [Hid], O1, ⟨⟨[], World.ownsRow_nil _ _ _ _, by simp⟩, by simp⟩, by simp, Fr.refl _ _⟩
    case round =>
      obtain ⟨n, H, rfl, hn, hkq, On, hL, hH, hf⟩ := hrel
      by_cases hlt : n < ts.length
      · have hlt' : (n : Int) < (ts.length : Int) := by omega
        have n16 : (n : Int) < 16 := by omega
        obtain ⟨x, hx⟩ : ∃ x, ts[n]? = some x := ⟨ts[n], List.getElem?_eq_getElem hlt⟩
        have hxl := tsp n x hx
        have ivn : wr.cell? ⟨w.heap.size + 1 + 1 + 1 + 1, 0, none⟩ = some (.slice (some ⟨g, 0, none⟩) im.length vc) := blk_cell On.iv 0 rfl
        have Un := ownsRow_fr' U hf (by
          intro k hk e
          have := (U.lt k hk).1
          simp at e
          omega)
        obtain ⟨ug, rfl, ucell⟩ := (own_read Un).2 n hlt (.int .i64 x) (by simp [natv, hx])
        have a1 : 1 + n < (replayN im ts n).length := by rw [replayN_length]; omega
        have a2 : 17 + x < (replayN im ts n).length := by rw [replayN_length]; exact hxl
        have c1 : wr.cell? ⟨g, 1 + n, none⟩ = some (str ((replayN im ts n)[1 + n])) := by
          obtain ⟨g', hg', hc⟩ := (own_read On.row).2 (1 + n) a1 (str ((replayN im ts n)[1 + n])) (by simp [a1])
          obtain rfl : g' = g := by simpa using hg'.symm
          exact hc
        have c2 : wr.cell? ⟨g, 17 + x, none⟩ = some (str ((replayN im ts n)[17 + x])) := by
          obtain ⟨g', hg', hc⟩ := (own_read On.row).2 (17 + x) a2 (str ((replayN im ts n)[17 + x])) (by simp [a2])
          obtain rfl : g' = g := by simpa using hg'.symm
          exact hc
        have hS : replayN im ts (n + 1) = (replayN im ts n).set (17 + x) ((replayN im ts n)[1 + n]) := by
          simp only [replayN]
          rw [show ts.getD n 0 = x by simp [List.getD, hx], show (replayN im ts n).getD (1 + n) [] = (replayN im ts n)[1 + n] by simp [List.getD, a1]]
        have hS1 : (replayN im ts (n + 1)).getD (1 + n) [] = (replayN im ts n)[1 + n] := by
          rw [hS]
          simp only [List.getD_eq_getElem?_getD]
          rw [List.getElem?_set_ne (by omega), List.getElem?_eq_getElem a1]
          rfl
        have hs128 : ((replayN im ts n)[1 + n]).length = 128 := replayN_128 h128 (by omega) n (by omega) _ (List.getElem_mem a1)
        generalize (replayN im ts n)[1 + n] = s1 at c1 hS hS1 hs128
        generalize (replayN im ts n)[17 + x] = s2 at c2
        have HS := Lib.hid hS
        have HS1 := Lib.hid hS1
        have HS128 := Lib.hid hs128
        clear hS hS1 hs128
        have fg : wr.frozen? ⟨g, 17 + x, none⟩ = false := On.row_free rfl _
        have x16 : (x : Int) ≤ 4096 := by omega
        have b1 : (17 : Int) + x < im.length := by omega
        have b2 : (1 : Int) + n < im.length := by omega
        have hw1 : IntKind.i64.wrap (1 + (n : Int)) = 1 + n := by rw [IntKind.wrap_i64]; omega
        have hw2 : IntKind.i64.wrap (17 + (x : Int)) = 17 + x := by rw [IntKind.wrap_i64]; omega
        have ht1 : ((1 : Int) + n).toNat = 1 + n := by omega
        have ht2 : ((17 : Int) + x).toNat = 17 + x := by omega
        have b3 : (0 : Int) ≤ 1 + n := by omega
        have b4 : (0 : Int) ≤ 17 + x := by omega
        go_wp2_with fail
        refine wp_region_still_tail 9 (by kernel_rfl) (by kernel_rfl) ?_
        simp only [List.take_succ_cons, List.take_zero, List.drop_succ_cons, List.drop_zero]
        iterate 9 still_step
        refine wpStill_nil ?_
        go_wp2_with (with_reducible refine wpL_stop (o := ⟨_, .load 30 _, _, _, _, none⟩) ?_)
        have On1 := On.setRow (g := g) (j := 17 + x) (s := s1) rfl a2
        have hf1 : Fr [g] w1 (wr.setCell ⟨g, 17 + x, none⟩ (.string ⟨s1.toArray⟩)).drew := (hf.setCell (.inl (by simp)) _).drew
        have hL1 : Lst w1.heap.size H (wr.setCell ⟨g, 17 + x, none⟩ (.string ⟨s1.toArray⟩)).drew L u10 (putsN im ts n) := hL.fr ((Fr.refl [g] wr).setCell (.inl (by simp)) _).drew (by
          intro k hk
          obtain rfl : k = g := by simpa using hk
          have hs1 := f1.size
          refine ⟨fun e => ?_, fun e => ?_⟩
          · have := (hH k e).1; omega
          · have := (hL.lt k e).1; omega) (fun _ h => h) hL.off
        rw [← HS.out] at On1
        have sz1 : (wr.setCell ⟨g, 17 + x, none⟩ (.string ⟨s1.toArray⟩)).drew.heap.size = wr.heap.size := by simp
        generalize (wr.setCell ⟨g, 17 + x, none⟩ (.string ⟨s1.toArray⟩)).drew = w2 at On1 hf1 hL1 sz1 ⊢
        clear On hL c1 c2
        have a3 : 1 + n < (replayN im ts (n + 1)).length := by rw [replayN_length]; omega
        have c3 : w2.cell? ⟨g, 1 + n, none⟩ = some (str s1) := by
          obtain ⟨g', hg', hc⟩ := (own_read On1.row).2 (1 + n) a3 (str s1) (by rw [← HS1.out]; simp [List.getD, a3])
          obtain rfl : g' = g := by simpa using hg'.symm
          exact hc
        have ivm : w2.cell? ⟨w.heap.size + 1 + 1 + 1 + 1, 0, none⟩ = some (.slice (some ⟨g, 0, none⟩) im.length vc) := blk_cell On1.iv 0 rfl
        have f3 := fun w0 => pPut_calls L (17 + x) s1 w0
        clear ivn ucell Un fg
        refine unhold ?_
        go_wp2_with fail
        refine (f3 _).mono ?_
        rintro e w3 ⟨v3, rfl, hst, hv1, g3⟩
        obtain ⟨N, hin, hN⟩ := hst.in_
        obtain ⟨b1, b2, b3, rfl, -⟩ := hst
        go_wp2_with (first | (with_reducible refine wpL_stop (o := ⟨_, .alloc 59, _, _, _, none⟩) ?_) | (with_reducible refine wpL_stop (o := ⟨_, .load 59 _, _, _, _, none⟩) ?_) | (with_reducible refine wpL_stop (o := ⟨_, .store 59 _ _, _, _, _, none⟩) ?_) | (with_reducible refine wpL_stop (o := ⟨_, .lookup _ _ _ _, _, _, _, none⟩) ?_) | (with_reducible refine wpL_stop (o := ⟨_, .box 59 _, _, _, _, none⟩) ?_) | (with_reducible refine wpL_stop (o := ⟨_, .next _ _, _, _, _, none⟩) ?_) | (with_reducible refine wpL_stop (o := ⟨_, .range _ _, _, _, _, none⟩) ?_) | (with_reducible refine wpL_stop (o := ⟨_, .mapUpdate _ _ _ _, _, _, _, none⟩) ?_) | (with_reducible refine wpL_stop (o := ⟨_, .convert 23 9 _, _, _, _, none⟩) ?_) | (with_reducible refine wpL_stop (o := ⟨_, .convert 9 23 _, _, _, _, none⟩) ?_) | (with_reducible refine wpL_stop (o := ⟨_, .call { callee := .builtin .copy, args := _, argTypes := _ }, _, _, _, none⟩) ?_) | (with_reducible refine wpL_stop (o := ⟨_, .call { callee := .builtin .append, args := _, argTypes := _ }, _, _, _, none⟩) ?_) | (with_reducible refine wpL_stop (o := ⟨_, .call { callee := .builtin .clear, args := _, argTypes := _ }, _, _, _, none⟩) ?_) | (with_reducible refine wpL_stop (o := ⟨_, .makeSlice _ _ _, _, _, _, none⟩) ?_) | (with_reducible refine wpL_stop (o := ⟨_, .makeMap _ _, _, _, _, none⟩) ?_) | (with_reducible refine wpL_stop (o := ⟨_, .entry _, _, _, _, none⟩) ?_) | (with_reducible refine wpL_stop (o := ⟨_, .call { callee := .builtin .max, args := _, argTypes := _ }, _, _, _, none⟩) ?_) | (with_reducible refine wpL_stop (o := ⟨_, .call { callee := .builtin .min, args := _, argTypes := _ }, _, _, _, none⟩) ?_) | (with_reducible refine wpL_stop (o := ⟨_, .slice 59 _ none (some _) none, _, _, _, none⟩) ?_) | (with_reducible refine wpL_stop (o := ⟨_, .binOp .add 9 _ _ _, _, _, _, none⟩) ?_) | (with_reducible refine wpL_stop (o := ⟨_, .slice 9 _ _ _ _, _, _, _, none⟩) ?_))
        have f4 : Fr [] w2 (w3.alloc (.cells #[.func (.func 58) #[] #[.pointer (some ⟨b1, 0, none⟩), .pointer (some ⟨b2, 0, none⟩), .pointer (some ⟨b3, 0, none⟩)]] 78)) := g3.alloc _
        have g4 : Fr [] w3 (w3.alloc (.cells #[.func (.func 58) #[] #[.pointer (some ⟨b1, 0, none⟩), .pointer (some ⟨b2, 0, none⟩), .pointer (some ⟨b3, 0, none⟩)]] 78)) := (Fr.refl [] w3).alloc _
        have hg4 := heap_alloc_new w3 (.cells #[.func (.func 58) #[] #[.pointer (some ⟨b1, 0, none⟩), .pointer (some ⟨b2, 0, none⟩), .pointer (some ⟨b3, 0, none⟩)]] 78)
        have On4 := On1.grow0 f4
        have hB2 : ∀ k ∈ N, w2.heap.size ≤ k := fun k hk => (hN k hk).1
        have hL4 := (hL1.more g3 hB2).fr0 g4
        have hin4 := hin.fr (H' := H ++ N) g4 (by simp) (fun k hk => List.mem_append_right _ hk)
        have hH4 : ∀ k ∈ H ++ N, w1.heap.size ≤ k ∧ k < (w3.alloc (.cells #[.func (.func 58) #[] #[.pointer (some ⟨b1, 0, none⟩), .pointer (some ⟨b2, 0, none⟩), .pointer (some ⟨b3, 0, none⟩)]] 78)).heap.size := by
          intro k hk
          have := f4.size
          have := g4.size
          have := hf1.size
          rcases List.mem_append.1 hk with hk | hk
          · have := hH k hk; omega
          · have := hN k hk; omega
        have hf4 : Fr [g] w1 (w3.alloc (.cells #[.func (.func 58) #[] #[.pointer (some ⟨b1, 0, none⟩), .pointer (some ⟨b2, 0, none⟩), .pointer (some ⟨b3, 0, none⟩)]] 78)) := hf1.trans f4.any
        generalize w3.alloc (.cells #[.func (.func 58) #[] #[.pointer (some ⟨b1, 0, none⟩), .pointer (some ⟨b2, 0, none⟩), .pointer (some ⟨b3, 0, none⟩)]] 78) = w4 at f4 g4 hg4 On4 hL4 hin4 hH4 hf4 ⊢
        obtain ⟨x7, r7, st7⟩ := hL4.at_
        have hl10 : (putsN im ts n).length ≤ 16 := by rw [putsN_length]; omega
        refine unhold (wpL_append_at rfl _ _ 76 rfl w1.heap.size 78 _ 8 Tryz.underlying76 fnInfo rfl (by decide) u10 (putsN im ts n).length x7 rfl r7 w3.heap.size 1 [.func (.func 58) #[] #[.pointer (some ⟨b1, 0, none⟩), .pointer (some ⟨b2, 0, none⟩), .pointer (some ⟨b3, 0, none⟩)]] rfl _ _ _ hg4 (by intro j u hj; simpa using hj) (by simp [Value.oneCell']) (by simp; omega) hf4.size ?_)
        intro v5 w5 hown5 hgr5 hat5
        have hL5 := hL4.app (fun k hk => (hH4 k hk).2) hgr5 hat5 (ns := [.put (17 + x) s1]) rfl r7 st7 hown5 (one_new hin4 HS128.out)
        have hb5 : ∀ k ∈ u10.ownBlock.toList, w1.heap.size ≤ k := fun k hk => (hL4.lt k (by simpa [Option.mem_toList, eq_comm] using hk)).1
        have hf5' : Fr u10.ownBlock.toList w4 w5 := (Fr.refl _ _).grown hgr5 (fun k hk => .inl (by simp [hk]))
        have hgw : g < w1.heap.size := by have := f1.size; omega
        have On5 := On4.frS hf5' (fun k hk => ⟨by have := hb5 k hk; omega, fun e => by have := hb5 k hk; have e' : g = k := (by simpa [Value.ownBlock] using e); omega⟩)
        have hf5 : Fr [g] w1 w5 := hf4.then hf5' (fun k hk => .inr (hb5 k hk))
        have hsz5 := hgr5.size
        clear hgr5 hat5 hL4 On4 hin4 st7 r7 hown5 hL1 On1 c3 ivm hg4 f3
        go_wp2_with (first | (with_reducible refine wpL_stop (o := ⟨_, .alloc 59, _, _, _, none⟩) ?_) | (with_reducible refine wpL_stop (o := ⟨_, .load 59 _, _, _, _, none⟩) ?_) | (with_reducible refine wpL_stop (o := ⟨_, .store 59 _ _, _, _, _, none⟩) ?_) | (with_reducible refine wpL_stop (o := ⟨_, .lookup _ _ _ _, _, _, _, none⟩) ?_) | (with_reducible refine wpL_stop (o := ⟨_, .box 59 _, _, _, _, none⟩) ?_) | (with_reducible refine wpL_stop (o := ⟨_, .next _ _, _, _, _, none⟩) ?_) | (with_reducible refine wpL_stop (o := ⟨_, .range _ _, _, _, _, none⟩) ?_) | (with_reducible refine wpL_stop (o := ⟨_, .mapUpdate _ _ _ _, _, _, _, none⟩) ?_) | (with_reducible refine wpL_stop (o := ⟨_, .convert 23 9 _, _, _, _, none⟩) ?_) | (with_reducible refine wpL_stop (o := ⟨_, .convert 9 23 _, _, _, _, none⟩) ?_) | (with_reducible refine wpL_stop (o := ⟨_, .call { callee := .builtin .copy, args := _, argTypes := _ }, _, _, _, none⟩) ?_) | (with_reducible refine wpL_stop (o := ⟨_, .call { callee := .builtin .append, args := _, argTypes := _ }, _, _, _, none⟩) ?_) | (with_reducible refine wpL_stop (o := ⟨_, .call { callee := .builtin .clear, args := _, argTypes := _ }, _, _, _, none⟩) ?_) | (with_reducible refine wpL_stop (o := ⟨_, .makeSlice _ _ _, _, _, _, none⟩) ?_) | (with_reducible refine wpL_stop (o := ⟨_, .makeMap _ _, _, _, _, none⟩) ?_) | (with_reducible refine wpL_stop (o := ⟨_, .entry _, _, _, _, none⟩) ?_) | (with_reducible refine wpL_stop (o := ⟨_, .call { callee := .builtin .max, args := _, argTypes := _ }, _, _, _, none⟩) ?_) | (with_reducible refine wpL_stop (o := ⟨_, .call { callee := .builtin .min, args := _, argTypes := _ }, _, _, _, none⟩) ?_) | (with_reducible refine wpL_stop (o := ⟨_, .slice 59 _ none (some _) none, _, _, _, none⟩) ?_) | (with_reducible refine wpL_stop (o := ⟨_, .binOp .add 9 _ _ _, _, _, _, none⟩) ?_) | (with_reducible refine wpL_stop (o := ⟨_, .slice 9 _ _ _ _, _, _, _, none⟩) ?_))
        go_roundg (gk - 1)
        case measure => have := hkq.out; omega
        case rel =>
          refine ⟨n + 1, H ++ N, by go_num, by omega, by have := hkq.out; unfold Hid; omega, On5, ?_, fun k hk => ⟨(hH4 k hk).1, by have := (hH4 k hk).2; omega⟩, hf5⟩
          have e : putsN im ts (n + 1) = putsN im ts n ++ [.put (17 + x) s1] := by
            simp only [putsN]
            rw [HS1.out, show ts.getD n 0 = x by simp [List.getD, hx]]
            rfl
          rw [e]
          exact hL5
      · obtain rfl : n = ts.length := by omega
        have hlt' : decide ((ts.length : Int) < (ts.length : Int)) = false := by simp
        have hst := HST.out
        have hLl : (putsN im ts ts.length).length = ts.length := putsN_length _ _ _
        have h128' : ∀ s ∈ replayN im ts ts.length, s.length = 128 := replayN_128 h128 (by omega) _ t16
        have hrl : (replayN im ts ts.length).length = im.length := replayN_length _ _ _
        obtain ⟨x7, r7, st7⟩ := hL.at_
        obtain ⟨p10, c10, rfl⟩ := ownsRow_len r7
        generalize hps : putsN im ts ts.length = ps at hL st7 r7 hst hLl
        generalize replayN im ts ts.length = imf at On h128' hrl HRES
        have hrl' := Lib.hid hrl
        have hst' := Lib.hid hst
        have m16 : ps.length ≤ 16 := by omega
        have hm16 : ps.length = ts.length := hLl
        generalize hm : ps.length = m at r7 hL hm16 ⊢
        have HM := Lib.hid hm
        have HLl := Lib.hid hm16
        have mm : m ≤ 16 := by omega
        clear hps hrl hst htc U hLl hm hm16 m16
        go_upto_if 95 with fail
        go_cut [10] from 93 to 100 (fun s wx => ∃ H', Lst w1.heap.size H' wx L s sts ∧ (∀ k ∈ H', w1.heap.size ≤ k) ∧ OpnN w L nu imf (.slice (some ⟨g, 0, none⟩) im.length vc) wx ∧ Fr [g] w1 wx)
        case first =>
          by_cases h0 : ts = []
          · have hz : m ≤ 0 := by rw [HLl.out]; simp [h0]
            have hgw : g < w1.heap.size := by have := f1.size; omega
            have e : sts = ps := by have := hst'.out; rw [if_pos h0, List.append_nil] at this; exact this
            have E := Lib.hid e
            clear e h0
            go_wp2_with fail
            go_meet
            exact ⟨H, by rw [E.out]; exact hL, fun k hk => (hH k hk).1, On, hf⟩
          · have hz : (0 : Int) < (m : Int) := by rw [HLl.out]; have := List.length_pos_iff.2 h0; omega
            have hgw : g < w1.heap.size := by have := f1.size; omega
            have e : sts = ps ++ [.flush] := by have := hst'.out; rw [if_neg h0] at this; exact this
            have E := Lib.hid e
            clear e h0
            go_wp2_with (first | (with_reducible refine wpL_stop (o := ⟨_, .alloc 59, _, _, _, none⟩) ?_) | (with_reducible refine wpL_stop (o := ⟨_, .load 59 _, _, _, _, none⟩) ?_) | (with_reducible refine wpL_stop (o := ⟨_, .store 59 _ _, _, _, _, none⟩) ?_) | (with_reducible refine wpL_stop (o := ⟨_, .lookup _ _ _ _, _, _, _, none⟩) ?_) | (with_reducible refine wpL_stop (o := ⟨_, .box 59 _, _, _, _, none⟩) ?_) | (with_reducible refine wpL_stop (o := ⟨_, .next _ _, _, _, _, none⟩) ?_) | (with_reducible refine wpL_stop (o := ⟨_, .range _ _, _, _, _, none⟩) ?_) | (with_reducible refine wpL_stop (o := ⟨_, .mapUpdate _ _ _ _, _, _, _, none⟩) ?_) | (with_reducible refine wpL_stop (o := ⟨_, .convert 23 9 _, _, _, _, none⟩) ?_) | (with_reducible refine wpL_stop (o := ⟨_, .convert 9 23 _, _, _, _, none⟩) ?_) | (with_reducible refine wpL_stop (o := ⟨_, .call { callee := .builtin .copy, args := _, argTypes := _ }, _, _, _, none⟩) ?_) | (with_reducible refine wpL_stop (o := ⟨_, .call { callee := .builtin .append, args := _, argTypes := _ }, _, _, _, none⟩) ?_) | (with_reducible refine wpL_stop (o := ⟨_, .call { callee := .builtin .clear, args := _, argTypes := _ }, _, _, _, none⟩) ?_) | (with_reducible refine wpL_stop (o := ⟨_, .makeSlice _ _ _, _, _, _, none⟩) ?_) | (with_reducible refine wpL_stop (o := ⟨_, .makeMap _ _, _, _, _, none⟩) ?_) | (with_reducible refine wpL_stop (o := ⟨_, .entry _, _, _, _, none⟩) ?_) | (with_reducible refine wpL_stop (o := ⟨_, .call { callee := .builtin .max, args := _, argTypes := _ }, _, _, _, none⟩) ?_) | (with_reducible refine wpL_stop (o := ⟨_, .call { callee := .builtin .min, args := _, argTypes := _ }, _, _, _, none⟩) ?_) | (with_reducible refine wpL_stop (o := ⟨_, .slice 59 _ none (some _) none, _, _, _, none⟩) ?_) | (with_reducible refine wpL_stop (o := ⟨_, .binOp .add 9 _ _ _, _, _, _, none⟩) ?_) | (with_reducible refine wpL_stop (o := ⟨_, .slice 9 _ _ _ _, _, _, _, none⟩) ?_))
            have g4 : Fr [] wr (wr.alloc (.cells #[.func (.func 35) #[Dp L] #[]] 78)) := (Fr.refl [] wr).alloc _
            have hg4 := heap_alloc_new wr (.cells #[.func (.func 35) #[Dp L] #[]] 78)
            have On4 := On.grow0 g4
            have hL4 := hL.fr0 g4
            have hH4 : ∀ k ∈ H, k < (wr.alloc (.cells #[.func (.func 35) #[Dp L] #[]] 78)).heap.size := fun k hk => by have := hH k hk; have := g4.size; omega
            have hf4 : Fr [g] w1 (wr.alloc (.cells #[.func (.func 35) #[Dp L] #[]] 78)) := hf.trans g4.any
            generalize wr.alloc (.cells #[.func (.func 35) #[Dp L] #[]] 78) = w4 at g4 hg4 On4 hL4 hH4 hf4 ⊢
            obtain ⟨x8, r8, st8⟩ := hL4.at_
            refine unhold (wpL_append_at rfl _ _ 76 rfl w1.heap.size 78 _ 8 Tryz.underlying76 fnInfo rfl (by decide) (.slice p10 m c10) m x8 rfl (by have := r8; rwa [HM.out] at this) wr.heap.size 1 [.func (.func 35) #[Dp L] #[]] rfl _ _ _ hg4 (by intro j u hj; simpa using hj) (by simp [Value.oneCell']) (by simp; omega) hf4.size ?_)
            intro v5 w5 hown5 hgr5 hat5
            have hL5 := hL4.app hH4 hgr5 hat5 (ns := [.flush]) rfl r8 st8 (by rw [HM.out]; exact hown5) (one_new (s := .flush) rfl trivial)
            have hb5 : ∀ k ∈ (Value.slice p10 m c10).ownBlock.toList, w1.heap.size ≤ k := fun k hk => (hL4.lt k (by simpa [Option.mem_toList, eq_comm] using hk)).1
            have hf5' : Fr (Value.slice p10 m c10).ownBlock.toList w4 w5 := (Fr.refl _ _).grown hgr5 (fun k hk => .inl (by simp [hk]))
            have On5 := On4.frS hf5' (fun k hk => ⟨by have := hb5 k hk; omega, fun e => by have := hb5 k hk; have e' : g = k := (by simpa [Value.ownBlock] using e); omega⟩)
            have hf5 : Fr [g] w1 w5 := hf4.then hf5' (fun k hk => .inr (hb5 k hk))
            clear hgr5 hat5 hL4 On4 st8 r8 hown5 hg4
            go_wp2_with (first | (with_reducible refine wpL_stop (o := ⟨_, .alloc 59, _, _, _, none⟩) ?_) | (with_reducible refine wpL_stop (o := ⟨_, .load 59 _, _, _, _, none⟩) ?_) | (with_reducible refine wpL_stop (o := ⟨_, .store 59 _ _, _, _, _, none⟩) ?_) | (with_reducible refine wpL_stop (o := ⟨_, .lookup _ _ _ _, _, _, _, none⟩) ?_) | (with_reducible refine wpL_stop (o := ⟨_, .box 59 _, _, _, _, none⟩) ?_) | (with_reducible refine wpL_stop (o := ⟨_, .next _ _, _, _, _, none⟩) ?_) | (with_reducible refine wpL_stop (o := ⟨_, .range _ _, _, _, _, none⟩) ?_) | (with_reducible refine wpL_stop (o := ⟨_, .mapUpdate _ _ _ _, _, _, _, none⟩) ?_) | (with_reducible refine wpL_stop (o := ⟨_, .convert 23 9 _, _, _, _, none⟩) ?_) | (with_reducible refine wpL_stop (o := ⟨_, .convert 9 23 _, _, _, _, none⟩) ?_) | (with_reducible refine wpL_stop (o := ⟨_, .call { callee := .builtin .copy, args := _, argTypes := _ }, _, _, _, none⟩) ?_) | (with_reducible refine wpL_stop (o := ⟨_, .call { callee := .builtin .append, args := _, argTypes := _ }, _, _, _, none⟩) ?_) | (with_reducible refine wpL_stop (o := ⟨_, .call { callee := .builtin .clear, args := _, argTypes := _ }, _, _, _, none⟩) ?_) | (with_reducible refine wpL_stop (o := ⟨_, .makeSlice _ _ _, _, _, _, none⟩) ?_) | (with_reducible refine wpL_stop (o := ⟨_, .makeMap _ _, _, _, _, none⟩) ?_) | (with_reducible refine wpL_stop (o := ⟨_, .entry _, _, _, _, none⟩) ?_) | (with_reducible refine wpL_stop (o := ⟨_, .call { callee := .builtin .max, args := _, argTypes := _ }, _, _, _, none⟩) ?_) | (with_reducible refine wpL_stop (o := ⟨_, .call { callee := .builtin .min, args := _, argTypes := _ }, _, _, _, none⟩) ?_) | (with_reducible refine wpL_stop (o := ⟨_, .slice 59 _ none (some _) none, _, _, _, none⟩) ?_) | (with_reducible refine wpL_stop (o := ⟨_, .binOp .add 9 _ _ _, _, _, _, none⟩) ?_) | (with_reducible refine wpL_stop (o := ⟨_, .slice 9 _ _ _ _, _, _, _, none⟩) ?_))
            go_meet
            exact ⟨H, by rw [E.out]; exact hL5, fun k hk => (hH k hk).1, On5, hf5⟩
        case rest =>
          obtain ⟨H', hL', hH', On', hf'⟩ := hcut
          obtain ⟨x9, r9, st9⟩ := hL'.at_
          have hgw : g < w1.heap.size := by have := f1.size; omega
          have hs1 := f1.size
          have hsw := O.fr.size
          have hLw := D.lt
          have hr0 := HOK.out.1
          have hrz : ((runAll d sts).1 != 0) = false := by rw [hr0]; rfl
          have hstl : sts.length ≤ 1000 := by rw [hst'.out]; have := HM.out; simp only [List.length_append]; split <;> simp <;> omega
          have hrun := pRun_calls (base := w1.heap.size) (B := w1.heap.size) (D.fr0 On'.fr) sts x9 r9 (fun j a b ha hb => ⟨(st9 j a b ha hb).1.at_ hH', (st9 j a b ha hb).2⟩) (fun k hk => by have := hLw k hk; omega) (fun k hk => by have := hLw k hk; omega) hstl
          rw [hr0] at hrun hrz
          have hDc := hf'.heap hDef1 (by simpa using hDg)
          clear hL hH On hL' st9 x7 st7 r7 hr0
          go_wp2_with fail
          refine hrun.mono ?_
          rintro e w9 ⟨rfl, D9, f9⟩
          have hD9 := f9.heap hDc (fun e => by have := hLw _ e; have := O6.fr.size; omega)
          have E9 := OpnE.of_run On' f9 hLw
          have hB9 := f9.size
          have hs1c := hf'.size
          have hDd9 := lt_of_heap hD9
          obtain ⟨rl, hcap⟩ : imf.length = im.length ∧ im.length ≤ vc := by
            refine ⟨hrl'.out, ?_⟩
            rcases E9.row.2 with ⟨hv, _⟩ | ⟨g', cap, cur, hv, _, _, hc, _⟩
            · cases hv
            · have e : im.length = imf.length ∧ vc = cap := by
                injection hv with _ h2 h3
                exact ⟨h2, h3⟩
              omega
          have hcap' : (im.length : Int) ≤ vc := by omega
          have h17 : (17 : Int) ≤ im.length := by omega
          have iv9 : w9.cell? ⟨w.heap.size + 1 + 1 + 1 + 1, 0, none⟩ = some (.slice (some ⟨g, 0, none⟩) im.length vc) := blk_cell E9.iv 0 rfl
          have hsw9 : w.heap.size + 6 ≤ w9.heap.size := by have := lt_of_heap E9.iv; have := hf'.size; have := O6.fr.size; omega
          have RL := Lib.hid rl
          clear rl
          go_wp2_with fail
          obtain ⟨N, hN⟩ : ∃ N, im.length - 17 = N := ⟨_, rfl⟩
          have HN := Lib.hid hN
          have hN4 : N ≤ 4096 := by omega
          have hlf : (imf.drop 17).length = N := by rw [List.length_drop, RL.out]; exact hN
          have HLF := Lib.hid hlf
          rw [hN]
          clear hN hlf
          go_loopg [109] N (fun kq i w' => ∃ (n : Nat) (bv : Value), i = .int .i64 n ∧ n ≤ N ∧ Hid (kq + n = N) ∧ OpnE w L nu bv imf (.slice (some ⟨g, 0, none⟩) im.length vc) w' ∧ w'.ownsRow w9.heap.size 3 1 bv (badsFrom 0 ((imf.drop 17).take n)).length (intv (badsFrom 0 ((imf.drop 17).take n))) ∧ DiskAt w' L (runAll d sts).2 ∧ w'.heap[Dd]? = some (.deferred (some [])) ∧ w9.heap.size ≤ w'.heap.size)
          case atStart => exact ⟨0, _, rfl, by omega, by simp [Hid], E9, World.ownsRow_nil _ _ _ _, D9, hD9, Nat.le_refl _⟩
          case round =>
            obtain ⟨n, bv, rfl, hn, hkq, Er, Br, Dr, hDr, hsz⟩ := hrel
            by_cases hlt : n < N
            · have hlt' : (n : Int) < (N : Int) := by omega
              obtain ⟨s, hs⟩ : ∃ s, (imf.drop 17)[n]? = some s := ⟨(imf.drop 17)[n]'(by rw [HLF.out]; exact hlt), List.getElem?_eq_getElem _⟩
              have hs' : imf[17 + n]? = some s := by rw [List.getElem?_drop] at hs; exact hs
              have hs8 := h128' s (List.mem_of_getElem? hs')
              have hc : wr.cell? ⟨g, 17 + n, none⟩ = some (str s) := by
                have hj : 17 + n < imf.length := (List.getElem?_eq_some_iff.1 hs').1
                obtain ⟨g', hg', hc⟩ := (own_read Er.row).2 (17 + n) hj (str s) (by simp [hs'])
                obtain rfl : g' = g := by simpa using hg'.symm
                exact hc
              have hu := pUnseal_calls s (by omega)
              have hbl := badsFrom_length ((imf.drop 17).take n) 0
              have hbl' : (badsFrom 0 ((imf.drop 17).take n)).length ≤ 4096 := by
                rw [List.length_take] at hbl; omega
              have HB : Hid (badsFrom 0 ((imf.drop 17).take (n + 1)) = badsFrom 0 ((imf.drop 17).take n) ++ if (unsealed s).ok then [] else [(n : Int)]) := by
                unfold Hid
                rw [take_snoc hs, badsFrom_snoc, List.length_take, HLF.out, Nat.min_eq_left hn, Nat.zero_add]
              generalize badsFrom 0 ((imf.drop 17).take n) = bs at Br hbl' HB
              generalize unsealed s = us at hu HB
              obtain ⟨u1, u2, u3⟩ := us
              simp only at hu HB
              clear hs hs' hbl
              have HS8 := Lib.hid hs8
              clear hs8
              go_wp2_with fail
              refine (hu _).mono ?_
              rintro e w2 ⟨rfl, f2⟩
              have Er2 := Er.frS f2 (by simp)
              have Br2 := ownsRow_fr' Br f2 (by simp)
              have Dr2 := Dr.fr0 f2
              have hDr2 := f2.heap hDr (by simp)
              have hsz2 := f2.size
              clear Er Br Dr hDr hc hu
              cases u3 with
              | true =>
                go_wp2_with fail
                go_roundg (gk - 1)
                case measure => have := hkq.out; omega
                case rel =>
                  refine ⟨n + 1, bv, by go_num, by omega, by have := hkq.out; unfold Hid; omega, Er2, ?_, Dr2, hDr2, by omega⟩
                  rw [HB.out]
                  simpa using Br2
              | false =>
                have P2 : w2.cell? ⟨w.heap.size + 1 + 1 + 1, 0, none⟩ = some (.pointer (some ⟨w.heap.size + 2, 0, none⟩)) := blk_cell Er2.pv 0 rfl
                have B2 : w2.cell? ⟨w.heap.size + 2, 2, none⟩ = some bv := blk_cell Er2.st 2 rfl
                have f3 : Fr [] w2 (w2.alloc (.cells #[.int .i64 n] 3)).drew := ((Fr.refl [] w2).alloc _).drew
                have P3 := cell_fr f3 P2 (by simp)
                have B3 := cell_fr f3 B2 (by simp)
                have hg3 : (w2.alloc (.cells #[.int .i64 n] 3)).drew.heap[w2.heap.size]? = some (.cells #[.int .i64 n] 3 (0, 0)) := heap_alloc_new w2 (.cells #[.int .i64 n] 3)
                have Er3 := Er2.frS f3 (by simp)
                have Br3 := ownsRow_fr' Br2 f3 (by simp)
                have Dr3 := Dr2.fr0 f3
                have hDr3 := f3.heap hDr2 (by simp)
                have hsz3 := f3.size
                obtain ⟨bp, bc, hbv⟩ := ownsRow_len Br2
                have hvb : bv.oneCell' = true := by rw [hbv]; rfl
                clear hbv
                go_wp2_with fail
                refine wp_region_keep (fun w' => w'.cell? ⟨w.heap.size + 1 + 1 + 1, 0, none⟩ = some (.pointer (some ⟨w.heap.size + 2, 0, none⟩)) ∧ w'.cell? ⟨w.heap.size + 2, 2, none⟩ = some bv) 10 (by kernel_rfl) ?_
                have hS : w2.drew.cell? ⟨w.heap.size + 1 + 1 + 1, 0, none⟩ = some (.pointer (some ⟨w.heap.size + 2, 0, none⟩)) ∧ w2.drew.cell? ⟨w.heap.size + 2, 2, none⟩ = some bv := ⟨P2, B2⟩
                refine keepTake (i := 0) (v := ?_) (a' := ?_) rfl (by kernel_rfl) (by kernel_rfl) (by kernel_rfl) (by kernel_rfl) (by kernel_rfl) (by kernel_rfl) (fun w hSw => ?_) hS ?_ ?_
                rotate_left 2
                · (try dsimp only at hSw); (try (have hSa := hSw.1; have hSb := hSw.2)); (try (have hSc := hSb.1; have hSd := hSb.2)); go_simp; with_reducible rfl
                · go_simp; with_reducible rfl
                refine keepTake (i := 1) (v := ?_) (a' := ?_) rfl (by kernel_rfl) (by kernel_rfl) (by kernel_rfl) (by kernel_rfl) (by kernel_rfl) (by kernel_rfl) (fun w hSw => ?_) hS ?_ ?_
                rotate_left 2
                · (try dsimp only at hSw); (try (have hSa := hSw.1; have hSb := hSw.2)); (try (have hSc := hSb.1; have hSd := hSb.2)); go_simp; with_reducible rfl
                · go_simp; with_reducible rfl
                refine keepTake (i := 2) (v := ?_) (a' := ?_) rfl (by kernel_rfl) (by kernel_rfl) (by kernel_rfl) (by kernel_rfl) (by kernel_rfl) (by kernel_rfl) (fun w hSw => ?_) hS ?_ ?_
                rotate_left 2
                · (try dsimp only at hSw); (try (have hSa := hSw.1; have hSb := hSw.2)); (try (have hSc := hSb.1; have hSd := hSb.2)); go_simp; with_reducible rfl
                · go_simp; with_reducible rfl
                refine keepTake (i := 3) (v := ?_) (a' := ?_) rfl (by kernel_rfl) (by kernel_rfl) (by kernel_rfl) (by kernel_rfl) (by kernel_rfl) (by kernel_rfl) (fun w hSw => ?_) hS ?_ ?_
                rotate_left 2
                · (try dsimp only at hSw); (try (have hSa := hSw.1; have hSb := hSw.2)); (try (have hSc := hSb.1; have hSd := hSb.2)); go_simp; with_reducible rfl
                · go_simp; with_reducible rfl
                refine keepTake (i := 4) (v := ?_) (a' := ?_) rfl (by kernel_rfl) (by kernel_rfl) (by kernel_rfl) (by kernel_rfl) (by kernel_rfl) (by kernel_rfl) (fun w hSw => ?_) hS ?_ ?_
                rotate_left 2
                · (try dsimp only at hSw); (try (have hSa := hSw.1; have hSb := hSw.2)); (try (have hSc := hSb.1; have hSd := hSb.2)); go_simp; with_reducible rfl
                · go_simp; with_reducible rfl
                refine keepTake (i := 5) (v := ?_) (a' := ?_) rfl (by kernel_rfl) (by kernel_rfl) (by kernel_rfl) (by kernel_rfl) (by kernel_rfl) (by kernel_rfl) (fun w hSw => ?_) hS ?_ ?_
                rotate_left 2
                · (try dsimp only at hSw); (try (have hSa := hSw.1; have hSb := hSw.2)); (try (have hSc := hSb.1; have hSd := hSb.2)); go_simp; with_reducible rfl
                · go_simp; with_reducible rfl
                refine keepReady (rs := [6]) (by kernel_rfl) (by simp) ?_
                refine AllK.cons rfl (fun K hK => ?_) AllK.nil
                go_simp
                have hS : (w2.alloc (.cells #[.int .i64 n] 3)).drew.cell? ⟨w.heap.size + 1 + 1 + 1, 0, none⟩ = some (.pointer (some ⟨w.heap.size + 2, 0, none⟩)) ∧ (w2.alloc (.cells #[.int .i64 n] 3)).drew.cell? ⟨w.heap.size + 2, 2, none⟩ = some bv := ⟨P3, B3⟩
                try dsimp only
                refine hK _ _ (fun _ => hS) ?_
                clear hK K
                try simp only [Act.put, List.setIfInBounds_toArray, List.set_cons_zero, List.set_cons_succ]
                generalize (w2.alloc (.cells #[.int .i64 n] 3)).drew = w3 at f3 hg3 hS Er3 Br3 Dr3 hDr3 hsz3 ⊢
                have hB3 : w9.heap.size ≤ w3.heap.size := by omega
                refine keepReady (rs := [7]) (by kernel_rfl) (by simp) ?_
                refine AllK.cons rfl (fun K hK => ?_) AllK.nil
                refine step_append_at rfl _ _ 24 rfl w9.heap.size 3 _ 8 Tryz.underlying24 intInfo rfl (by decide) bv bs.length (intv bs) rfl Br3 w2.heap.size 1 [.int .i64 n] rfl _ _ _ hg3 (by intro j u hj; simpa using hj) (by simp [Value.oneCell']) (by simp; omega) hB3 ?_
                intro v4 w4 hown4 hgr4 hat4
                have hf4 : Fr bv.ownBlock.toList w3 w4 := (Fr.refl _ _).grown hgr4 (fun k hk => .inl (by simp [hk]))
                have hb4 : ∀ k ∈ bv.ownBlock.toList, w9.heap.size ≤ k := fun k hk => (Br3.lt k (by simpa [Option.mem_toList, eq_comm] using hk)).1
                have Er4 := Er3.frS hf4 (fun k hk => ⟨by have := hb4 k hk; omega, fun e => by have := hb4 k hk; have e' : g = k := (by simpa [Value.ownBlock] using e); omega⟩)
                have Dr4 := Dr3.fr hf4 (fun k hk e => by have := hb4 k e; have := hLw k hk; omega)
                have hDr4 := hf4.heap hDr3 (fun e => by have := hb4 _ e; omega)
                have hsz4 := hf4.size
                obtain ⟨vp4, vc4, rfl⟩ := ownsRow_len hown4
                have P4 : w4.cell? ⟨w.heap.size + 1 + 1 + 1, 0, none⟩ = some (.pointer (some ⟨w.heap.size + 2, 0, none⟩)) := blk_cell Er4.pv 0 rfl
                have B4 : w4.cell? ⟨w.heap.size + 2, 2, none⟩ = some bv := blk_cell Er4.st 2 rfl
                have F4 : w4.frozen? ⟨w.heap.size + 2, 2, none⟩ = false := blk_free Er4.st 2
                have hS := And.intro P4 B4
                try dsimp only
                refine hK _ _ (fun _ => hS) ?_
                clear hK K
                try simp only [Act.put, List.setIfInBounds_toArray, List.set_cons_zero, List.set_cons_succ]
                refine keepTake (i := 8) (v := ?_) (a' := ?_) rfl (by kernel_rfl) (by kernel_rfl) (by kernel_rfl) (by kernel_rfl) (by kernel_rfl) (by kernel_rfl) (fun w hSw => ?_) hS ?_ ?_
                rotate_left 2
                · (try dsimp only at hSw); (try (have hSa := hSw.1; have hSb := hSw.2)); (try (have hSc := hSb.1; have hSd := hSb.2)); go_simp; with_reducible rfl
                · go_simp; with_reducible rfl
                refine keepTake (i := 9) (v := ?_) (a' := ?_) rfl (by kernel_rfl) (by kernel_rfl) (by kernel_rfl) (by kernel_rfl) (by kernel_rfl) (by kernel_rfl) (fun w hSw => ?_) hS ?_ ?_
                rotate_left 2
                · (try dsimp only at hSw); (try (have hSa := hSw.1; have hSb := hSw.2)); (try (have hSc := hSb.1; have hSd := hSb.2)); go_simp; with_reducible rfl
                · go_simp; with_reducible rfl
                refine keepReady (rs := [10]) (by kernel_rfl) (by simp) ?_
                refine AllK.cons rfl (fun K hK => ?_) AllK.nil
                go_simp
                try dsimp only
                refine hK _ _ (fun h => absurd rfl h) ?_
                clear hK K
                try simp only [Act.put, List.setIfInBounds_toArray, List.set_cons_zero, List.set_cons_succ]
                refine keepDone (by kernel_rfl) ?_ _
                go_wp2_with fail
                go_roundg (gk - 1)
                case measure => have := hkq.out; omega
                case rel =>
                  have hf5 : Fr [w.heap.size + 2] w4 (w4.setCell ⟨w.heap.size + 2, 2, none⟩ (.slice vp4 (bs.length + 1) vc4)) := (Fr.refl _ _).setCell (.inl (by simp)) _
                  refine ⟨n + 1, .slice vp4 (bs.length + 1) vc4, by go_num, by omega, by have := hkq.out; unfold Hid; omega, Er4.setBad _ (fun k e => by have e' : g = k := (by simpa [Value.ownBlock] using e); omega), ?_, Dr4.fr hf5 (fun k hk => by have := hLw k hk; simp; omega), hf5.heap hDr4 (by simp; omega), by have := hf5.size; omega⟩
                  rw [HB.out]
                  have := ownsRow_fr' hown4 hf5 (fun k e => by have := (hown4.lt k e).1; simp; omega)
                  simpa [intv] using this
            · obtain rfl : n = N := by omega
              have hlt' : decide ((n : Int) < (n : Int)) = false := by simp
              have P2 : wr.cell? ⟨w.heap.size + 1 + 1 + 1, 0, none⟩ = some (.pointer (some ⟨w.heap.size + 2, 0, none⟩)) := blk_cell Er.pv 0 rfl
              have C2 : wr.cell? ⟨w.heap.size, 0, none⟩ = some (.pointer none) := blk_cell Er.c2 0 rfl
              have K2 : wr.frozen? ⟨w.heap.size, 0, none⟩ = false := blk_free Er.c2 0
              have C3 : wr.cell? ⟨w.heap.size + 1, 0, none⟩ = some (.int .i64 0) := blk_cell Er.c3 0 rfl
              have K3 : wr.frozen? ⟨w.heap.size + 1, 0, none⟩ = false := blk_free Er.c3 0
              have hf2 : Fr [w.heap.size, w.heap.size + 1] wr ((wr.setCell ⟨w.heap.size, 0, none⟩ (.pointer (some ⟨w.heap.size + 2, 0, none⟩))).setCell ⟨w.heap.size + 1, 0, none⟩ (.int .i64 0)) := ((Fr.refl _ _).setCell (.inl (by simp)) _).setCell (.inl (by simp)) _
              have hDz := hf2.heap hDr (by simp; omega)
              have r2 : ((wr.setCell ⟨w.heap.size, 0, none⟩ (.pointer (some ⟨w.heap.size + 2, 0, none⟩))).setCell ⟨w.heap.size + 1, 0, none⟩ (.int .i64 0)).heap[w.heap.size]? = some (.cells #[.pointer (some ⟨w.heap.size + 2, 0, none⟩)] 60 (0, 0)) := by
                rw [heap_setCell_other _ _ _ _ (by simp)]
                exact heap_setCell_same' _ _ _ _ _ _ Er.c2
              have r3 : ((wr.setCell ⟨w.heap.size, 0, none⟩ (.pointer (some ⟨w.heap.size + 2, 0, none⟩))).setCell ⟨w.heap.size + 1, 0, none⟩ (.int .i64 0)).heap[w.heap.size + 1]? = some (.cells #[.int .i64 0] 34 (0, 0)) := by
                have h0 : (wr.setCell ⟨w.heap.size, 0, none⟩ (.pointer (some ⟨w.heap.size + 2, 0, none⟩))).heap[w.heap.size + 1]? = some (.cells #[.int .i64 0] 34 (0, 0)) := by
                  rw [heap_setCell_other _ _ _ _ (by simp)]
                  exact Er.c3
                have := heap_setCell_same' _ _ 0 _ _ (.int .i64 0) h0
                simpa using this
              have rD := Dr.fr hf2 (fun k hk => by have := hLw k hk; simp; omega)
              have rS := hf2.heap Er.st (by simp)
              have rB := ownsRow_fr' Br hf2 (fun k e => by have := (Br.lt k e).1; simp; omega)
              have rF : Fr L.all w ((wr.setCell ⟨w.heap.size, 0, none⟩ (.pointer (some ⟨w.heap.size + 2, 0, none⟩))).setCell ⟨w.heap.size + 1, 0, none⟩ (.int .i64 0)) := Er.fr.then hf2 (by simp)
              go_wp2_with fail
              generalize ((wr.setCell ⟨w.heap.size, 0, none⟩ (.pointer (some ⟨w.heap.size + 2, 0, none⟩))).setCell ⟨w.heap.size + 1, 0, none⟩ (.int .i64 0)) = wz at hDz r2 r3 rD rS rB rF ⊢
              refine ⟨by simp, .inl ⟨_, _, rfl, run_takeDeferred hDz, ?_⟩⟩
              have hfz : Fr [Dd] wz (wz.putObj Dd (.deferred none)) := (Fr.refl _ _).putObj (.inl (by simp)) _
              have e2 := hfz.heap r2 (by simp; omega)
              have e3 := hfz.heap r3 (by simp; omega)
              refine leaves_two rfl Tryz.underlying60 rfl Tryz.underlying34 rfl rfl rfl e2 e3 ?_
              have hbL := fun k e => (rB.lt k e).1
              have hDL : ∀ k ∈ L.all, k ∉ [Dd] := by
                intro k hk e
                have := hLw k hk
                have e' : k = Dd := by simpa using e
                have := O6.fr.size
                omega
              refine ⟨⟨w.heap.size + 2, bv.ownBlock⟩, rfl, ?_, ?_, rF.then hfz (fun k hk => .inr (by have e' : k = Dd := (by simpa using hk); have := O6.fr.size; omega)), ?_⟩
              · rw [HRES.out]
                exact rD.fr hfz hDL
              · rw [HRES.out]
                rw [List.take_of_length_le (by rw [HLF.out]; exact Nat.le_refl _)] at rB
                refine ⟨nb.1, nb.2, ⟨bv, hfz.heap rS (by simp; omega), ownsRow_low (ownsRow_fr' rB hfz (fun k e => ?_)) (Nat.zero_le _), rfl⟩, fun e => ?_⟩
                · have := hbL k e; simp; omega
                · have := hbL (w.heap.size + 2) e; omega
              · intro k hk
                rcases List.mem_cons.1 hk with rfl | hk
                · show w.heap.size ≤ w.heap.size + 2; omega
                · have := hbL k (by simpa [Option.mem_toList, eq_comm] using hk); omega
  case stop =>
    rintro D c pre W _ _ h _
    exact h.elim
end
end Go.Proofs.YtcnhlemenpgkbaaGreatDoor
