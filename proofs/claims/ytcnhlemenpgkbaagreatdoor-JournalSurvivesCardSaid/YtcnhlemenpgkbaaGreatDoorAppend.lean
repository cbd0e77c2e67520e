/- Append onto a slice that the call itself has made. -/
import Derived.Test.YtcnhlemenpgkbaaGreatDoorLaws
import Derived.Laws.AppendOwn
import Derived.OwnWalk
namespace Go.Proofs.YtcnhlemenpgkbaaGreatDoor
set_option linter.unusedSimpArgs false
set_option linter.unusedVariables false
set_option linter.unnecessarySimpa false
open Go.RowKit M

section
variable {P : Program} {ops : Array Oper} {Q : Exit → Act → World → Prop} {a : Act} {w : World} {rest : List Oper} {o : Oper}

theorem wpL_append' (hgd : o.guard = none) (s x : Operand) (T : TypeId) (ho : o.op = .call { callee := .builtin .append, args := #[s, x], argTypes := #[T, T] })
    (base : Nat) (E : TypeId) (z : Value) (size bytes : Nat) (hT : P.underlying T = some (.slice E)) (info : (P.info? E).map (fun i => (i.zero, i.size, i.bytes)) = some (some z, size, bytes)) (hzs : z.cells.size = size) (hsz : 0 < size) (hby : bytes ≤ 4096)
    (v : Value) (n : Nat) (xs : List Value) (hs : a.eval s = v) (hown : w.ownsRow base E size v n xs)
    (g m c : Nat) (news : List Value) (hx : a.eval x = .slice (some ⟨g, 0, none⟩) m c) (hl : news.length = m * size) (t : TypeId) (cs : Array Value) (fz : Nat × Nat) (hg : w.heap[g]? = some (.cells cs t fz)) (hn : ∀ (j : Nat) u, news[j]? = some u → cs[j]? = some u) (h1 : ∀ u ∈ news, u.oneCell' = true)
    (hb : n + m ≤ 1000000000) (hbase : base ≤ w.heap.size)
    (h : ∀ v' w', w'.ownsRow base E size v' (n + m) (xs ++ news) → (∀ S w0, Fr S w0 w → w0.heap.size ≤ base → Fr S w0 w') → w.grownBy w' v.ownBlock → w.heap.size ≤ w'.heap.size → wpList P ops Q rest (a.put o.dst v') w') :
    wpList P ops Q (o :: rest) a w := by
  cases hq : P.info? E with
  | none => simp [hq] at info
  | some i =>
    obtain ⟨hz, hsi, hbi⟩ : i.zero = some z ∧ i.size = size ∧ i.bytes = bytes := by simpa [hq] using info
    refine wpList_append_own w hgd s x T ho base E i z size bytes hT hq hz hsi hbi hzs hsz v n xs hs hown ⟨g, 0, none⟩ m c news hx hl ?_ h1 (by unfold maxLen; omega) ?_ hbase ?_
    · intro j u hj
      rw [addr_add, cell_of_row w g _ cs t fz hg, Nat.zero_add]
      exact hn j u hj
    · calc (n + m) * bytes ≤ 1000000000 * 4096 := Nat.mul_le_mul hb hby
        _ ≤ 140737488355328 := by omega
    · intro v' w' hown' hgrow _
      refine h v' w' hown' ?_ hgrow hgrow.size
      intro S w0 hf hb0
      refine hf.grown hgrow fun k hk => .inr ?_
      have := hown.lt k hk
      omega

theorem wpL_append (hgd : o.guard = none) (s x : Operand) (T : TypeId) (ho : o.op = .call { callee := .builtin .append, args := #[s, x], argTypes := #[T, T] })
    (base : Nat) (E : TypeId) (z : Value) (size bytes : Nat) (hT : P.underlying T = some (.slice E)) (info : (P.info? E).map (fun i => (i.zero, i.size, i.bytes)) = some (some z, size, bytes)) (hzs : z.cells.size = size) (hsz : 0 < size) (hby : bytes ≤ 4096)
    (v : Value) (n : Nat) (xs : List Value) (hs : a.eval s = v) (hown : w.ownsRow base E size v n xs)
    (g m : Nat) (news : List Value) (hx : a.eval x = .slice (some ⟨g, 0, none⟩) m m) (hl : news.length = m * size) (t : TypeId) (fz : Nat × Nat) (hg : w.heap[g]? = some (.cells news.toArray t fz)) (h1 : ∀ u ∈ news, u.oneCell' = true)
    (hb : n + m ≤ 1000000000) (hbase : base ≤ w.heap.size)
    (h : ∀ v' w', w'.ownsRow base E size v' (n + m) (xs ++ news) → (∀ S w0, Fr S w0 w → w0.heap.size ≤ base → Fr S w0 w') → w.grownBy w' v.ownBlock → w.heap.size ≤ w'.heap.size → wpList P ops Q rest (a.put o.dst v') w') :
    wpList P ops Q (o :: rest) a w :=
  wpL_append' hgd s x T ho base E z size bytes hT info hzs hsz hby v n xs hs hown g m m news hx hl t _ fz hg (fun j u hj => by simpa using hj) h1 hb hbase h

/-- Nothing appended: the slice as it is. -/
theorem wpL_append_none (hgd : o.guard = none) (s x : Operand) (T : TypeId) (ho : o.op = .call { callee := .builtin .append, args := #[s, x], argTypes := #[T, T] })
    (E : TypeId) (hT : P.underlying T = some (.slice E)) (size : Nat) (hsz : (P.info? E).map (·.size) = some size)
    (p q : Option Addr) (n c c2 : Nat) (hs : a.eval s = .slice p n c) (hx : a.eval x = .slice q 0 c2) (hc : n ≤ c) (h : wpList P ops Q rest (a.put o.dst (.slice p n c)) w) : wpList P ops Q (o :: rest) a w := by
  refine wpL_val hgd (v := .slice p n c) ?_ h
  have hrun : (Builtin.append_ #[T, T] o.type #[.slice p n c, .slice q 0 c2]).run P w = .ok (.slice p n c) w := by
    cases p <;> cases q <;> simp [Builtin.append_, run_underlying hT, run_sizeOf hsz, Builtin.lenOf, Builtin.firstCells, loadCells, loadCellsFrom, storeCells, hc, Sem.run_bind]
  simp [execOp, ho, resolve, invoke, builtin, hs, hx, hrun, Result.andThen]

theorem ownsRow_nil' (w : World) (base : Nat) (E : TypeId) (size : Nat) : w.ownsRow base E size (.slice none 0 0) 0 [] := World.ownsRow_nil w base E size

/-- An owned row in a world where its block lies as it lay. -/
theorem ownsRow_fr {w' : World} {base : Nat} {E : TypeId} {size : Nat} {v : Value} {n : Nat} {xs : List Value} {S : List Nat} (h : w.ownsRow base E size v n xs) (hf : Fr S w w') (hS : ∀ k ∈ S, k < base) : w'.ownsRow base E size v n xs := by
  refine ⟨h.1, ?_⟩
  rcases h.2 with h2 | ⟨g, cap, cur, hv, hb, hg, r⟩
  · exact .inl h2
  · exact .inr ⟨g, cap, cur, hv, hb, hf.heap hg (fun e => by have := hS g e; omega), r⟩

/-- How an owned row is read: a slice value, nil or the head of a block. -/
theorem ownsRow_len {base : Nat} {E : TypeId} {size : Nat} {v : Value} {n : Nat} {xs : List Value} (h : w.ownsRow base E size v n xs) : ∃ p c, v = .slice p n c := by
  rcases h.2 with ⟨rfl, rfl⟩ | ⟨g, cap, cur, rfl, _⟩
  · exact ⟨_, _, rfl⟩
  · exact ⟨_, _, rfl⟩

end
end Go.Proofs.YtcnhlemenpgkbaaGreatDoor
