/- Lists of steps, while they grow. -/
import Derived.Test.YtcnhlemenpgkbaaGreatDoorModel3
import Derived.Maps.AppendAt
import Derived.Deep.RegionHeld3
namespace Go.Proofs.YtcnhlemenpgkbaaGreatDoor
set_option linter.unusedSimpArgs false
set_option linter.unusedVariables false
set_option linter.unnecessarySimpa false
open Go.RowKit M

section
variable {P : Program} {ops : Array Oper} {Q : Exit → Act → World → Prop} {a : Act} {w : World} {rest : List Oper} {o : Oper}

/-- Append onto an own row: where the row lies behind it. -/
theorem wpL_append_at (hgd : o.guard = none) (s x : Operand) (T : TypeId) (ho : o.op = .call { callee := .builtin .append, args := #[s, x], argTypes := #[T, T] })
    (base : Nat) (E : TypeId) (z : Value) (bytes : Nat) (hT : P.underlying T = some (.slice E)) (info : (P.info? E).map (fun i => (i.zero, i.size, i.bytes)) = some (some z, 1, bytes)) (hzs : z.cells.size = 1) (hby : bytes ≤ 4096)
    (v : Value) (n : Nat) (xs : List Value) (hs : a.eval s = v) (hown : w.ownsRow base E 1 v n xs)
    (g c : Nat) (news : List Value) (hx : a.eval x = .slice (some ⟨g, 0, none⟩) news.length c) (t : TypeId) (cs : Array Value) (fz : Nat × Nat) (hg : w.heap[g]? = some (.cells cs t fz)) (hn : ∀ (j : Nat) u, news[j]? = some u → cs[j]? = some u) (h1 : ∀ u ∈ news, u.oneCell' = true)
    (hb : n + news.length ≤ 1000000000) (hbase : base ≤ w.heap.size)
    (h : ∀ v' w', w'.ownsRow base E 1 v' (n + news.length) (xs ++ news) → w.grownBy w' v.ownBlock → (v'.ownBlock = v.ownBlock ∨ v'.ownBlock = some w.heap.size) → wpList P ops Q rest (a.put o.dst v') w') :
    wpList P ops Q (o :: rest) a w := by
  cases hq : P.info? E with
  | none => simp [hq] at info
  | some i =>
    obtain ⟨hz, hsi, hbi⟩ : i.zero = some z ∧ i.size = 1 ∧ i.bytes = bytes := by simpa [hq] using info
    refine wpList_append_own_at w hgd s x T ho base E i z 1 bytes hT hq hz hsi hbi hzs (by omega) v n xs hs hown ⟨g, 0, none⟩ news.length c news hx (by omega) ?_ h1 (by unfold maxLen; omega) ?_ hbase ?_
    · intro j u hj
      rw [addr_add, cell_of_row w g _ cs t fz hg, Nat.zero_add]
      exact hn j u hj
    · calc (n + news.length) * bytes ≤ 1000000000 * 4096 := Nat.mul_le_mul hb hby
        _ ≤ 140737488355328 := by omega
    · intro v' w' hown' hgrow _ hat
      exact h v' w' hown' hgrow hat
end

theorem step_append_at {ops : Array Oper} {o : Oper} {a : Act} {w : World} {P : Program} {K : Act → World → Prop} {Q : Exit → Act → World → Prop} {Z : Prop} (hgd : o.guard = none) (s x : Operand) (T : TypeId) (ho : o.op = .call { callee := .builtin .append, args := #[s, x], argTypes := #[T, T] })
    (base : Nat) (E : TypeId) (z : Value) (bytes : Nat) (hT : P.underlying T = some (.slice E)) (info : (P.info? E).map (fun i => (i.zero, i.size, i.bytes)) = some (some z, 1, bytes)) (hzs : z.cells.size = 1) (hby : bytes ≤ 4096)
    (v : Value) (n : Nat) (xs : List Value) (hs : a.eval s = v) (hown : w.ownsRow base E 1 v n xs)
    (g c : Nat) (news : List Value) (hx : a.eval x = .slice (some ⟨g, 0, none⟩) news.length c) (t : TypeId) (cs : Array Value) (fz : Nat × Nat) (hg : w.heap[g]? = some (.cells cs t fz)) (hn : ∀ (j : Nat) u, news[j]? = some u → cs[j]? = some u) (h1 : ∀ u ∈ news, u.oneCell' = true)
    (hb : n + news.length ≤ 1000000000) (hbase : base ≤ w.heap.size)
    (h : ∀ v' w', w'.ownsRow base E 1 v' (n + news.length) (xs ++ news) → w.grownBy w' v.ownBlock → (v'.ownBlock = v.ownBlock ∨ v'.ownBlock = some w.heap.size) → K (a.put o.dst v') w') :
    if Region.wanted o (yielded ops a.tmps) = true then Oper.wp P o a w K Q else Z := by
  have hw : Region.wanted o (yielded ops a.tmps) = true := by simp [Region.wanted, hgd]
  rw [if_pos hw]
  cases hq : P.info? E with
  | none => simp [hq] at info
  | some i =>
    obtain ⟨hz, hsi, hbi⟩ : i.zero = some z ∧ i.size = 1 ∧ i.bytes = bytes := by simpa [hq] using info
    have hbytes : (n + news.length) * bytes ≤ 140737488355328 := by
      calc (n + news.length) * bytes ≤ 1000000000 * 4096 := Nat.mul_le_mul hb hby
        _ ≤ 140737488355328 := by omega
    obtain ⟨v', w', hr, h2, h3, _, h5⟩ := run_append_own_at (P := P) w base T o.type E i z 1 bytes hT hq hz hsi hbi hzs (by omega) v n xs hown ⟨g, 0, none⟩ news.length c news (by omega) (fun j u hj => by
      rw [addr_add, cell_of_row w g _ cs t fz hg, Nat.zero_add]
      exact hn j u hj) h1 (by unfold maxLen; omega) hbytes hbase
    unfold Oper.wp execOp
    simp only [ho, resolve, invoke, builtin, Sem.run_bind, Sem.run_pure, Result.andThen_ok, List.map_toArray, List.map_cons, List.map_nil, hs, hx, hr]
    exact h v' w' h2 h3 h5

/-- The function value of a step: what it has captured lies in boxes of H. -/
def StpIn (H : List Nat) (w : World) (L : DL) (v : Value) : Stp → Prop
  | .put p s => ∃ b1 b2 b3, v = .func (.func 58) #[] #[.pointer (some ⟨b1, 0, none⟩), .pointer (some ⟨b2, 0, none⟩), .pointer (some ⟨b3, 0, none⟩)] ∧
      b1 ∈ H ∧ b2 ∈ H ∧ b3 ∈ H ∧ w.cell? ⟨b1, 0, none⟩ = some (Dp L) ∧ w.cell? ⟨b2, 0, none⟩ = some (.int .i64 p) ∧ w.cell? ⟨b3, 0, none⟩ = some (.string ⟨s.toArray⟩)
  | .flush => v = .func (.func 35) #[Dp L] #[]
theorem StpIn.fr {H H' : List Nat} {w w' : World} {L : DL} {v : Value} {s : Stp} {S : List Nat} (h : StpIn H w L v s) (hf : Fr S w w') (hS : ∀ k ∈ S, k ∉ H) (hH : ∀ k ∈ H, k ∈ H') : StpIn H' w' L v s := by
  cases s with
  | flush => exact h
  | put p s =>
    obtain ⟨b1, b2, b3, rfl, h1, h2, h3, c1, c2, c3⟩ := h
    have ne : ∀ b, b ∈ H → b ∉ S := fun b hb e => hS b e hb
    exact ⟨b1, b2, b3, rfl, hH _ h1, hH _ h2, hH _ h3, cell_fr hf c1 (ne _ h1), cell_fr hf c2 (ne _ h2), cell_fr hf c3 (ne _ h3)⟩
theorem StpIn.at_ {H : List Nat} {w : World} {L : DL} {v : Value} {s : Stp} {B : Nat} (h : StpIn H w L v s) (hB : ∀ k ∈ H, B ≤ k) : StpAt B w L v s := by
  cases s with
  | flush => exact h
  | put p s =>
    obtain ⟨b1, b2, b3, rfl, h1, h2, h3, r⟩ := h
    exact ⟨b1, b2, b3, rfl, hB _ h1, hB _ h2, hB _ h3, r⟩
theorem StpAt.in_ {B : Nat} {w : World} {L : DL} {v : Value} {s : Stp} (h : StpAt B w L v s) : ∃ H, StpIn H w L v s ∧ ∀ k ∈ H, B ≤ k ∧ k < w.heap.size := by
  cases s with
  | flush => exact ⟨[], h, by simp⟩
  | put p s =>
    obtain ⟨b1, b2, b3, rfl, h1, h2, h3, c1, c2, c3⟩ := h
    refine ⟨[b1, b2, b3], ⟨b1, b2, b3, rfl, by simp, by simp, by simp, c1, c2, c3⟩, ?_⟩
    have := World.block_lt_of_cell? _ _ c1
    have := World.block_lt_of_cell? _ _ c2
    have := World.block_lt_of_cell? _ _ c3
    intro k hk
    simp only [List.mem_cons, List.not_mem_nil, or_false] at hk
    rcases hk with rfl | rfl | rfl <;> exact ⟨by assumption, by assumption⟩

/-- One list of steps in memory. -/
structure Lst (B : Nat) (H : List Nat) (w : World) (L : DL) (v : Value) (s : List Stp) : Prop where
  at_ : ∃ x, w.ownsRow B 78 1 v s.length x ∧ ∀ (j : Nat) a b, x[j]? = some a → s[j]? = some b → StpIn H w L a b ∧ b.okay
  off : ∀ k, v.ownBlock = some k → k ∉ H

theorem Lst.fr {B : Nat} {H H' : List Nat} {w w' : World} {L : DL} {v : Value} {s : List Stp} {S : List Nat} (h : Lst B H w L v s) (hf : Fr S w w') (hS : ∀ k ∈ S, k ∉ H ∧ v.ownBlock ≠ some k) (hH : ∀ k ∈ H, k ∈ H')
    (hn : ∀ k, v.ownBlock = some k → k ∉ H') : Lst B H' w' L v s := by
  obtain ⟨x, h1, h2⟩ := h.at_
  refine ⟨⟨x, ownsRow_fr' h1 hf (fun k hk e => (hS k e).2 hk), fun j a b ha hb => ?_⟩, hn⟩
  have := h2 j a b ha hb
  exact ⟨this.1.fr hf (fun k hk => (hS k hk).1) hH, this.2⟩
theorem Lst.fr0 {B : Nat} {H : List Nat} {w w' : World} {L : DL} {v : Value} {s : List Stp} (h : Lst B H w L v s) (hf : Fr [] w w') : Lst B H w' L v s := h.fr hf (by simp) (fun _ h => h) h.off
theorem Lst.lt {B : Nat} {H : List Nat} {w : World} {L : DL} {v : Value} {s : List Stp} (h : Lst B H w L v s) (k : Nat) (hk : v.ownBlock = some k) : B ≤ k ∧ k < w.heap.size := by
  obtain ⟨x, h1, h2⟩ := h.at_
  exact h1.lt k hk
theorem Lst.more {B : Nat} {H : List Nat} {w w' : World} {L : DL} {v : Value} {s : List Stp} {N : List Nat} (h : Lst B H w L v s) (hf : Fr [] w w') (hN : ∀ k ∈ N, w.heap.size ≤ k) : Lst B (H ++ N) w' L v s := by
  refine h.fr hf (by simp) (fun _ h => List.mem_append_left _ h) fun k hk => ?_
  have := h.lt k hk
  intro hm
  rcases List.mem_append.1 hm with hm | hm
  · exact h.off k hk hm
  · have := hN k hm; omega

/-- Grown by steps. -/
theorem Lst.app {B : Nat} {H : List Nat} {w w' : World} {L : DL} {v v' : Value} {s : List Stp} (h : Lst B H w L v s) (hH : ∀ k ∈ H, k < w.heap.size) (hg : w.grownBy w' v.ownBlock) (hv : v'.ownBlock = v.ownBlock ∨ v'.ownBlock = some w.heap.size)
    {x news : List Value} {ns : List Stp} (hl : news.length = ns.length) (h1 : w.ownsRow B 78 1 v s.length x) (h2 : ∀ (j : Nat) a b, x[j]? = some a → s[j]? = some b → StpIn H w L a b ∧ b.okay) (hr : w'.ownsRow B 78 1 v' (s.length + news.length) (x ++ news))
    (hns : ∀ (j : Nat) a b, news[j]? = some a → ns[j]? = some b → StpIn H w L a b ∧ b.okay) : Lst B H w' L v' (s ++ ns) := by
  have hf : Fr v.ownBlock.toList w w' := (Fr.refl _ _).grown hg (fun k hk => .inl (by simp [hk]))
  have hSS : ∀ k ∈ v.ownBlock.toList, k ∉ H := fun k hk => h.off k (by simpa using hk)
  have hxl : x.length = s.length := by have := h1.1; omega
  refine ⟨⟨x ++ news, ?_, fun j a b ha hb => ?_⟩, fun k hk => ?_⟩
  · rw [List.length_append, ← hl]; exact hr
  · by_cases hj : j < s.length
    · rw [List.getElem?_append_left (by omega)] at ha hb
      have := h2 j a b ha hb
      exact ⟨this.1.fr hf hSS (fun _ h => h), this.2⟩
    · rw [List.getElem?_append_right (by omega)] at ha hb
      rw [hxl] at ha
      have := hns _ a b ha hb
      exact ⟨this.1.fr hf hSS (fun _ h => h), this.2⟩
  · rcases hv with hv | hv
    · exact h.off k (hv ▸ hk)
    · rw [hv] at hk
      obtain rfl : w.heap.size = k := by simpa using hk
      intro hm
      have := hH _ hm
      omega
/-- .. the other list. -/
theorem Lst.beside {B : Nat} {H : List Nat} {w w' : World} {L : DL} {v u u' : Value} {s : List Stp} (h : Lst B H w L v s) (hg : w.grownBy w' u.ownBlock) (hu : ∀ k, u.ownBlock = some k → k ∉ H) (hd : ∀ k, u.ownBlock = some k → v.ownBlock ≠ some k)
    (hv : u'.ownBlock = u.ownBlock ∨ u'.ownBlock = some w.heap.size) : Lst B H w' L v s ∧ ∀ k, u'.ownBlock = some k → v.ownBlock ≠ some k := by
  have hf : Fr u.ownBlock.toList w w' := (Fr.refl _ _).grown hg (fun k hk => .inl (by simp [hk]))
  refine ⟨h.fr hf (fun k hk => ⟨hu k (by simpa using hk), hd k (by simpa using hk)⟩) (fun _ h => h) h.off, fun k hk => ?_⟩
  rcases hv with hv | hv
  · exact hd k (hv ▸ hk)
  · rw [hv] at hk
    obtain rfl : w.heap.size = k := by simpa using hk
    intro e
    have := h.lt _ e
    omega

theorem row_beside {B n : Nat} {E : TypeId} {w w' : World} {v u u' : Value} {xs : List Value} (h : w.ownsRow B E 1 v n xs) (hg : w.grownBy w' u.ownBlock) (hd : ∀ k, u.ownBlock = some k → v.ownBlock ≠ some k)
    (hv : u'.ownBlock = u.ownBlock ∨ u'.ownBlock = some w.heap.size) : w'.ownsRow B E 1 v n xs ∧ ∀ k, u'.ownBlock = some k → v.ownBlock ≠ some k := by
  have hf : Fr u.ownBlock.toList w w' := (Fr.refl _ _).grown hg (fun k hk => .inl (by simp [hk]))
  refine ⟨ownsRow_fr' h hf (fun k hk e => hd k (by simpa using e) hk), fun k hk => ?_⟩
  rcases hv with hv | hv
  · exact hd k (hv ▸ hk)
  · rw [hv] at hk
    obtain rfl : w.heap.size = k := by simpa using hk
    intro e
    have := h.lt _ e
    omega

/-- Two lists of steps and one of numbers. -/
structure Tri (B : Nat) (H : List Nat) (w : World) (L : DL) (v7 : Value) (s7 : List Stp) (v8 : Value) (s8 : List Stp) (v9 : Value) (x9 : List Value) : Prop where
  a7 : Lst B H w L v7 s7
  a8 : Lst B H w L v8 s8
  a9 : w.ownsRow B 3 1 v9 x9.length x9
  o9 : ∀ k, v9.ownBlock = some k → k ∉ H
  d78 : ∀ k, v7.ownBlock = some k → v8.ownBlock ≠ some k
  d79 : ∀ k, v7.ownBlock = some k → v9.ownBlock ≠ some k
  d89 : ∀ k, v8.ownBlock = some k → v9.ownBlock ≠ some k
  hH : ∀ k ∈ H, B ≤ k ∧ k < w.heap.size

section
variable {B : Nat} {H : List Nat} {w w' : World} {L : DL} {v7 v8 v9 : Value} {s7 s8 : List Stp} {x9 : List Value}

theorem Tri.swap (T : Tri B H w L v7 s7 v8 s8 v9 x9) : Tri B H w L v8 s8 v7 s7 v9 x9 :=
  ⟨T.a8, T.a7, T.a9, T.o9, fun k h e => T.d78 k e h, T.d89, T.d79, T.hH⟩
theorem Tri.fr0 (T : Tri B H w L v7 s7 v8 s8 v9 x9) (hf : Fr [] w w') : Tri B H w' L v7 s7 v8 s8 v9 x9 :=
  ⟨T.a7.fr0 hf, T.a8.fr0 hf, ownsRow_fr' T.a9 hf (by simp), T.o9, T.d78, T.d79, T.d89, fun k hk => ⟨(T.hH k hk).1, Nat.lt_of_lt_of_le (T.hH k hk).2 hf.size⟩⟩
theorem Tri.more (T : Tri B H w L v7 s7 v8 s8 v9 x9) (hf : Fr [] w w') (hB : B ≤ w.heap.size) {N : List Nat} (hN : ∀ k ∈ N, w.heap.size ≤ k ∧ k < w'.heap.size) : Tri B (H ++ N) w' L v7 s7 v8 s8 v9 x9 := by
  refine ⟨T.a7.more hf (fun k hk => (hN k hk).1), T.a8.more hf (fun k hk => (hN k hk).1), ownsRow_fr' T.a9 hf (by simp), fun k hk hm => ?_, T.d78, T.d79, T.d89, fun k hk => ?_⟩
  · rcases List.mem_append.1 hm with hm | hm
    · exact T.o9 k hk hm
    · have := (T.a9.lt k hk).2; have := (hN k hm).1; omega
  · rcases List.mem_append.1 hk with hk | hk
    · exact ⟨(T.hH k hk).1, Nat.lt_of_lt_of_le (T.hH k hk).2 hf.size⟩
    · have := hN k hk; exact ⟨by omega, by omega⟩
theorem Tri.app7 (T : Tri B H w L v7 s7 v8 s8 v9 x9) {v7' : Value} (hg : w.grownBy w' v7.ownBlock) (hv : v7'.ownBlock = v7.ownBlock ∨ v7'.ownBlock = some w.heap.size)
    {x news : List Value} {ns : List Stp} (hl : news.length = ns.length) (h1 : w.ownsRow B 78 1 v7 s7.length x) (h2 : ∀ (j : Nat) a b, x[j]? = some a → s7[j]? = some b → StpIn H w L a b ∧ b.okay) (hr : w'.ownsRow B 78 1 v7' (s7.length + news.length) (x ++ news))
    (hns : ∀ (j : Nat) a b, news[j]? = some a → ns[j]? = some b → StpIn H w L a b ∧ b.okay) : Tri B H w' L v7' (s7 ++ ns) v8 s8 v9 x9 := by
  obtain ⟨p8, q8⟩ := T.a8.beside hg T.a7.off T.d78 hv
  obtain ⟨p9, q9⟩ := row_beside T.a9 hg T.d79 hv
  exact ⟨T.a7.app (fun k hk => (T.hH k hk).2) hg hv hl h1 h2 hr hns, p8, p9, T.o9, q8, q9, T.d89, fun k hk => ⟨(T.hH k hk).1, Nat.lt_of_lt_of_le (T.hH k hk).2 hg.size⟩⟩
theorem Tri.app9 (T : Tri B H w L v7 s7 v8 s8 v9 x9) {v9' : Value} (hg : w.grownBy w' v9.ownBlock) (hv : v9'.ownBlock = v9.ownBlock ∨ v9'.ownBlock = some w.heap.size)
    {news : List Value} (hr : w'.ownsRow B 3 1 v9' (x9.length + news.length) (x9 ++ news)) : Tri B H w' L v7 s7 v8 s8 v9' (x9 ++ news) := by
  obtain ⟨p7, q7⟩ := T.a7.beside hg T.o9 (fun k h e => T.d79 k e h) hv
  obtain ⟨p8, q8⟩ := T.a8.beside hg T.o9 (fun k h e => T.d89 k e h) hv
  refine ⟨p7, p8, by rw [List.length_append]; exact hr, fun k hk hm => ?_, T.d78, fun k h e => q7 k e h, fun k h e => q8 k e h, fun k hk => ⟨(T.hH k hk).1, Nat.lt_of_lt_of_le (T.hH k hk).2 hg.size⟩⟩
  rcases hv with hv | hv
  · exact T.o9 k (hv ▸ hk) hm
  · rw [hv] at hk
    obtain rfl : w.heap.size = k := by simpa using hk
    have := (T.hH _ hm).2
    omega
end

theorem PagesAt.setNumber {w : World} {L : DL} {d : Disk} {pl : PL} {p : M.Pages} (h : PagesAt w pl L p) (D : DiskAt w L d) (hne : ∀ k ∈ pl.all, k ∉ L.all) (n : Int) (h1 : 0 ≤ n) (h2 : n ≤ 1073741824) :
    DiskAt (w.setCell ⟨pl.b, 1, none⟩ (.int .i64 n)) L d ∧ PagesAt (w.setCell ⟨pl.b, 1, none⟩ (.int .i64 n)) pl L { p with number := n } := by
  have hf : Fr [pl.b] w (w.setCell ⟨pl.b, 1, none⟩ (.int .i64 n)) := (Fr.refl _ _).setCell (.inl (by simp)) _
  refine ⟨D.fr hf (fun k hk e => ?_), h1, h2, ?_, h.ne⟩
  · obtain rfl : k = pl.b := by simpa using e
    exact hne _ (by simp [PL.all]) hk
  · obtain ⟨bv, g1, g2, g3⟩ := h.at_
    refine ⟨bv, ?_, ownsRow_fr' g2 hf (fun k hk e => ?_), g3⟩
    · exact heap_setCell_same' w pl.b _ _ _ _ g1
    · obtain rfl : k = pl.b := by simpa using e
      exact h.ne (g3 ▸ hk)
theorem PagesAt.setClosed {w : World} {L : DL} {d : Disk} {pl : PL} {p : M.Pages} (h : PagesAt w pl L p) (D : DiskAt w L d) (hne : ∀ k ∈ pl.all, k ∉ L.all) (b : Bool) :
    DiskAt (w.setCell ⟨pl.b, 3, none⟩ (.bool b)) L d ∧ PagesAt (w.setCell ⟨pl.b, 3, none⟩ (.bool b)) pl L { p with closed := b } := by
  have hf : Fr [pl.b] w (w.setCell ⟨pl.b, 3, none⟩ (.bool b)) := (Fr.refl _ _).setCell (.inl (by simp)) _
  refine ⟨D.fr hf (fun k hk e => ?_), h.low, h.high, ?_, h.ne⟩
  · obtain rfl : k = pl.b := by simpa using e
    exact hne _ (by simp [PL.all]) hk
  · obtain ⟨bv, g1, g2, g3⟩ := h.at_
    refine ⟨bv, ?_, ownsRow_fr' g2 hf (fun k hk e => ?_), g3⟩
    · exact heap_setCell_same' w pl.b _ _ _ _ g1
    · obtain rfl : k = pl.b := by simpa using e
      exact h.ne (g3 ▸ hk)
end Go.Proofs.YtcnhlemenpgkbaaGreatDoor
