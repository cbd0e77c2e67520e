/- The disk: a new one; its image; a bit that rots. -/
import Derived.Test.YtcnhlemenpgkbaaGreatDoorDisk3
import Derived.Test.YtcnhlemenpgkbaaGreatDoorAppend
namespace Go.Proofs.YtcnhlemenpgkbaaGreatDoor
set_option linter.unusedSimpArgs false
set_option linter.unusedVariables false
set_option linter.unnecessarySimpa false
open Go.RowKit M

theorem pageBytes : (Tryz.prog.info? 59).map (fun i => (i.zero, i.size, i.bytes)) = some (some (.agg (cellsOf (zeros 128)).toArray), 128, 128) := pageInfo

theorem cells_zeros (n : Nat) : cellsOf (zeros n) = List.replicate n (.int .u8 0) := by simp [cellsOf, zeros]

theorem get_of? {α : Type} {l : List α} {i : Nat} {h : i < l.length} {v : α} (e : l[i]? = some v) : l[i] = v := (List.getElem?_eq_some_iff.1 e).2

theorem made_const (z : Array Value) (k n : Nat) (v : Value) (hz : z.size = k) (hk : 0 < k) (h : ∀ j, j < k → z[j]! = v) : madeCells z n = (List.replicate n v).toArray := by
  apply Array.ext
  · rw [size_madeCells]; simp
  · intro i h1 h2
    simp only [madeCells, Array.getElem_map, Array.getElem_range, hz, List.getElem_toArray, List.getElem_replicate]
    exact h _ (Nat.mod_lt _ hk)

theorem rows_new (n : Nat) : rows (List.replicate n ⟨zeros 128, none⟩) = List.replicate (n * 128) (.int .u8 0) := by
  induction n with
  | zero => rfl
  | succ n ih =>
    simp only [rows, List.replicate_succ, List.flatMap_cons] at ih ⊢
    rw [ih, cells_zeros, List.replicate_append_replicate]
    congr 1; omega

section
variable {w : World} {L : DL} {d : Disk}
variable {ops : Array Oper} {Q : Exit → Act → World → Prop} {a : Act} {rest : List Oper} {o : Oper}

theorem wpL_makePages (hgd : o.guard = none) (x y : Operand) (ho : o.op = .makeSlice 52 x y) (n : Nat) (hn : n ≤ 4096) (hx : a.eval x = .int .i64 n) (hy : a.eval y = .int .i64 n)
    (h : ∀ w', w'.heap[w.heap.size]? = some (.cells (rows (List.replicate n ⟨zeros 128, none⟩)).toArray 59 (0, 0)) → Fr [] w w' → w'.heap.size = w.heap.size + 1 →
      wpList Tryz.prog ops Q rest (a.put o.dst (.slice (some ⟨w.heap.size, 0, none⟩) n n)) w') : wpList Tryz.prog ops Q (o :: rest) a w := by
  have hcells : madeCells (cellsOf (zeros 128)).toArray (n * 128) = (rows (List.replicate n ⟨zeros 128, none⟩)).toArray := by
    rw [rows_new]
    refine made_const _ 128 _ _ (by rw [List.size_toArray, cellsOf_length]; rfl) (by omega) fun j hj => ?_
    rw [getElem!_pos _ _ (by rw [List.size_toArray, cellsOf_length]; exact hj), List.getElem_toArray]
    exact get_of? (by rw [cells_zeros, List.getElem?_replicate, if_pos hj])
  refine wpL_val hgd (v := .slice (some ⟨w.heap.size, 0, none⟩) n n) (w' := w.alloc (.cells (rows (List.replicate n ⟨zeros 128, none⟩)).toArray 59)) ?_ (h _ (heap_alloc_new _ _) ((Fr.refl _ _).alloc _) (by simp))
  cases hq : Tryz.prog.info? 59 with
  | none => have := pageInfo; simp [hq] at this
  | some i =>
    obtain ⟨hz, hs, hb⟩ : i.zero = some (.agg (cellsOf (zeros 128)).toArray) ∧ i.size = 128 ∧ i.bytes = 128 := by
      have := pageInfo
      simpa [hq] using this
    have hrun := run_make (P := Tryz.prog) w 52 59 i _ Tryz.underlying52 hq hz .i64 .i64 n n (by omega) (Int.le_refl _) (by rw [hb]; omega) (by omega)
    simp only [Int.toNat_natCast, hs, Value.cells, hcells] at hrun
    unfold execOp
    simp only [ho, hx, hy, Sem.run_bind, hrun, Result.andThen_ok, Sem.run_pure]

theorem DiskAt.fresh {pb mb b n : Nat} (hn : n ≤ 4096) (hb : w.heap[b]? = some (.cells #[.slice (some ⟨pb, 0, none⟩) n n, .map (some mb), .bool false, .int .i64 (-1)] 55 (0, 0)))
    (hp : w.heap[pb]? = some (.cells (rows (List.replicate n ⟨zeros 128, none⟩)).toArray 59 (0, 0))) (hm : w.heap[mb]? = some (.map #[] 0)) (h1 : b ≠ pb) (h2 : b ≠ mb) (h3 : pb ≠ mb) : DiskAt w ⟨b, pb, mb⟩ (Disk.new n) := by
  refine ⟨⟨by simpa [Disk.new] using hn, ?_, ?_, by simp [Disk.new], by simp [Disk.new]⟩, by simpa [Disk.new] using hb, hp, ⟨[], 0, by simpa using hm, Pends.empty _ _ ?_⟩, h1, h2, h3⟩
  · intro p hp; rw [(List.mem_replicate.1 hp).2]; rfl
  · intro p hp b hb; rw [(List.mem_replicate.1 hp).2] at hb; cases hb
  · intro p hp; rw [(List.mem_replicate.1 hp).2]

theorem dNew_calls (w : World) (n : Int) (h1 : 1 ≤ n) (h2 : n ≤ 4096) : Calls Tryz.prog 19 #[.int .i64 n] w fun e w' =>
    ∃ L, e = .returned (.tuple #[Dp L, .int .i64 0]) ∧ DiskAt w' L (Disk.new n.toNat) ∧ Fr [] w w' ∧ ∀ k ∈ L.all, w.heap.size ≤ k := by
  obtain ⟨m, rfl⟩ := Int.eq_ofNat_of_zero_le (show 0 ≤ n by omega)
  rw [Int.toNat_natCast]
  have hmm := fun t => run_makeMap (P := Tryz.prog) t
  go_enter Tryz.func19, Tryz.ntmps19
  go_wp2_with (first | (with_reducible refine wpL_stop (o := ⟨_, .alloc 59, _, _, _, none⟩) ?_) | (with_reducible refine wpL_stop (o := ⟨_, .load 59 _, _, _, _, none⟩) ?_) | (with_reducible refine wpL_stop (o := ⟨_, .store 59 _ _, _, _, _, none⟩) ?_) | (with_reducible refine wpL_stop (o := ⟨_, .lookup _ _ _ _, _, _, _, none⟩) ?_) | (with_reducible refine wpL_stop (o := ⟨_, .box 59 _, _, _, _, none⟩) ?_) | (with_reducible refine wpL_stop (o := ⟨_, .next _ _, _, _, _, none⟩) ?_) | (with_reducible refine wpL_stop (o := ⟨_, .range _ _, _, _, _, none⟩) ?_) | (with_reducible refine wpL_stop (o := ⟨_, .mapUpdate _ _ _ _, _, _, _, none⟩) ?_) | (with_reducible refine wpL_stop (o := ⟨_, .convert 23 9 _, _, _, _, none⟩) ?_) | (with_reducible refine wpL_stop (o := ⟨_, .convert 9 23 _, _, _, _, none⟩) ?_) | (with_reducible refine wpL_stop (o := ⟨_, .call { callee := .builtin .copy, args := _, argTypes := _ }, _, _, _, none⟩) ?_) | (with_reducible refine wpL_stop (o := ⟨_, .call { callee := .builtin .append, args := _, argTypes := _ }, _, _, _, none⟩) ?_) | (with_reducible refine wpL_stop (o := ⟨_, .call { callee := .builtin .clear, args := _, argTypes := _ }, _, _, _, none⟩) ?_) | (with_reducible refine wpL_stop (o := ⟨_, .makeSlice _ _ _, _, _, _, none⟩) ?_) | (with_reducible refine wpL_stop (o := ⟨_, .makeMap _ _, _, _, _, none⟩) ?_) | (with_reducible refine wpL_stop (o := ⟨_, .entry _, _, _, _, none⟩) ?_) | (with_reducible refine wpL_stop (o := ⟨_, .call { callee := .builtin .max, args := _, argTypes := _ }, _, _, _, none⟩) ?_) | (with_reducible refine wpL_stop (o := ⟨_, .call { callee := .builtin .min, args := _, argTypes := _ }, _, _, _, none⟩) ?_) | (with_reducible refine wpL_stop (o := ⟨_, .slice 59 _ none (some _) none, _, _, _, none⟩) ?_) | (with_reducible refine wpL_stop (o := ⟨_, .binOp .add 9 _ _ _, _, _, _, none⟩) ?_) | (with_reducible refine wpL_stop (o := ⟨_, .slice 9 _ _ _ _, _, _, _, none⟩) ?_))
  refine unhold (wpL_makePages rfl _ _ rfl m (by omega) rfl rfl ?_)
  intro w1 g1 f1 s1
  go_wp2_with (first | (with_reducible refine wpL_stop (o := ⟨_, .box _ _, _, _, _, _⟩) ?_))
  refine unhold (wpL_box rfl 55 _ rfl #[.slice (some ⟨w.heap.size, 0, none⟩) m m, .map (some (w.heap.size + 1)), .bool false, .int .i64 (-1)] rfl ?_)
  intro w3 g3 f3 s3
  have e2 : (w1.alloc (.map #[] 0)).heap.size = w.heap.size + 2 := by simp [s1]
  rw [e2] at g3 s3
  rw [e2]
  clear e2
  have hm3 := f3.heap (heap_alloc_new w1 (.map #[] 0)) (by simp)
  rw [s1] at hm3
  have hp3 := f3.heap ((Below.heap_alloc w1 (.map #[] 0) w.heap.size (by omega)).trans g1) (by simp)
  have F3 : Fr [] w w3 := (f1.alloc _).then f3 (by simp)
  go_wp2
  go_ret2
  exact ⟨⟨w.heap.size + 2, w.heap.size, w.heap.size + 1⟩, rfl, DiskAt.fresh (by omega) g3 hp3 hm3 (by simp) (by simp) (by simp), F3, by simp [DL.all]⟩

theorem strInfo : (Tryz.prog.info? 9).map (fun i => (i.zero, i.size, i.bytes)) = some (some (.string ⟨#[]⟩), 1, 16) := by kernel_rfl

def strs (l : List Bytes) : List Value := l.map str

theorem rows_at (h : DiskAt w L d) {i : Nat} (hi : i < d.pg.length) : ∀ j, j < 128 → (rows d.pg).toArray[i * 128 + j]? = (cellsOf d.pg[i].old)[j]? := by
  intro j hj
  have := rows_get d.pg i d.pg[i] h.ok.olds (List.getElem?_eq_getElem hi) j hj
  simpa using this

end
end Go.Proofs.YtcnhlemenpgkbaaGreatDoor
