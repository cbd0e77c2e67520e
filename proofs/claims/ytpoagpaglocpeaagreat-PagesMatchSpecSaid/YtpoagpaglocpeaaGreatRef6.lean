/- The specification's disk: a new one. -/
import Derived.Test.YtpoagpaglocpeaaGreatRef5
import Derived.Test.YtpoagpaglocpeaaGreatHeld
namespace Go.Proofs.YtpoagpaglocpeaaGreat
set_option linter.unusedSimpArgs false
set_option linter.unusedVariables false
set_option linter.unnecessarySimpa false
open Go.RowKit M

theorem step_append_n {ops : Array Oper} {o : Oper} {a : Act} {w : World} {P : Program} {K : Act → World → Prop} {Q : Exit → Act → World → Prop} {Z : Prop} (hgd : o.guard = none) (s x : Operand) (T : TypeId) (ho : o.op = .call { callee := .builtin .append, args := #[s, x], argTypes := #[T, T] })
    (base : Nat) (E : TypeId) (z : Value) (size bytes : Nat) (hT : P.underlying T = some (.slice E)) (info : (P.info? E).map (fun i => (i.zero, i.size, i.bytes)) = some (some z, size, bytes)) (hzs : z.cells.size = size) (hsz : 0 < size) (hby : bytes ≤ 4096)
    (v : Value) (n : Nat) (xs : List Value) (hs : a.eval s = v) (hown : w.ownsRow base E size v n xs)
    (g m c : Nat) (news : List Value) (hx : a.eval x = .slice (some ⟨g, 0, none⟩) m c) (hl : news.length = m * size) (t : TypeId) (cs : Array Value) (fz : Nat × Nat) (hg : w.heap[g]? = some (.cells cs t fz)) (hn : ∀ (j : Nat) u, news[j]? = some u → cs[j]? = some u) (h1 : ∀ u ∈ news, u.oneCell' = true)
    (hb : n + m ≤ 1000000000) (hbase : base ≤ w.heap.size)
    (h : ∀ v' w', w'.ownsRow base E size v' (n + m) (xs ++ news) → w.grownBy w' v.ownBlock → (v'.ownBlock = v.ownBlock ∨ v'.ownBlock = some w.heap.size) → K (a.put o.dst v') w') :
    if Region.wanted o (yielded ops a.tmps) = true then Oper.wp P o a w K Q else Z := by
  have hw : Region.wanted o (yielded ops a.tmps) = true := by simp [Region.wanted, hgd]
  rw [if_pos hw]
  cases hq : P.info? E with
  | none => simp [hq] at info
  | some i =>
    obtain ⟨hz, hsi, hbi⟩ : i.zero = some z ∧ i.size = size ∧ i.bytes = bytes := by simpa [hq] using info
    have hbytes : (n + m) * bytes ≤ 140737488355328 := by
      calc (n + m) * bytes ≤ 1000000000 * 4096 := Nat.mul_le_mul hb hby
        _ ≤ 140737488355328 := by omega
    obtain ⟨v', w', hr, h2, h3, _, h5⟩ := run_append_own_at (P := P) w base T o.type E i z size bytes hT hq hz hsi hbi hzs hsz v n xs hown ⟨g, 0, none⟩ m c news hl (fun j u hj => by
      rw [addr_add, cell_of_row w g _ cs t fz hg, Nat.zero_add]
      exact hn j u hj) h1 (by unfold maxLen; omega) hbytes hbase
    unfold Oper.wp execOp
    simp only [ho, resolve, invoke, builtin, Sem.run_bind, Sem.run_pure, Result.andThen_ok, List.map_toArray, List.map_cons, List.map_nil, hs, hx, hr]
    exact h v' w' h2 h3 h5

theorem rpageInfo : (Tryz.prog.info? 156).map (fun i => (i.zero, i.size, i.bytes)) = some (some (.agg #[.string ⟨#[]⟩, .string ⟨#[]⟩, .bool false]), 3, 40) := by kernel_rfl

section
variable {w : World}

theorem rdZeros_calls (n : Nat) (hn : n ≤ 1000000) (w : World) : Calls Tryz.prog 95 #[.int .i64 n] w fun e w' => e = .returned (str (zeros n)) ∧ Fr [] w w' := by
  go_enter Tryz.func95, Tryz.ntmps95
  go_wp2_with (first | (with_reducible refine wpL_stop (o := ⟨_, .alloc 177, _, _, _, none⟩) ?_) | (with_reducible refine wpL_stop (o := ⟨_, .load 177 _, _, _, _, none⟩) ?_) | (with_reducible refine wpL_stop (o := ⟨_, .store 177 _ _, _, _, _, none⟩) ?_) | (with_reducible refine wpL_stop (o := ⟨_, .lookup _ _ _ _, _, _, _, none⟩) ?_) | (with_reducible refine wpL_stop (o := ⟨_, .box 177 _, _, _, _, none⟩) ?_) | (with_reducible refine wpL_stop (o := ⟨_, .next _ _, _, _, _, none⟩) ?_) | (with_reducible refine wpL_stop (o := ⟨_, .range _ _, _, _, _, none⟩) ?_) | (with_reducible refine wpL_stop (o := ⟨_, .mapUpdate _ _ _ _, _, _, _, none⟩) ?_) | (with_reducible refine wpL_stop (o := ⟨_, .convert 175 9 _, _, _, _, none⟩) ?_) | (with_reducible refine wpL_stop (o := ⟨_, .convert 9 175 _, _, _, _, none⟩) ?_) | (with_reducible refine wpL_stop (o := ⟨_, .call { callee := .builtin .copy, args := _, argTypes := _ }, _, _, _, none⟩) ?_) | (with_reducible refine wpL_stop (o := ⟨_, .call { callee := .builtin .append, args := _, argTypes := _ }, _, _, _, none⟩) ?_) | (with_reducible refine wpL_stop (o := ⟨_, .call { callee := .builtin .clear, args := _, argTypes := _ }, _, _, _, none⟩) ?_) | (with_reducible refine wpL_stop (o := ⟨_, .makeSlice _ _ _, _, _, _, none⟩) ?_) | (with_reducible refine wpL_stop (o := ⟨_, .makeMap _ _, _, _, _, none⟩) ?_) | (with_reducible refine wpL_stop (o := ⟨_, .entry _, _, _, _, none⟩) ?_) | (with_reducible refine wpL_stop (o := ⟨_, .call { callee := .builtin .max, args := _, argTypes := _ }, _, _, _, none⟩) ?_) | (with_reducible refine wpL_stop (o := ⟨_, .call { callee := .builtin .min, args := _, argTypes := _ }, _, _, _, none⟩) ?_) | (with_reducible refine wpL_stop (o := ⟨_, .slice 177 _ none (some _) none, _, _, _, none⟩) ?_) | (with_reducible refine wpL_stop (o := ⟨_, .binOp .add 9 _ _ _, _, _, _, none⟩) ?_) | (with_reducible refine wpL_stop (o := ⟨_, .slice 9 _ _ _ _, _, _, _, none⟩) ?_))
  refine unhold (wpL_makeBytes rfl _ _ rfl n hn rfl rfl ?_)
  intro w1 g1 f1 s1
  go_wp2_with (first | (with_reducible refine wpL_stop (o := ⟨_, .alloc 177, _, _, _, none⟩) ?_) | (with_reducible refine wpL_stop (o := ⟨_, .load 177 _, _, _, _, none⟩) ?_) | (with_reducible refine wpL_stop (o := ⟨_, .store 177 _ _, _, _, _, none⟩) ?_) | (with_reducible refine wpL_stop (o := ⟨_, .lookup _ _ _ _, _, _, _, none⟩) ?_) | (with_reducible refine wpL_stop (o := ⟨_, .box 177 _, _, _, _, none⟩) ?_) | (with_reducible refine wpL_stop (o := ⟨_, .next _ _, _, _, _, none⟩) ?_) | (with_reducible refine wpL_stop (o := ⟨_, .range _ _, _, _, _, none⟩) ?_) | (with_reducible refine wpL_stop (o := ⟨_, .mapUpdate _ _ _ _, _, _, _, none⟩) ?_) | (with_reducible refine wpL_stop (o := ⟨_, .convert 175 9 _, _, _, _, none⟩) ?_) | (with_reducible refine wpL_stop (o := ⟨_, .convert 9 175 _, _, _, _, none⟩) ?_) | (with_reducible refine wpL_stop (o := ⟨_, .call { callee := .builtin .copy, args := _, argTypes := _ }, _, _, _, none⟩) ?_) | (with_reducible refine wpL_stop (o := ⟨_, .call { callee := .builtin .append, args := _, argTypes := _ }, _, _, _, none⟩) ?_) | (with_reducible refine wpL_stop (o := ⟨_, .call { callee := .builtin .clear, args := _, argTypes := _ }, _, _, _, none⟩) ?_) | (with_reducible refine wpL_stop (o := ⟨_, .makeSlice _ _ _, _, _, _, none⟩) ?_) | (with_reducible refine wpL_stop (o := ⟨_, .makeMap _ _, _, _, _, none⟩) ?_) | (with_reducible refine wpL_stop (o := ⟨_, .entry _, _, _, _, none⟩) ?_) | (with_reducible refine wpL_stop (o := ⟨_, .call { callee := .builtin .max, args := _, argTypes := _ }, _, _, _, none⟩) ?_) | (with_reducible refine wpL_stop (o := ⟨_, .call { callee := .builtin .min, args := _, argTypes := _ }, _, _, _, none⟩) ?_) | (with_reducible refine wpL_stop (o := ⟨_, .slice 177 _ none (some _) none, _, _, _, none⟩) ?_) | (with_reducible refine wpL_stop (o := ⟨_, .binOp .add 9 _ _ _, _, _, _, none⟩) ?_) | (with_reducible refine wpL_stop (o := ⟨_, .slice 9 _ _ _ _, _, _, _, none⟩) ?_))
  refine unhold (wpL_text rfl _ _ _ rfl 5 Tryz.underlying175 Tryz.underlying5 Tryz.underlying9 w.heap.size 0 n n rfl _ _ _ (zeros n) g1 (by simp [zeros]) (by intro j hj; simp) ?_)
  go_wp2_with (first | (with_reducible refine wpL_stop (o := ⟨_, .alloc 177, _, _, _, none⟩) ?_) | (with_reducible refine wpL_stop (o := ⟨_, .load 177 _, _, _, _, none⟩) ?_) | (with_reducible refine wpL_stop (o := ⟨_, .store 177 _ _, _, _, _, none⟩) ?_) | (with_reducible refine wpL_stop (o := ⟨_, .lookup _ _ _ _, _, _, _, none⟩) ?_) | (with_reducible refine wpL_stop (o := ⟨_, .box 177 _, _, _, _, none⟩) ?_) | (with_reducible refine wpL_stop (o := ⟨_, .next _ _, _, _, _, none⟩) ?_) | (with_reducible refine wpL_stop (o := ⟨_, .range _ _, _, _, _, none⟩) ?_) | (with_reducible refine wpL_stop (o := ⟨_, .mapUpdate _ _ _ _, _, _, _, none⟩) ?_) | (with_reducible refine wpL_stop (o := ⟨_, .convert 175 9 _, _, _, _, none⟩) ?_) | (with_reducible refine wpL_stop (o := ⟨_, .convert 9 175 _, _, _, _, none⟩) ?_) | (with_reducible refine wpL_stop (o := ⟨_, .call { callee := .builtin .copy, args := _, argTypes := _ }, _, _, _, none⟩) ?_) | (with_reducible refine wpL_stop (o := ⟨_, .call { callee := .builtin .append, args := _, argTypes := _ }, _, _, _, none⟩) ?_) | (with_reducible refine wpL_stop (o := ⟨_, .call { callee := .builtin .clear, args := _, argTypes := _ }, _, _, _, none⟩) ?_) | (with_reducible refine wpL_stop (o := ⟨_, .makeSlice _ _ _, _, _, _, none⟩) ?_) | (with_reducible refine wpL_stop (o := ⟨_, .makeMap _ _, _, _, _, none⟩) ?_) | (with_reducible refine wpL_stop (o := ⟨_, .entry _, _, _, _, none⟩) ?_) | (with_reducible refine wpL_stop (o := ⟨_, .call { callee := .builtin .max, args := _, argTypes := _ }, _, _, _, none⟩) ?_) | (with_reducible refine wpL_stop (o := ⟨_, .call { callee := .builtin .min, args := _, argTypes := _ }, _, _, _, none⟩) ?_) | (with_reducible refine wpL_stop (o := ⟨_, .slice 177 _ none (some _) none, _, _, _, none⟩) ?_) | (with_reducible refine wpL_stop (o := ⟨_, .binOp .add 9 _ _ _, _, _, _, none⟩) ?_) | (with_reducible refine wpL_stop (o := ⟨_, .slice 9 _ _ _ _, _, _, _, none⟩) ?_))
  go_ret
  exact ⟨rfl, f1⟩

set_option maxRecDepth 100000 in
theorem rdNew_calls (w : World) (n : Int) (h1 : 1 ≤ n) (h2 : n ≤ 4096) : Calls Tryz.prog 36 #[.int .i64 n] w fun e w' =>
    ∃ L, e = .returned (.tuple #[Rp L, .int .i64 0]) ∧ RDiskAt w' L (Disk.new n.toNat) ∧ Fr [] w w' ∧ ∀ k ∈ L.all, w.heap.size ≤ k := by
  obtain ⟨m, rfl⟩ := Int.eq_ofNat_of_zero_le (show 0 ≤ n by omega)
  rw [Int.toNat_natCast]
  have m4 : m ≤ 4096 := by omega
  go_enter Tryz.func36, Tryz.ntmps36
  go_wp2_with (first | (with_reducible refine wpL_stop (o := ⟨_, .alloc 177, _, _, _, none⟩) ?_) | (with_reducible refine wpL_stop (o := ⟨_, .load 177 _, _, _, _, none⟩) ?_) | (with_reducible refine wpL_stop (o := ⟨_, .store 177 _ _, _, _, _, none⟩) ?_) | (with_reducible refine wpL_stop (o := ⟨_, .lookup _ _ _ _, _, _, _, none⟩) ?_) | (with_reducible refine wpL_stop (o := ⟨_, .box 177 _, _, _, _, none⟩) ?_) | (with_reducible refine wpL_stop (o := ⟨_, .next _ _, _, _, _, none⟩) ?_) | (with_reducible refine wpL_stop (o := ⟨_, .range _ _, _, _, _, none⟩) ?_) | (with_reducible refine wpL_stop (o := ⟨_, .mapUpdate _ _ _ _, _, _, _, none⟩) ?_) | (with_reducible refine wpL_stop (o := ⟨_, .convert 175 9 _, _, _, _, none⟩) ?_) | (with_reducible refine wpL_stop (o := ⟨_, .convert 9 175 _, _, _, _, none⟩) ?_) | (with_reducible refine wpL_stop (o := ⟨_, .call { callee := .builtin .copy, args := _, argTypes := _ }, _, _, _, none⟩) ?_) | (with_reducible refine wpL_stop (o := ⟨_, .call { callee := .builtin .append, args := _, argTypes := _ }, _, _, _, none⟩) ?_) | (with_reducible refine wpL_stop (o := ⟨_, .call { callee := .builtin .clear, args := _, argTypes := _ }, _, _, _, none⟩) ?_) | (with_reducible refine wpL_stop (o := ⟨_, .makeSlice _ _ _, _, _, _, none⟩) ?_) | (with_reducible refine wpL_stop (o := ⟨_, .makeMap _ _, _, _, _, none⟩) ?_) | (with_reducible refine wpL_stop (o := ⟨_, .entry _, _, _, _, none⟩) ?_) | (with_reducible refine wpL_stop (o := ⟨_, .call { callee := .builtin .max, args := _, argTypes := _ }, _, _, _, none⟩) ?_) | (with_reducible refine wpL_stop (o := ⟨_, .call { callee := .builtin .min, args := _, argTypes := _ }, _, _, _, none⟩) ?_) | (with_reducible refine wpL_stop (o := ⟨_, .slice 177 _ none (some _) none, _, _, _, none⟩) ?_) | (with_reducible refine wpL_stop (o := ⟨_, .binOp .add 9 _ _ _, _, _, _, none⟩) ?_) | (with_reducible refine wpL_stop (o := ⟨_, .slice 9 _ _ _ _, _, _, _, none⟩) ?_))
  go_loopg [5] m (fun kq i w' => ∃ (k : Nat) (v : Value), i = .int .i64 k ∧ k ≤ m ∧ Hid (kq + k = m) ∧ w'.heap[w.heap.size]? = some (.cells #[v, .bool false, .int .i64 (-1)] 153 (0, 0)) ∧ w'.ownsRow (w.heap.size + 1) 156 3 v k (rrows (List.replicate k ⟨zeros 128, none⟩)) ∧ Fr [] w w')
  case atStart =>
    refine ⟨0, .slice none 0 0, rfl, by omega, by simp [Hid], heap_alloc_new w _, World.ownsRow_nil _ _ _ _, (Fr.refl _ _).alloc _⟩
  case round =>
    obtain ⟨k, v, rfl, hk, hkq, hb, R, fr⟩ := hrel
    by_cases hlt : k < m
    · have hlt' : (k : Int) < (m : Int) := by omega
      have c0 : wr.cell? ⟨w.heap.size, 0, none⟩ = some v := blk_cell hb 0 rfl
      have hsz := lt_of_heap hb
      have hsn : rrows (List.replicate (k + 1) ⟨zeros 128, none⟩) = rrows (List.replicate k ⟨zeros 128, none⟩) ++ [str (zeros 128), .string ⟨#[]⟩, .bool false] := by
        rw [List.replicate_succ', rrows, List.flatMap_append]
        rfl
      have HS := Lib.hid hsn
      clear hsn
      go_wp2_with fail
      refine wp_region_keep (fun w' => w'.cell? ⟨w.heap.size, 0, none⟩ = some v) 11 (by kernel_rfl) ?_
      have hS : wr.drew.cell? ⟨w.heap.size, 0, none⟩ = some v := c0
      refine keepTake (i := 0) (v := ?_) (a' := ?_) rfl (by kernel_rfl) (by kernel_rfl) (by kernel_rfl) (by kernel_rfl) (by kernel_rfl) (by kernel_rfl) (fun w hSw => ?_) hS ?_ ?_
      rotate_left 2
      · (try dsimp only at hSw); (try (have hSa := hSw.1; have hSb := hSw.2)); (try (have hSc := hSb.1; have hSd := hSb.2)); go_simp; with_reducible rfl
      · go_simp; with_reducible rfl
      refine keepTake (i := 1) (v := ?_) (a' := ?_) rfl (by kernel_rfl) (by kernel_rfl) (by kernel_rfl) (by kernel_rfl) (by kernel_rfl) (by kernel_rfl) (fun w hSw => ?_) hS ?_ ?_
      rotate_left 2
      · (try dsimp only at hSw); (try (have hSa := hSw.1; have hSb := hSw.2)); (try (have hSc := hSb.1; have hSd := hSb.2)); go_simp; with_reducible rfl
      · go_simp; with_reducible rfl
      refine keepTake (i := 2) (v := ?_) (a' := ?_) rfl (by kernel_rfl) (by kernel_rfl) (by kernel_rfl) (by kernel_rfl) (by kernel_rfl) (by kernel_rfl) (fun w hSw => ?_) hS ?_ ?_
      rotate_left 2
      · (try dsimp only at hSw); (try (have hSa := hSw.1; have hSb := hSw.2)); (try (have hSc := hSb.1; have hSd := hSb.2)); go_simp; with_reducible rfl
      · go_simp; with_reducible rfl
      refine keepTake (i := 3) (v := ?_) (a' := ?_) rfl (by kernel_rfl) (by kernel_rfl) (by kernel_rfl) (by kernel_rfl) (by kernel_rfl) (by kernel_rfl) (fun w hSw => ?_) hS ?_ ?_
      rotate_left 2
      · (try dsimp only at hSw); (try (have hSa := hSw.1; have hSb := hSw.2)); (try (have hSc := hSb.1; have hSd := hSb.2)); go_simp; with_reducible rfl
      · go_simp; with_reducible rfl
      refine keepTake (i := 4) (v := ?_) (a' := ?_) rfl (by kernel_rfl) (by kernel_rfl) (by kernel_rfl) (by kernel_rfl) (by kernel_rfl) (by kernel_rfl) (fun w hSw => ?_) hS ?_ ?_
      rotate_left 2
      · (try dsimp only at hSw); (try (have hSa := hSw.1; have hSb := hSw.2)); (try (have hSc := hSb.1; have hSd := hSb.2)); go_simp; with_reducible rfl
      · go_simp; with_reducible rfl
      refine keepReady (rs := [5]) (by kernel_rfl) (by simp) ?_
      refine AllK.cons rfl (fun K hK => ?_) AllK.nil
      go_simp
      refine (rdZeros_calls 128 (by omega) _).mono ?_
      rintro e w3 ⟨rfl, f3⟩
      have hS : w3.cell? ⟨w.heap.size, 0, none⟩ = some v := cell_fr f3 hS (by simp)
      try dsimp only
      refine hK _ _ (fun _ => hS) ?_
      clear hK K
      try simp only [Act.put, List.setIfInBounds_toArray, List.set_cons_zero, List.set_cons_succ]
      refine keepTake (i := 6) (v := ?_) (a' := ?_) rfl (by kernel_rfl) (by kernel_rfl) (by kernel_rfl) (by kernel_rfl) (by kernel_rfl) (by kernel_rfl) (fun w hSw => ?_) hS ?_ ?_
      rotate_left 2
      · (try dsimp only at hSw); (try (have hSa := hSw.1; have hSb := hSw.2)); (try (have hSc := hSb.1; have hSd := hSb.2)); go_simp; with_reducible rfl
      · go_simp; with_reducible rfl
      have f4 : Fr [] wr (w3.alloc (.cells #[str (zeros 128), .string ⟨#[]⟩, .bool false] 156)) := (((Fr.refl [] wr).drew).trans f3).alloc _
      have hg4 := heap_alloc_new w3 (.cells #[str (zeros 128), .string ⟨#[]⟩, .bool false] 156)
      refine keepReady (rs := [7]) (by kernel_rfl) (by simp) ?_
      refine AllK.cons rfl (fun K hK => ?_) AllK.nil
      go_simp
      have hS : (w3.alloc (.cells #[str (zeros 128), .string ⟨#[]⟩, .bool false] 156)).cell? ⟨w.heap.size, 0, none⟩ = some v := cell_fr ((Fr.refl [] w3).alloc _) hS (by simp)
      try dsimp only
      refine hK _ _ (fun _ => hS) ?_
      clear hK K
      try simp only [Act.put, List.setIfInBounds_toArray, List.set_cons_zero, List.set_cons_succ]
      have hb4 := f4.heap hb (by simp)
      have R4 := ownsRow_fr' R f4 (by simp)
      generalize w3.alloc (.cells #[str (zeros 128), .string ⟨#[]⟩, .bool false] 156) = w4 at f4 hg4 hS hb4 R4 ⊢
      refine keepReady (rs := [8]) (by kernel_rfl) (by simp) ?_
      refine AllK.cons rfl (fun K hK => ?_) AllK.nil
      refine step_append_n rfl _ _ 151 rfl (w.heap.size + 1) 156 _ 3 40 Tryz.underlying151 rpageInfo rfl (by decide) (by decide) v k (rrows (List.replicate k ⟨zeros 128, none⟩)) rfl R4 w3.heap.size 1 1 [str (zeros 128), .string ⟨#[]⟩, .bool false] rfl rfl _ _ _ hg4 (by intro j u hj; simpa using hj) (by simp [Value.oneCell']) (by omega) (by have := lt_of_heap hb4; omega) ?_
      intro v5 w5 hown5 hgr5 hat5
      have hne5 : ∀ j, v.ownBlock = some j → w.heap.size + 1 ≤ j := fun j e => (R4.lt j e).1
      have hb5 : w5.heap[w.heap.size]? = some (.cells #[v, .bool false, .int .i64 (-1)] 153 (0, 0)) := by
        rw [hgr5.block _ (lt_of_heap hb4) (fun e => by have := hne5 _ e.symm; omega)]
        exact hb4
      have hS5 : w5.cell? ⟨w.heap.size, 0, none⟩ = some v := blk_cell hb5 0 rfl
      have hz5 : w5.frozen? ⟨w.heap.size, 0, none⟩ = false := blk_free hb5 0
      have f5 : Fr [] w w5 := (fr.trans f4).grown hgr5 (fun j e => .inr (by have := hne5 j e; omega))
      clear hS
      have hS := hS5
      try dsimp only
      refine hK _ _ (fun _ => hS) ?_
      clear hK K
      try simp only [Act.put, List.setIfInBounds_toArray, List.set_cons_zero, List.set_cons_succ]
      obtain ⟨vp5, vc5, rfl⟩ := ownsRow_len hown5
      refine keepTake (i := 9) (v := ?_) (a' := ?_) rfl (by kernel_rfl) (by kernel_rfl) (by kernel_rfl) (by kernel_rfl) (by kernel_rfl) (by kernel_rfl) (fun w hSw => ?_) hS ?_ ?_
      rotate_left 2
      · (try dsimp only at hSw); (try (have hSa := hSw.1; have hSb := hSw.2)); (try (have hSc := hSb.1; have hSd := hSb.2)); go_simp; with_reducible rfl
      · go_simp; with_reducible rfl
      refine keepTake (i := 10) (v := ?_) (a' := ?_) rfl (by kernel_rfl) (by kernel_rfl) (by kernel_rfl) (by kernel_rfl) (by kernel_rfl) (by kernel_rfl) (fun w hSw => ?_) hS ?_ ?_
      rotate_left 2
      · (try dsimp only at hSw); (try (have hSa := hSw.1; have hSb := hSw.2)); (try (have hSc := hSb.1; have hSd := hSb.2)); go_simp; with_reducible rfl
      · go_simp; with_reducible rfl
      refine keepReady (rs := [11]) (by kernel_rfl) (by simp) ?_
      refine AllK.cons rfl (fun K hK => ?_) AllK.nil
      go_simp
      try dsimp only
      refine hK _ _ (fun h => absurd rfl h) ?_
      clear hK K
      try simp only [Act.put, List.setIfInBounds_toArray, List.set_cons_zero, List.set_cons_succ]
      refine keepDone (by kernel_rfl) ?_ _
      go_wp2_with fail
      go_roundg (gk - 1)
      case measure => have := hkq.out; omega
      case rel =>
        refine ⟨k + 1, .slice vp5 (k + 1) vc5, by go_num, by omega, by have := hkq.out; unfold Hid; omega, ?_, ?_, ?_⟩
        · have := heap_setCell_same' w5 w.heap.size 0 _ _ (.slice vp5 (k + 1) vc5) hb5
          exact this
        · rw [HS.out]
          exact ownsRow_fr' hown5 ((Fr.refl [w.heap.size] _).setCell (.inl (by simp)) _) (fun j e => by have := (hown5.lt j e).1; simp; omega)
        · exact f5.then ((Fr.refl [w.heap.size] _).setCell (.inl (by simp)) _) (by simp)
    · obtain rfl : k = m := by omega
      have hlt' : decide ((k : Int) < (k : Int)) = false := by simp
      have k1 : 1 ≤ k := by omega
      go_wp2_with fail
      go_ret2
      rcases R.2 with ⟨_, h0⟩ | ⟨g, cap, cur, hv, hbg, hg, hc, hcm, hs, ht⟩
      · omega
      · refine ⟨⟨w.heap.size, g, cap⟩, by rfl, ⟨⟨by simpa [Disk.new] using m4, ?_, ?_, by simp [Disk.new], by simp [Disk.new]⟩, ?_, ⟨cur, hg, ?_⟩, ?_⟩, fr, ?_⟩
        · intro p hp
          rw [List.eq_of_mem_replicate hp]
          simp [zeros]
        · intro p hp b hb'
          rw [List.eq_of_mem_replicate hp] at hb'
          cases hb'
        · rw [hv] at hb
          simpa [Disk.new] using hb
        · intro j u hj
          have hj' : (rrows (List.replicate k ⟨zeros 128, none⟩))[j]? = some u := hj
          rw [← ht, List.getElem?_take] at hj'
          split at hj'
          · simpa using hj'
          · cases hj'
        · show w.heap.size ≠ g
          omega
        · intro j hj
          simp only [RL.all, List.mem_cons, List.not_mem_nil, or_false] at hj
          omega
end
end Go.Proofs.YtpoagpaglocpeaaGreat
