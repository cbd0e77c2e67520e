/- The writes of a step of a script. -/
import Derived.Test.YtpoagpaglocpeaaLawA
import Derived.Test.YtpoagpaglocpeaaRef6
namespace Go.Proofs.Ytpoagpaglocpeaa
set_option linter.unusedSimpArgs false
set_option linter.unusedVariables false
set_option linter.unnecessarySimpa false
open Go.RowKit M

def bbyte (b : UInt8) (i k : Nat) : UInt8 := b + UInt8.ofNat (i * k)
def bdata (b : UInt8) (i : Nat) : Bytes := (List.range 116).map (bbyte b i)
/-- The writes of a step. -/
def batch (pages : List Int) (b : UInt8) : List PW := ((List.range (min pages.length 20)).map fun i => (pages.getD i 0, bdata b i))

theorem batch_length (pages : List Int) (b : UInt8) : (batch pages b).length = min pages.length 20 := by simp [batch]
theorem batch_data {pages : List Int} {b : UInt8} : ∀ x ∈ batch pages b, x.2.length = 116 := by
  intro x hx
  unfold batch at hx
  obtain ⟨i, _, rfl⟩ := List.mem_map.1 hx
  simp [bdata]
theorem batch_page {pages : List Int} {b : UInt8} : ∀ x ∈ batch pages b, x.1 ∈ pages := by
  intro x hx
  unfold batch at hx
  obtain ⟨i, hi, rfl⟩ := List.mem_map.1 hx
  rw [List.mem_range] at hi
  simp only [List.getD]
  rw [List.getElem?_eq_getElem (show i < pages.length by omega)]
  exact List.getElem_mem _
theorem pwInfo' : (Try.prog.info? 58).map (fun i => (i.zero, i.size, i.bytes)) = some (some (.agg #[.int .i64 0, .string ⟨#[]⟩]), 2, 24) := by kernel_rfl

theorem bbyte_val (b : UInt8) (i k : Nat) : ((b.toNat : Int) + wrap64 ((i : Int) * (k : Int))) % 256 = ((bbyte b i k).toNat : Int) := by
  unfold bbyte
  rw [UInt8.toNat_add, UInt8.toNat_ofNat', ← Int.natCast_mul]
  generalize i * k = m
  unfold wrap64
  omega

theorem wpL_append_n {P : Program} {ops : Array Oper} {Q : Exit → Act → World → Prop} {a : Act} {w : World} {rest : List Oper} {o : Oper} (hgd : o.guard = none) (s x : Operand) (T : TypeId) (ho : o.op = .call { callee := .builtin .append, args := #[s, x], argTypes := #[T, T] })
    (base : Nat) (E : TypeId) (z : Value) (size bytes : Nat) (hT : P.underlying T = some (.slice E)) (info : (P.info? E).map (fun i => (i.zero, i.size, i.bytes)) = some (some z, size, bytes)) (hzs : z.cells.size = size) (hsz : 0 < size) (hby : bytes ≤ 4096)
    (v : Value) (n : Nat) (xs : List Value) (hs : a.eval s = v) (hown : w.ownsRow base E size v n xs)
    (g m c : Nat) (news : List Value) (hx : a.eval x = .slice (some ⟨g, 0, none⟩) m c) (hl : news.length = m * size) (t : TypeId) (cs : Array Value) (fz : Nat × Nat) (hg : w.heap[g]? = some (.cells cs t fz)) (hn : ∀ (j : Nat) u, news[j]? = some u → cs[j]? = some u) (h1 : ∀ u ∈ news, u.oneCell' = true)
    (hb : n + m ≤ 1000000000) (hbase : base ≤ w.heap.size)
    (h : ∀ v' w', w'.ownsRow base E size v' (n + m) (xs ++ news) → w.grownBy w' v.ownBlock → (v'.ownBlock = v.ownBlock ∨ v'.ownBlock = some w.heap.size) → wpList P ops Q rest (a.put o.dst v') w') :
    wpList P ops Q (o :: rest) a w := by
  cases hq : P.info? E with
  | none => simp [hq] at info
  | some i =>
    obtain ⟨hz, hsi, hbi⟩ : i.zero = some z ∧ i.size = size ∧ i.bytes = bytes := by simpa [hq] using info
    have hbytes : (n + m) * bytes ≤ 140737488355328 := by
      calc (n + m) * bytes ≤ 1000000000 * 4096 := Nat.mul_le_mul hb hby
        _ ≤ 140737488355328 := by omega
    refine wpList_append_own_at w hgd s x T ho base E i z size bytes hT hq hz hsi hbi hzs hsz v n xs hs hown ⟨g, 0, none⟩ m c news hx hl ?_ h1 (by unfold maxLen; omega) hbytes hbase ?_
    · intro j u hj
      rw [addr_add, cell_of_row w g _ cs t fz hg, Nat.zero_add]
      exact hn j u hj
    · intro v' w' h2 h3 _ h5
      exact h v' w' h2 h3 h5

section
variable {w : World}
set_option maxRecDepth 100000 in
theorem rBatch_calls {B : Nat → Prop} {pv kv : Value} {pages : List Int} (b : UInt8) (kd nn : Int) (hp : IntsAt B w pv pages) :
    Calls Try.prog 7 #[.agg #[.int .i64 kd, pv, .int .u8 b.toNat, .int .i64 nn, kv]] w fun e w' => ∃ v, e = .returned v ∧ w'.ownsRow w.heap.size 58 2 v (batch pages b).length (pwv (batch pages b)) ∧ Fr [] w w' := by
  obtain ⟨A, pc, rfl, hpc⟩ := id hp
  have HL := Lib.hid (batch_length pages b)
  go_enter Try.func7, Try.ntmps7
  go_wp2_with (first | (with_reducible refine wpL_stop (o := ⟨_, .alloc 81, _, _, _, none⟩) ?_) | (with_reducible refine wpL_stop (o := ⟨_, .load 81 _, _, _, _, none⟩) ?_) | (with_reducible refine wpL_stop (o := ⟨_, .store 81 _ _, _, _, _, none⟩) ?_) | (with_reducible refine wpL_stop (o := ⟨_, .lookup _ _ _ _, _, _, _, none⟩) ?_) | (with_reducible refine wpL_stop (o := ⟨_, .box 81 _, _, _, _, none⟩) ?_) | (with_reducible refine wpL_stop (o := ⟨_, .next _ _, _, _, _, none⟩) ?_) | (with_reducible refine wpL_stop (o := ⟨_, .range _ _, _, _, _, none⟩) ?_) | (with_reducible refine wpL_stop (o := ⟨_, .mapUpdate _ _ _ _, _, _, _, none⟩) ?_) | (with_reducible refine wpL_stop (o := ⟨_, .convert 75 9 _, _, _, _, none⟩) ?_) | (with_reducible refine wpL_stop (o := ⟨_, .convert 9 75 _, _, _, _, none⟩) ?_) | (with_reducible refine wpL_stop (o := ⟨_, .call { callee := .builtin .copy, args := _, argTypes := _ }, _, _, _, none⟩) ?_) | (with_reducible refine wpL_stop (o := ⟨_, .call { callee := .builtin .append, args := _, argTypes := _ }, _, _, _, none⟩) ?_) | (with_reducible refine wpL_stop (o := ⟨_, .call { callee := .builtin .clear, args := _, argTypes := _ }, _, _, _, none⟩) ?_) | (with_reducible refine wpL_stop (o := ⟨_, .makeSlice _ _ _, _, _, _, none⟩) ?_) | (with_reducible refine wpL_stop (o := ⟨_, .makeMap _ _, _, _, _, none⟩) ?_) | (with_reducible refine wpL_stop (o := ⟨_, .entry _, _, _, _, none⟩) ?_) | (with_reducible refine wpL_stop (o := ⟨_, .call { callee := .builtin .max, args := _, argTypes := _ }, _, _, _, none⟩) ?_) | (with_reducible refine wpL_stop (o := ⟨_, .call { callee := .builtin .min, args := _, argTypes := _ }, _, _, _, none⟩) ?_) | (with_reducible refine wpL_stop (o := ⟨_, .slice 81 _ none (some _) none, _, _, _, none⟩) ?_) | (with_reducible refine wpL_stop (o := ⟨_, .binOp .add 9 _ _ _, _, _, _, none⟩) ?_) | (with_reducible refine wpL_stop (o := ⟨_, .slice 9 _ _ _ _, _, _, _, none⟩) ?_))
  have G0 := heap_alloc_new w (.cells #[.int .i64 kd, .slice A pages.length pc, .int .u8 b.toNat, .int .i64 nn, kv] 38)
  have F0 := (Fr.refl [] w).alloc (.cells #[.int .i64 kd, .slice A pages.length pc, .int .u8 b.toNat, .int .i64 nn, kv] 38)
  have hp0 := hp.fr F0 (by simp)
  have hs0 : w.heap.size < (w.alloc (.cells #[.int .i64 kd, .slice A pages.length pc, .int .u8 b.toNat, .int .i64 nn, kv] 38)).heap.size := lt_of_heap G0
  clear hpc
  generalize w.alloc (.cells #[.int .i64 kd, .slice A pages.length pc, .int .u8 b.toNat, .int .i64 nn, kv] 38) = w1 at G0 F0 hp0 hs0 ⊢
  go_loopg [3, 4] (min pages.length 20) (fun kq v i w' => ∃ n : Nat, i = .int .i64 n ∧ Hid (n ≤ min pages.length 20) ∧ Hid (kq + n = min pages.length 20) ∧ w'.ownsRow w1.heap.size 58 2 v n (pwv ((batch pages b).take n)) ∧ Fr [] w1 w')
  case atStart => exact ⟨0, rfl, by simp [Hid], by simp [Hid], World.ownsRow_nil _ _ _ _, Fr.refl _ _⟩
  case round =>
    rename World => wo
    obtain ⟨n, rfl, hn, hk, R, fr⟩ := hrel
    have Gr := fr.heap G0 (by simp)
    have hpr := hp0.fr fr (by simp)
    have c1 : wo.cell? ⟨w.heap.size, 1, none⟩ = some (.slice A pages.length pc) := blk_cell Gr 1 rfl
    by_cases hA : n < pages.length
    · have hA' : (n : Int) < (pages.length : Int) := by omega
      by_cases h20 : n < 20
      · have h20' : (n : Int) < 20 := by omega
        have HN : Hid ((batch pages b).take (n + 1) = (batch pages b).take n ++ [(pages[n], bdata b n)]) := by
          refine take_snoc ?_
          unfold batch
          rw [List.getElem?_map, List.getElem?_range (by omega)]
          simp [List.getD, hA]
        obtain ⟨A', pc', hA1, hcc⟩ := id hpr
        obtain ⟨A2, pc2, hA3, hcc2⟩ := id hp
        obtain ⟨ad, hA2, _, hcell⟩ := hcc n hA
        obtain ⟨ad2, hA4, _, hcell2⟩ := hcc2 n hA
        simp only [Value.slice.injEq, true_and] at hA1 hA3
        obtain ⟨rfl, rfl⟩ := hA1
        obtain ⟨rfl, rfl⟩ := hA3
        subst hA2
        obtain rfl : ad = ad2 := by simpa using hA4
        have hadB : ad.block < w.heap.size := by have := World.block_lt_of_cell? _ _ hcell2; rwa [add_block] at this
        clear hcell2 hcc2
        clear hcc
        generalize pages[n] = x at HN hcell
        generalize (batch pages b).take n = bt at R HN
        go_wp2_with (first | (with_reducible refine wpL_stop (o := ⟨_, .alloc 81, _, _, _, none⟩) ?_) | (with_reducible refine wpL_stop (o := ⟨_, .load 81 _, _, _, _, none⟩) ?_) | (with_reducible refine wpL_stop (o := ⟨_, .store 81 _ _, _, _, _, none⟩) ?_) | (with_reducible refine wpL_stop (o := ⟨_, .lookup _ _ _ _, _, _, _, none⟩) ?_) | (with_reducible refine wpL_stop (o := ⟨_, .box 81 _, _, _, _, none⟩) ?_) | (with_reducible refine wpL_stop (o := ⟨_, .next _ _, _, _, _, none⟩) ?_) | (with_reducible refine wpL_stop (o := ⟨_, .range _ _, _, _, _, none⟩) ?_) | (with_reducible refine wpL_stop (o := ⟨_, .mapUpdate _ _ _ _, _, _, _, none⟩) ?_) | (with_reducible refine wpL_stop (o := ⟨_, .convert 75 9 _, _, _, _, none⟩) ?_) | (with_reducible refine wpL_stop (o := ⟨_, .convert 9 75 _, _, _, _, none⟩) ?_) | (with_reducible refine wpL_stop (o := ⟨_, .call { callee := .builtin .copy, args := _, argTypes := _ }, _, _, _, none⟩) ?_) | (with_reducible refine wpL_stop (o := ⟨_, .call { callee := .builtin .append, args := _, argTypes := _ }, _, _, _, none⟩) ?_) | (with_reducible refine wpL_stop (o := ⟨_, .call { callee := .builtin .clear, args := _, argTypes := _ }, _, _, _, none⟩) ?_) | (with_reducible refine wpL_stop (o := ⟨_, .makeSlice _ _ _, _, _, _, none⟩) ?_) | (with_reducible refine wpL_stop (o := ⟨_, .makeMap _ _, _, _, _, none⟩) ?_) | (with_reducible refine wpL_stop (o := ⟨_, .entry _, _, _, _, none⟩) ?_) | (with_reducible refine wpL_stop (o := ⟨_, .call { callee := .builtin .max, args := _, argTypes := _ }, _, _, _, none⟩) ?_) | (with_reducible refine wpL_stop (o := ⟨_, .call { callee := .builtin .min, args := _, argTypes := _ }, _, _, _, none⟩) ?_) | (with_reducible refine wpL_stop (o := ⟨_, .slice 81 _ none (some _) none, _, _, _, none⟩) ?_) | (with_reducible refine wpL_stop (o := ⟨_, .binOp .add 9 _ _ _, _, _, _, none⟩) ?_) | (with_reducible refine wpL_stop (o := ⟨_, .slice 9 _ _ _ _, _, _, _, none⟩) ?_))
        refine unhold (wpL_makeBytes rfl _ _ rfl 116 (by omega) rfl rfl ?_)
        intro w2 g2 f2 s2
        go_wp2_with (first | (with_reducible refine wpL_stop (o := ⟨_, .alloc 81, _, _, _, none⟩) ?_) | (with_reducible refine wpL_stop (o := ⟨_, .load 81 _, _, _, _, none⟩) ?_) | (with_reducible refine wpL_stop (o := ⟨_, .store 81 _ _, _, _, _, none⟩) ?_) | (with_reducible refine wpL_stop (o := ⟨_, .lookup _ _ _ _, _, _, _, none⟩) ?_) | (with_reducible refine wpL_stop (o := ⟨_, .box 81 _, _, _, _, none⟩) ?_) | (with_reducible refine wpL_stop (o := ⟨_, .next _ _, _, _, _, none⟩) ?_) | (with_reducible refine wpL_stop (o := ⟨_, .range _ _, _, _, _, none⟩) ?_) | (with_reducible refine wpL_stop (o := ⟨_, .mapUpdate _ _ _ _, _, _, _, none⟩) ?_) | (with_reducible refine wpL_stop (o := ⟨_, .convert 75 9 _, _, _, _, none⟩) ?_) | (with_reducible refine wpL_stop (o := ⟨_, .convert 9 75 _, _, _, _, none⟩) ?_) | (with_reducible refine wpL_stop (o := ⟨_, .call { callee := .builtin .copy, args := _, argTypes := _ }, _, _, _, none⟩) ?_) | (with_reducible refine wpL_stop (o := ⟨_, .call { callee := .builtin .append, args := _, argTypes := _ }, _, _, _, none⟩) ?_) | (with_reducible refine wpL_stop (o := ⟨_, .call { callee := .builtin .clear, args := _, argTypes := _ }, _, _, _, none⟩) ?_) | (with_reducible refine wpL_stop (o := ⟨_, .makeSlice _ _ _, _, _, _, none⟩) ?_) | (with_reducible refine wpL_stop (o := ⟨_, .makeMap _ _, _, _, _, none⟩) ?_) | (with_reducible refine wpL_stop (o := ⟨_, .entry _, _, _, _, none⟩) ?_) | (with_reducible refine wpL_stop (o := ⟨_, .call { callee := .builtin .max, args := _, argTypes := _ }, _, _, _, none⟩) ?_) | (with_reducible refine wpL_stop (o := ⟨_, .call { callee := .builtin .min, args := _, argTypes := _ }, _, _, _, none⟩) ?_) | (with_reducible refine wpL_stop (o := ⟨_, .slice 81 _ none (some _) none, _, _, _, none⟩) ?_) | (with_reducible refine wpL_stop (o := ⟨_, .binOp .add 9 _ _ _, _, _, _, none⟩) ?_) | (with_reducible refine wpL_stop (o := ⟨_, .slice 9 _ _ _ _, _, _, _, none⟩) ?_))
        go_loopw [6] (fun i w3 => ∃ j : Nat, i = .int .i64 j ∧ j ≤ 116 ∧ Hid (w3.heap[wo.heap.size]? = some (.cells (cellsOf ((List.range j).map (bbyte b n) ++ zeros (116 - j))).toArray 5 (0, 0))) ∧ Fr [] wo w3) (fun i _ => 116 - (intOf i).toNat)
        case atStart => exact ⟨0, rfl, by omega, by simpa [Hid] using g2, f2⟩
        case round =>
          obtain ⟨j, rfl, hj, hg, f3⟩ := hrel
          have Gr3 := f3.heap Gr (by simp)
          have c2 : wr.cell? ⟨w.heap.size, 2, none⟩ = some (.int .u8 b.toNat) := blk_cell Gr3 2 rfl
          by_cases hlt : j < 116
          · have hlt' : (j : Int) < 116 := by omega
            have hcl : ∃ v, wr.cell? ⟨wo.heap.size, j, none⟩ = some v := by
              rw [cell_of_row wr _ j _ _ _ hg.out]
              have : j < (cellsOf ((List.range j).map (bbyte b n) ++ zeros (116 - j))).length := by simp [cellsOf_length, zeros]; omega
              exact ⟨(cellsOf ((List.range j).map (bbyte b n) ++ zeros (116 - j)))[j], by simp [this]⟩
            obtain ⟨v0, hcl⟩ := hcl
            have hfr := blk_free hg.out j
            have hbv := bbyte_val b n j
            have HV := Lib.hid hbv
            clear hbv
            go_wp2_with fail
            rw [HV.out]
            have hpre := pre_set ((List.range j).map (bbyte b n)) (bbyte b n j) 116 (by simp; omega)
            rw [List.length_map, List.length_range] at hpre
            refine ⟨⟨j + 1, by go_num, by omega, ?_, f3.setCell (.inr (Nat.le_refl _)) _⟩, by simp [intOf]; omega⟩
            have := heap_setCell_same' wr wo.heap.size j _ _ (.int .u8 (bbyte b n j).toNat) hg.out
            unfold Hid
            rw [this, hpre, List.range_succ, List.map_append]
            rfl
          · obtain rfl : j = 116 := by omega
            have hg := hg.out
            rw [show (cellsOf ((List.range 116).map (bbyte b n) ++ zeros (116 - 116))).toArray = (cellsOf (bdata b n)).toArray by simp [bdata, zeros]] at hg
            have hbl : (bdata b n).length = 116 := by simp [bdata]
            generalize bdata b n = bs at hg hbl HN
            have hbl := Lib.hid hbl
            have c1 : wr.cell? ⟨w.heap.size, 1, none⟩ = some (.slice (some ad) pages.length pc) := blk_cell Gr3 1 rfl
            have hcell3 : wr.cell? (ad.add n) = some (.int .i64 x) := by
              rw [World.cell?_of_block (f3.block _ (World.block_lt_of_cell? _ _ hcell) (by simp))]
              exact hcell
            have R3 := ownsRow_fr' R f3 (by simp)
            have fr3 := fr.trans f3
            go_wp2_with fail
            refine wp_region_keep (fun w' => w'.cell? ⟨w.heap.size, 1, none⟩ = some (.slice (some ad) pages.length pc) ∧ w'.cell? (ad.add n) = some (.int .i64 x) ∧ w'.heap[wo.heap.size]? = some (.cells (cellsOf bs).toArray 5 (0, 0))) 11 (by kernel_rfl) ?_
            have hS : wr.drew.cell? ⟨w.heap.size, 1, none⟩ = some (.slice (some ad) pages.length pc) ∧ wr.drew.cell? (ad.add n) = some (.int .i64 x) ∧ wr.drew.heap[wo.heap.size]? = some (.cells (cellsOf bs).toArray 5 (0, 0)) := ⟨c1, hcell3, hg⟩
            refine keepTake (i := 0) (v := ?_) (a' := ?_) rfl (by kernel_rfl) (by kernel_rfl) (by kernel_rfl) (by kernel_rfl) (by kernel_rfl) (by kernel_rfl) (fun w hSw => ?_) hS ?_ ?_
            rotate_left 2
            · (try dsimp only at hSw); (try (have hSa := hSw.1; have hSb := hSw.2)); (try (have hSc := hSb.1; have hSd := hSb.2)); go_simp; with_reducible rfl
            · go_simp; with_reducible rfl
            refine keepTake (i := 1) (v := ?_) (a' := ?_) rfl (by kernel_rfl) (by kernel_rfl) (by kernel_rfl) (by kernel_rfl) (by kernel_rfl) (by kernel_rfl) (fun w hSw => ?_) hS ?_ ?_
            rotate_left 2
            · (try dsimp only at hSw); (try (have hSa := hSw.1; have hSb := hSw.2)); (try (have hSc := hSb.1; have hSd := hSb.2)); go_simp; with_reducible rfl
            · go_simp; with_reducible rfl
            refine keepTake (i := 2) (v := ?_) (a' := ?_) rfl (by kernel_rfl) (by kernel_rfl) (by kernel_rfl) (by kernel_rfl) (by kernel_rfl) (by kernel_rfl) (fun w hSw => ?_) hS ?_ ?_
            rotate_left 2
            · (try dsimp only at hSw); (try (have hSa := hSw.1; have hSb := hSw.2)); (try (have hSc := hSb.1; have hSd := hSb.2)); go_simp; with_reducible rfl
            · go_simp; with_reducible rfl
            refine keepTake (i := 3) (v := ?_) (a' := ?_) rfl (by kernel_rfl) (by kernel_rfl) (by kernel_rfl) (by kernel_rfl) (by kernel_rfl) (by kernel_rfl) (fun w hSw => ?_) hS ?_ ?_
            rotate_left 2
            · (try dsimp only at hSw); (try (have hSa := hSw.1; have hSb := hSw.2)); (try (have hSc := hSb.1; have hSd := hSb.2)); go_simp; with_reducible rfl
            · go_simp; with_reducible rfl
            refine keepTake (i := 4) (v := ?_) (a' := ?_) rfl (by kernel_rfl) (by kernel_rfl) (by kernel_rfl) (by kernel_rfl) (by kernel_rfl) (by kernel_rfl) (fun w hSw => ?_) hS ?_ ?_
            rotate_left 2
            · (try dsimp only at hSw); (try (have hSa := hSw.1; have hSb := hSw.2)); (try (have hSc := hSb.1; have hSd := hSb.2)); go_simp; with_reducible rfl
            · go_simp; with_reducible rfl
            refine keepTake (i := 5) (v := ?_) (a' := ?_) rfl (by kernel_rfl) (by kernel_rfl) (by kernel_rfl) (by kernel_rfl) (by kernel_rfl) (by kernel_rfl) (fun w hSw => ?_) hS ?_ ?_
            rotate_left 2
            · (try dsimp only at hSw); (try (have hSa := hSw.1; have hSb := hSw.2)); (try (have hSc := hSb.1; have hSd := hSb.2)); go_simp; with_reducible rfl
            · go_simp; with_reducible rfl
            refine keepTake (i := 6) (v := ?_) (a' := ?_) rfl (by kernel_rfl) (by kernel_rfl) (by kernel_rfl) (by kernel_rfl) (by kernel_rfl) (by kernel_rfl) (fun w hSw => ?_) hS ?_ ?_
            rotate_left 2
            · (try dsimp only at hSw); (try (have hSa := hSw.1; have hSb := hSw.2)); (try (have hSc := hSb.1; have hSd := hSb.2)); go_simp; with_reducible rfl
            · go_simp; with_reducible rfl
            refine keepTake (i := 7) (v := str bs) (a' := ?_) rfl (by kernel_rfl) (by kernel_rfl) (by kernel_rfl) (by kernel_rfl) (by kernel_rfl) (by kernel_rfl) (fun w' hSw => ?_) hS ?_ ?_
            rotate_left 1
            · exact run_text _ _ _ rfl 5 Try.underlying75 Try.underlying5 Try.underlying9 wo.heap.size 0 116 116 rfl _ _ _ bs hSw.2.2 hbl.out (by intro j hj; rw [Nat.zero_add]; simp)
            · go_simp; with_reducible rfl
            refine keepTake (i := 8) (v := ?_) (a' := ?_) rfl (by kernel_rfl) (by kernel_rfl) (by kernel_rfl) (by kernel_rfl) (by kernel_rfl) (by kernel_rfl) (fun w hSw => ?_) hS ?_ ?_
            rotate_left 2
            · (try dsimp only at hSw); (try (have hSa := hSw.1; have hSb := hSw.2)); (try (have hSc := hSb.1; have hSd := hSb.2)); go_simp; with_reducible rfl
            · go_simp; with_reducible rfl
            refine keepReady (rs := [9]) (by kernel_rfl) (by simp) ?_
            refine AllK.cons rfl (fun K hK => ?_) AllK.nil
            go_simp
            have f4 : Fr [] wr (wr.alloc (.cells #[.int .i64 x, str bs] 58)).drew := ((Fr.refl [] wr).alloc _).drew
            have hg4 := heap_alloc_new wr (.cells #[.int .i64 x, str bs] 58)
            have fd : Fr [] wr wr.drew := (Fr.refl [] wr).drew
            have hS : (wr.alloc (.cells #[.int .i64 x, str bs] 58)).drew.cell? ⟨w.heap.size, 1, none⟩ = some (.slice (some ad) pages.length pc) ∧ (wr.alloc (.cells #[.int .i64 x, str bs] 58)).drew.cell? (ad.add n) = some (.int .i64 x) ∧ (wr.alloc (.cells #[.int .i64 x, str bs] 58)).drew.heap[wo.heap.size]? = some (.cells (cellsOf bs).toArray 5 (0, 0)) :=
              ⟨cell_fr f4 c1 (by simp), by rw [World.cell?_of_block (f4.block _ (World.block_lt_of_cell? _ _ hcell3) (by simp))]; exact hcell3, f4.heap hg (by simp)⟩
            try dsimp only
            refine hK _ _ (fun _ => hS) ?_
            clear hK K
            try simp only [Act.put, List.setIfInBounds_toArray, List.set_cons_zero, List.set_cons_succ]
            have R4 := ownsRow_fr' R3 f4 (by simp)
            have hg4 : (wr.alloc (.cells #[.int .i64 x, str bs] 58)).drew.heap[wr.heap.size]? = _ := hg4
            have F4 := fr3.trans f4
            generalize (wr.alloc (.cells #[.int .i64 x, str bs] 58)).drew = w4 at f4 F4 hg4 hS R4 ⊢
            refine keepReady (rs := [10]) (by kernel_rfl) (by simp) ?_
            refine AllK.cons rfl (fun K hK => ?_) AllK.nil
            refine step_append_n rfl _ _ 34 rfl w1.heap.size 58 _ 2 24 Try.underlying34 pwInfo' rfl (by decide) (by decide) u3 n (pwv bt) rfl R4 wr.heap.size 1 1 [.int .i64 x, str bs] rfl rfl _ _ _ hg4 (by intro j u hj; simpa using hj) (by simp [Value.oneCell']) (by omega) F4.size ?_
            intro v5 w5 hown5 hgr5 hat5
            have f5 : Fr [] w1 w5 := F4.grown hgr5 (fun j e => .inr ((R4.lt j e).1))
            have hS : w5.cell? ⟨w.heap.size, 1, none⟩ = some (.slice (some ad) pages.length pc) ∧ w5.cell? (ad.add n) = some (.int .i64 x) ∧ w5.heap[wo.heap.size]? = some (.cells (cellsOf bs).toArray 5 (0, 0)) := by
              have fo : ∀ k o, w4.heap[k]? = some o → (u3.ownBlock ≠ some k) → w5.heap[k]? = some o := fun k o h1 h2 => (hgr5.block k (lt_of_heap h1) (fun e => h2 e.symm)).trans h1
              refine ⟨?_, ?_, ?_⟩
              · rw [World.cell?_of_block (hgr5.block _ (World.block_lt_of_cell? _ _ hS.1) (fun e => by have := (R4.lt _ e.symm).1; simp at this; omega))]
                exact hS.1
              · rw [World.cell?_of_block (hgr5.block _ (World.block_lt_of_cell? _ _ hS.2.1) (fun e => by have := (R4.lt _ e.symm).1; rw [add_block] at this; omega))]
                exact hS.2.1
              · exact fo _ _ hS.2.2 (fun e => by have := (R.lt _ e).2; omega)
            try dsimp only
            refine hK _ _ (fun _ => hS) ?_
            clear hK K
            try simp only [Act.put, List.setIfInBounds_toArray, List.set_cons_zero, List.set_cons_succ]
            refine keepReady (rs := [11]) (by kernel_rfl) (by simp) ?_
            refine AllK.cons rfl (fun K hK => ?_) AllK.nil
            go_simp
            try dsimp only
            refine hK _ _ (fun h => absurd rfl h) ?_
            clear hK K
            try simp only [Act.put, List.setIfInBounds_toArray, List.set_cons_zero, List.set_cons_succ]
            refine keepDone (by kernel_rfl) ?_ _
            go_wp2_with fail
            go_roundg (gk - 1)
            case measure => have := hk.out; omega
            case rel =>
              refine ⟨n + 1, by go_num, by have := hn.out; unfold Hid; omega, by have := hk.out; unfold Hid; omega, ?_, f5⟩
              rw [HN.out]
              have e : pwv (bt ++ [(x, bs)]) = pwv bt ++ [.int .i64 x, str bs] := by simp [pwv]
              rw [e]
              exact hown5
      · have hn20 : n = 20 := by have := hn.out; omega
        subst hn20
        have HE : Hid ((batch pages b).take 20 = batch pages b ∧ (batch pages b).length = 20) := by
          have := HL.out
          exact ⟨List.take_of_length_le (by omega), by omega⟩
        have h20' : decide ((20 : Int) < 20) = false := by simp
        rw [HE.out.1] at R
        go_wp2_with fail
        go_ret
        refine ⟨_, rfl, ?_, F0.trans fr⟩
        rw [HE.out.2]
        exact ownsRow_low R (by omega)
    · have hnl : n = pages.length := by have := hn.out; omega
      subst hnl
      have HE : Hid ((batch pages b).take pages.length = batch pages b ∧ (batch pages b).length = pages.length) := by
        have := HL.out
        have := hn.out
        exact ⟨List.take_of_length_le (by omega), by omega⟩
      have hA' : decide ((pages.length : Int) < (pages.length : Int)) = false := by simp
      rw [HE.out.1] at R
      go_wp2_with fail
      go_ret
      refine ⟨_, rfl, ?_, F0.trans fr⟩
      rw [HE.out.2]
      exact ownsRow_low R (by omega)
end
end Go.Proofs.Ytpoagpaglocpeaa
