/- The specification's log: its first page. -/
import Derived.Test.YtpoagpaglocpeaaGreatZeros
namespace Go.Proofs.YtpoagpaglocpeaaGreat
set_option linter.unusedSimpArgs false
set_option linter.unusedVariables false
set_option linter.unnecessarySimpa false
open Go.RowKit M

theorem le2 (m : Nat) : le 2 m = [UInt8.ofNat m, UInt8.ofNat (m / 256)] := rfl
/-- The first bytes of the record. -/
def hd (k : Nat) (l : List Nat) : Bytes := UInt8.ofNat k :: l.flatMap (le 2)
theorem hd_len (k : Nat) : ∀ l : List Nat, (hd k l).length = 1 + 2 * l.length
  | [] => rfl
  | x :: l => by
    have := hd_len k l
    simp only [hd, List.length_cons, List.flatMap_cons, List.length_append, le2, List.length_nil] at this ⊢
    omega
theorem hd_snoc (k : Nat) (l : List Nat) (x : Nat) : hd k (l ++ [x]) = hd k l ++ le 2 x := by simp [hd]
theorem record_hd (l : List Nat) : record l = hd l.length l ++ zeros (116 - (hd l.length l).length) := rfl

theorem append_zeros_byte {w : World} (base : Nat) (v : Value) (n : Nat) (xs : List Value) (hown : w.ownsRow base 5 1 v n xs) (hn0 : 0 < n) (m : Nat) (hm : 0 < m) (hb : n + m ≤ 1000000) (hbase : base ≤ w.heap.size) :
    ∃ v' w', (Builtin.append_ #[175, 3] 175 #[v, .int .i64 m]).run Tryz.prog w = .ok v' w' ∧ w'.ownsRow base 5 1 v' (n + m) (xs ++ List.replicate m (.int .u8 0)) ∧ w.grownBy w' v.ownBlock := by
  cases hq : Tryz.prog.info? 5 with
  | none => have := byteInfo; simp [hq] at this
  | some i =>
    obtain ⟨h1, h2, h3⟩ : i.zero = some (.int .u8 0) ∧ i.size = 1 ∧ i.bytes = 1 := by have := byteInfo; simpa [hq] using this
    exact run_append_zeros1 base _ _ _ 5 i (.int .u8 0) 1 Tryz.underlying175 Tryz.underlying3 hq h1 rfl rfl h2 h3 (by omega) v n xs hown hn0 .i64 m hm (by omega) hbase

set_option maxRecDepth 100000 in
theorem rHead_calls {w : World} {v : Value} {l : List PW} (hl : PwAt w v l) (hfew : l.length ≤ 16) (hnn : ∀ x ∈ l, 0 ≤ x.1) : Calls Tryz.prog 158 #[v] w fun e w' => e = .returned (str (record (pgs l))) ∧ Fr [] w w' := by
  obtain ⟨vp, vc, rfl⟩ := ownsRow_len hl
  have h0 : cellsOf (hd l.length (pgs (l.take 0))) = [.int .u8 l.length] := by
    have e : (UInt8.ofNat l.length).toNat = l.length := by rw [UInt8.toNat_ofNat']; omega
    simp [cellsOf, hd, pgs, e]
  have H0 := Lib.hid h0
  clear h0
  go_enter Tryz.func158, Tryz.ntmps158
  go_wp2_with (first | (with_reducible refine wpL_stop (o := ⟨_, .alloc 177, _, _, _, none⟩) ?_) | (with_reducible refine wpL_stop (o := ⟨_, .load 177 _, _, _, _, none⟩) ?_) | (with_reducible refine wpL_stop (o := ⟨_, .store 177 _ _, _, _, _, none⟩) ?_) | (with_reducible refine wpL_stop (o := ⟨_, .lookup _ _ _ _, _, _, _, none⟩) ?_) | (with_reducible refine wpL_stop (o := ⟨_, .box 177 _, _, _, _, none⟩) ?_) | (with_reducible refine wpL_stop (o := ⟨_, .next _ _, _, _, _, none⟩) ?_) | (with_reducible refine wpL_stop (o := ⟨_, .range _ _, _, _, _, none⟩) ?_) | (with_reducible refine wpL_stop (o := ⟨_, .mapUpdate _ _ _ _, _, _, _, none⟩) ?_) | (with_reducible refine wpL_stop (o := ⟨_, .convert 175 9 _, _, _, _, none⟩) ?_) | (with_reducible refine wpL_stop (o := ⟨_, .convert 9 175 _, _, _, _, none⟩) ?_) | (with_reducible refine wpL_stop (o := ⟨_, .call { callee := .builtin .copy, args := _, argTypes := _ }, _, _, _, none⟩) ?_) | (with_reducible refine wpL_stop (o := ⟨_, .call { callee := .builtin .append, args := _, argTypes := _ }, _, _, _, none⟩) ?_) | (with_reducible refine wpL_stop (o := ⟨_, .call { callee := .builtin .clear, args := _, argTypes := _ }, _, _, _, none⟩) ?_) | (with_reducible refine wpL_stop (o := ⟨_, .makeSlice _ _ _, _, _, _, none⟩) ?_) | (with_reducible refine wpL_stop (o := ⟨_, .makeMap _ _, _, _, _, none⟩) ?_) | (with_reducible refine wpL_stop (o := ⟨_, .entry _, _, _, _, none⟩) ?_) | (with_reducible refine wpL_stop (o := ⟨_, .call { callee := .builtin .max, args := _, argTypes := _ }, _, _, _, none⟩) ?_) | (with_reducible refine wpL_stop (o := ⟨_, .call { callee := .builtin .min, args := _, argTypes := _ }, _, _, _, none⟩) ?_) | (with_reducible refine wpL_stop (o := ⟨_, .slice 177 _ none (some _) none, _, _, _, none⟩) ?_) | (with_reducible refine wpL_stop (o := ⟨_, .binOp .add 9 _ _ _, _, _, _, none⟩) ?_) | (with_reducible refine wpL_stop (o := ⟨_, .slice 9 _ _ _ _, _, _, _, none⟩) ?_))
  go_loopg [3, 4] l.length (fun kq v3 i w' => ∃ (n : Nat), i = .int .i64 n ∧ n ≤ l.length ∧ Hid (kq + n = l.length) ∧ w'.ownsRow w.heap.size 5 1 v3 (hd l.length (pgs (l.take n))).length (cellsOf (hd l.length (pgs (l.take n)))) ∧ Fr [] w w')
  case atStart =>
    refine ⟨0, rfl, by omega, by simp [Hid], ?_, (Fr.refl _ _).alloc _⟩
    rw [H0.out]
    exact ⟨rfl, .inr ⟨w.heap.size, 1, #[.int .u8 l.length], rfl, Nat.le_refl _, heap_alloc_new w _, Nat.le_refl _, by decide, rfl, rfl⟩⟩
  case round =>
    obtain ⟨n, rfl, hn, hk, R, fr⟩ := hrel
    by_cases hlt : n < l.length
    · have hlt' : (n : Int) < (l.length : Int) := by omega
      have hlr := hl.fr fr (by simp)
      obtain ⟨x, hx⟩ : ∃ x, l[n]? = some x := ⟨l[n], List.getElem?_eq_getElem hlt⟩
      obtain ⟨g, rfl, hgl, hca, hcb⟩ := hlr.cells hx
      have hg0 := (World.ownsRow.lt hl g rfl).2
      obtain ⟨m, hm⟩ := Int.eq_ofNat_of_zero_le (hnn x (List.mem_of_getElem? hx))
      rw [hm] at hca
      have HD : Hid (hd l.length (pgs (l.take (n + 1))) = hd l.length (pgs (l.take n)) ++ le 2 m) := by
        unfold Hid
        rw [take_snoc hx, pgs, List.map_append, List.map_singleton, hd_snoc, hm]
        rfl
      have hdl : (hd l.length (pgs (l.take n))).length ≤ 33 := by rw [hd_len]; simp [pgs]; omega
      have e0 : IntKind.u8.wrap (m : Int) = ((UInt8.ofNat m).toNat : Int) := by rw [← byte_mod, IntKind.wrap_u8]
      have e1 : IntKind.u8.wrap ((m : Int) / 256) = ((UInt8.ofNat (m / 256)).toNat : Int) := by rw [← byte_mod, IntKind.wrap_u8]; omega
      have H0 := Lib.hid e0
      have H1 := Lib.hid e1
      clear e0 e1 hcb
      generalize hd l.length (pgs (l.take n)) = bs at R HD hdl
      go_wp2_with fail
      refine wp_region_keep (fun w' => w'.cell? ⟨g, n * 2, none⟩ = some (.int .i64 m)) 16 (by kernel_rfl) ?_
      have hS : wr.drew.cell? ⟨g, n * 2, none⟩ = some (.int .i64 m) := hca
      refine keepTake (i := 0) (v := ?_) (a' := ?_) rfl (by kernel_rfl) (by kernel_rfl) (by kernel_rfl) (by kernel_rfl) (by kernel_rfl) (by kernel_rfl) (fun w hSw => ?_) hS ?_ ?_
      rotate_left 2
      · (try dsimp only at hSw); (try (have hSa := hSw.1; have hSb := hSw.2)); (try (have hSc := hSb.1; have hSd := hSb.2)); go_simp; with_reducible rfl
      · go_simp; with_reducible rfl
      refine keepTake (i := 1) (v := ?_) (a' := ?_) rfl (by kernel_rfl) (by kernel_rfl) (by kernel_rfl) (by kernel_rfl) (by kernel_rfl) (by kernel_rfl) (fun w hSw => ?_) hS ?_ ?_
      rotate_left 2
      · (try dsimp only at hSw); (try (have hSa := hSw.1; have hSb := hSw.2)); (try (have hSc := hSb.1; have hSd := hSb.2)); go_simp; with_reducible rfl
      · go_simp; with_reducible rfl
      refine keepTake (i := 2) (v := ?_) (a' := ?_) rfl (by kernel_rfl) (by kernel_rfl) (by kernel_rfl) (by kernel_rfl) (by kernel_rfl) (by kernel_rfl) (fun w hSw => ?_) hS ?_ ?_
      rotate_left 2
      · (try dsimp only at hSw); (try (have hSa := hSw.1; have hSb := hSw.2)); (try (have hSc := hSb.1; have hSd := hSb.2)); go_simp; with_reducible rfl
      · go_simp; with_reducible rfl
      refine keepTake (i := 3) (v := ?_) (a' := ?_) rfl (by kernel_rfl) (by kernel_rfl) (by kernel_rfl) (by kernel_rfl) (by kernel_rfl) (by kernel_rfl) (fun w hSw => ?_) hS ?_ ?_
      rotate_left 2
      · (try dsimp only at hSw); (try (have hSa := hSw.1; have hSb := hSw.2)); (try (have hSc := hSb.1; have hSd := hSb.2)); go_simp; with_reducible rfl
      · go_simp; with_reducible rfl
      refine keepTake (i := 4) (v := ?_) (a' := ?_) rfl (by kernel_rfl) (by kernel_rfl) (by kernel_rfl) (by kernel_rfl) (by kernel_rfl) (by kernel_rfl) (fun w hSw => ?_) hS ?_ ?_
      rotate_left 2
      · (try dsimp only at hSw); (try (have hSa := hSw.1; have hSb := hSw.2)); (try (have hSc := hSb.1; have hSd := hSb.2)); go_simp; with_reducible rfl
      · go_simp; with_reducible rfl
      refine keepTake (i := 5) (v := ?_) (a' := ?_) rfl (by kernel_rfl) (by kernel_rfl) (by kernel_rfl) (by kernel_rfl) (by kernel_rfl) (by kernel_rfl) (fun w hSw => ?_) hS ?_ ?_
      rotate_left 2
      · (try dsimp only at hSw); (try (have hSa := hSw.1; have hSb := hSw.2)); (try (have hSc := hSb.1; have hSd := hSb.2)); go_simp; with_reducible rfl
      · go_simp; with_reducible rfl
      refine keepTake (i := 6) (v := ?_) (a' := ?_) rfl (by kernel_rfl) (by kernel_rfl) (by kernel_rfl) (by kernel_rfl) (by kernel_rfl) (by kernel_rfl) (fun w hSw => ?_) hS ?_ ?_
      rotate_left 2
      · (try dsimp only at hSw); (try (have hSa := hSw.1; have hSb := hSw.2)); (try (have hSc := hSb.1; have hSd := hSb.2)); go_simp; with_reducible rfl
      · go_simp; with_reducible rfl
      refine keepTake (i := 7) (v := ?_) (a' := ?_) rfl (by kernel_rfl) (by kernel_rfl) (by kernel_rfl) (by kernel_rfl) (by kernel_rfl) (by kernel_rfl) (fun w hSw => ?_) hS ?_ ?_
      rotate_left 2
      · (try dsimp only at hSw); (try (have hSa := hSw.1; have hSb := hSw.2)); (try (have hSc := hSb.1; have hSd := hSb.2)); go_simp; with_reducible rfl
      · go_simp; with_reducible rfl
      refine keepTake (i := 8) (v := ?_) (a' := ?_) rfl (by kernel_rfl) (by kernel_rfl) (by kernel_rfl) (by kernel_rfl) (by kernel_rfl) (by kernel_rfl) (fun w hSw => ?_) hS ?_ ?_
      rotate_left 2
      · (try dsimp only at hSw); (try (have hSa := hSw.1; have hSb := hSw.2)); (try (have hSc := hSb.1; have hSd := hSb.2)); go_simp; with_reducible rfl
      · go_simp; with_reducible rfl
      refine keepTake (i := 9) (v := ?_) (a' := ?_) rfl (by kernel_rfl) (by kernel_rfl) (by kernel_rfl) (by kernel_rfl) (by kernel_rfl) (by kernel_rfl) (fun w hSw => ?_) hS ?_ ?_
      rotate_left 2
      · (try dsimp only at hSw); (try (have hSa := hSw.1; have hSb := hSw.2)); (try (have hSc := hSb.1; have hSd := hSb.2)); go_simp; with_reducible rfl
      · go_simp; with_reducible rfl
      refine keepTake (i := 10) (v := ?_) (a' := ?_) rfl (by kernel_rfl) (by kernel_rfl) (by kernel_rfl) (by kernel_rfl) (by kernel_rfl) (by kernel_rfl) (fun w hSw => ?_) hS ?_ ?_
      rotate_left 2
      · (try dsimp only at hSw); (try (have hSa := hSw.1; have hSb := hSw.2)); (try (have hSc := hSb.1; have hSd := hSb.2)); go_simp; with_reducible rfl
      · go_simp; with_reducible rfl
      refine keepTake (i := 11) (v := ?_) (a' := ?_) rfl (by kernel_rfl) (by kernel_rfl) (by kernel_rfl) (by kernel_rfl) (by kernel_rfl) (by kernel_rfl) (fun w hSw => ?_) hS ?_ ?_
      rotate_left 2
      · (try dsimp only at hSw); (try (have hSa := hSw.1; have hSb := hSw.2)); (try (have hSc := hSb.1; have hSd := hSb.2)); go_simp; with_reducible rfl
      · go_simp; with_reducible rfl
      refine keepTake (i := 12) (v := ?_) (a' := ?_) rfl (by kernel_rfl) (by kernel_rfl) (by kernel_rfl) (by kernel_rfl) (by kernel_rfl) (by kernel_rfl) (fun w hSw => ?_) hS ?_ ?_
      rotate_left 2
      · (try dsimp only at hSw); (try (have hSa := hSw.1; have hSb := hSw.2)); (try (have hSc := hSb.1; have hSd := hSb.2)); go_simp; with_reducible rfl
      · go_simp; with_reducible rfl
      refine keepTake (i := 13) (v := ?_) (a' := ?_) rfl (by kernel_rfl) (by kernel_rfl) (by kernel_rfl) (by kernel_rfl) (by kernel_rfl) (by kernel_rfl) (fun w hSw => ?_) hS ?_ ?_
      rotate_left 2
      · (try dsimp only at hSw); (try (have hSa := hSw.1; have hSb := hSw.2)); (try (have hSc := hSb.1; have hSd := hSb.2)); go_simp; with_reducible rfl
      · go_simp; with_reducible rfl
      refine keepReady (rs := [14]) (by kernel_rfl) (by simp) ?_
      refine AllK.cons rfl (fun K hK => ?_) AllK.nil
      go_simp
      rw [H0.out, H1.out]
      have f4 : Fr [] wr (wr.alloc (.cells #[.int .u8 (UInt8.ofNat m).toNat, .int .u8 (UInt8.ofNat (m / 256)).toNat] 5)).drew := ((Fr.refl [] wr).alloc _).drew
      have hg4 := heap_alloc_new wr (.cells #[.int .u8 (UInt8.ofNat m).toNat, .int .u8 (UInt8.ofNat (m / 256)).toNat] 5)
      have hS := cell_fr f4 hca (by simp)
      try dsimp only
      refine hK _ _ (fun _ => hS) ?_
      clear hK K
      try simp only [Act.put, List.setIfInBounds_toArray, List.set_cons_zero, List.set_cons_succ]
      have R4 := ownsRow_fr' R f4 (by simp)
      have hg4 : (wr.alloc (.cells #[.int .u8 (UInt8.ofNat m).toNat, .int .u8 (UInt8.ofNat (m / 256)).toNat] 5)).drew.heap[wr.heap.size]? = _ := hg4
      generalize (wr.alloc (.cells #[.int .u8 (UInt8.ofNat m).toNat, .int .u8 (UInt8.ofNat (m / 256)).toNat] 5)).drew = w4 at f4 hg4 hS R4 ⊢
      refine keepReady (rs := [15]) (by kernel_rfl) (by simp) ?_
      refine AllK.cons rfl (fun K hK => ?_) AllK.nil
      refine step_append_n rfl _ _ 175 rfl w.heap.size 5 _ 1 1 Tryz.underlying175 byteInfo rfl (by decide) (by decide) u3 bs.length (cellsOf bs) rfl R4 wr.heap.size 2 2 (cellsOf (le 2 m)) rfl rfl _ _ _ hg4 (by intro j u hj; simpa [cellsOf, le2] using hj) (cellsOf_one _) (by omega) (by have := f4.size; have := fr.size; omega) ?_
      intro v5 w5 hown5 hgr5 hat5
      have f5 : Fr [] w w5 := (fr.trans f4).grown hgr5 (fun j e => .inr ((R4.lt j e).1))
      have hS : w5.cell? ⟨g, n * 2, none⟩ = some (.int .i64 m) := by
        rw [World.cell?_of_block (hgr5.block g (World.block_lt_of_cell? _ _ hS) (fun e => by have := (R4.lt g e.symm).1; omega))]
        exact hS
      try dsimp only
      refine hK _ _ (fun _ => hS) ?_
      clear hK K
      try simp only [Act.put, List.setIfInBounds_toArray, List.set_cons_zero, List.set_cons_succ]
      refine keepReady (rs := [16]) (by kernel_rfl) (by simp) ?_
      refine AllK.cons rfl (fun K hK => ?_) AllK.nil
      go_simp
      try dsimp only
      refine hK _ _ (fun h => absurd rfl h) ?_
      clear hK K
      try simp only [Act.put, List.setIfInBounds_toArray, List.set_cons_zero, List.set_cons_succ]
      refine keepDone (by kernel_rfl) ?_ _
      go_wp2_with fail
      go_roundg (gk - 1)
      case measure => have := hk.out; omega
      case rel =>
        refine ⟨n + 1, by go_num, by omega, by have := hk.out; unfold Hid; omega, ?_, f5⟩
        rw [HD.out, cellsOf, List.map_append, List.length_append]
        exact hown5
    · obtain rfl : n = l.length := by omega
      have hlt' : decide ((l.length : Int) < (l.length : Int)) = false := by simp
      rw [List.take_length] at R
      have hRec : Hid (record (pgs l) = hd l.length (pgs l) ++ zeros (116 - (hd l.length (pgs l)).length)) := by
        have e : (pgs l).length = l.length := by simp [pgs]
        unfold Hid
        rw [record_hd, e]
      have hdl : (hd l.length (pgs l)).length ≤ 33 := by rw [hd_len]; simp [pgs]; omega
      have hd1 : 1 ≤ (hd l.length (pgs l)).length := by rw [hd_len]; omega
      generalize hd l.length (pgs l) = bs at R hRec hdl hd1
      obtain ⟨bp, bc, rfl⟩ := ownsRow_len R
      have e1 : IntKind.i64.wrap (116 - (bs.length : Int)) = ((116 - bs.length : Nat) : Int) := by rw [IntKind.wrap_i64]; omega
      have e1' : 116 - (bs.length : Int) = ((116 - bs.length : Nat) : Int) := by omega
      have HE := Lib.hid e1
      clear e1
      go_wp2_with (first | (with_reducible refine wpL_stop (o := ⟨_, .alloc 177, _, _, _, none⟩) ?_) | (with_reducible refine wpL_stop (o := ⟨_, .load 177 _, _, _, _, none⟩) ?_) | (with_reducible refine wpL_stop (o := ⟨_, .store 177 _ _, _, _, _, none⟩) ?_) | (with_reducible refine wpL_stop (o := ⟨_, .lookup _ _ _ _, _, _, _, none⟩) ?_) | (with_reducible refine wpL_stop (o := ⟨_, .box 177 _, _, _, _, none⟩) ?_) | (with_reducible refine wpL_stop (o := ⟨_, .next _ _, _, _, _, none⟩) ?_) | (with_reducible refine wpL_stop (o := ⟨_, .range _ _, _, _, _, none⟩) ?_) | (with_reducible refine wpL_stop (o := ⟨_, .mapUpdate _ _ _ _, _, _, _, none⟩) ?_) | (with_reducible refine wpL_stop (o := ⟨_, .convert 175 9 _, _, _, _, none⟩) ?_) | (with_reducible refine wpL_stop (o := ⟨_, .convert 9 175 _, _, _, _, none⟩) ?_) | (with_reducible refine wpL_stop (o := ⟨_, .call { callee := .builtin .copy, args := _, argTypes := _ }, _, _, _, none⟩) ?_) | (with_reducible refine wpL_stop (o := ⟨_, .call { callee := .builtin .append, args := _, argTypes := _ }, _, _, _, none⟩) ?_) | (with_reducible refine wpL_stop (o := ⟨_, .call { callee := .builtin .clear, args := _, argTypes := _ }, _, _, _, none⟩) ?_) | (with_reducible refine wpL_stop (o := ⟨_, .makeSlice _ _ _, _, _, _, none⟩) ?_) | (with_reducible refine wpL_stop (o := ⟨_, .makeMap _ _, _, _, _, none⟩) ?_) | (with_reducible refine wpL_stop (o := ⟨_, .entry _, _, _, _, none⟩) ?_) | (with_reducible refine wpL_stop (o := ⟨_, .call { callee := .builtin .max, args := _, argTypes := _ }, _, _, _, none⟩) ?_) | (with_reducible refine wpL_stop (o := ⟨_, .call { callee := .builtin .min, args := _, argTypes := _ }, _, _, _, none⟩) ?_) | (with_reducible refine wpL_stop (o := ⟨_, .slice 177 _ none (some _) none, _, _, _, none⟩) ?_) | (with_reducible refine wpL_stop (o := ⟨_, .binOp .add 9 _ _ _, _, _, _, none⟩) ?_) | (with_reducible refine wpL_stop (o := ⟨_, .slice 9 _ _ _ _, _, _, _, none⟩) ?_))
      obtain ⟨v5, w5, hrun, hown5, hgr5⟩ := append_zeros_byte w.heap.size _ _ _ R hd1 (116 - bs.length) (by omega) (by omega) fr.size
      have f5 : Fr [] w w5 := fr.grown hgr5 (fun j e => .inr ((R.lt j e).1))
      refine unhold (wpL_val rfl (v := v5) (w' := w5) (by
        simp only [execOp, resolve, invoke, builtin, Sem.run_bind, Sem.run_pure, Result.andThen_ok, List.map_toArray, List.map_cons, List.map_nil]
        erw [hrun]
        rfl) ?_)
      have hz : (cellsOf bs ++ List.replicate (116 - bs.length) (.int .u8 0)) = cellsOf (bs ++ zeros (116 - bs.length)) := by simp [cellsOf, zeros]
      rw [hz, ← hRec.out, show bs.length + (116 - bs.length) = 116 by omega] at hown5
      have hrl : (record (pgs l)).length = 116 := record_length _ (by simp [pgs]; omega)
      rcases hown5.2 with ⟨_, hz0⟩ | ⟨g5, cap5, cur5, rfl, _, hg5, _, _, _, ht5⟩
      · omega
      go_wp2_with (first | (with_reducible refine wpL_stop (o := ⟨_, .alloc 177, _, _, _, none⟩) ?_) | (with_reducible refine wpL_stop (o := ⟨_, .load 177 _, _, _, _, none⟩) ?_) | (with_reducible refine wpL_stop (o := ⟨_, .store 177 _ _, _, _, _, none⟩) ?_) | (with_reducible refine wpL_stop (o := ⟨_, .lookup _ _ _ _, _, _, _, none⟩) ?_) | (with_reducible refine wpL_stop (o := ⟨_, .box 177 _, _, _, _, none⟩) ?_) | (with_reducible refine wpL_stop (o := ⟨_, .next _ _, _, _, _, none⟩) ?_) | (with_reducible refine wpL_stop (o := ⟨_, .range _ _, _, _, _, none⟩) ?_) | (with_reducible refine wpL_stop (o := ⟨_, .mapUpdate _ _ _ _, _, _, _, none⟩) ?_) | (with_reducible refine wpL_stop (o := ⟨_, .convert 175 9 _, _, _, _, none⟩) ?_) | (with_reducible refine wpL_stop (o := ⟨_, .convert 9 175 _, _, _, _, none⟩) ?_) | (with_reducible refine wpL_stop (o := ⟨_, .call { callee := .builtin .copy, args := _, argTypes := _ }, _, _, _, none⟩) ?_) | (with_reducible refine wpL_stop (o := ⟨_, .call { callee := .builtin .append, args := _, argTypes := _ }, _, _, _, none⟩) ?_) | (with_reducible refine wpL_stop (o := ⟨_, .call { callee := .builtin .clear, args := _, argTypes := _ }, _, _, _, none⟩) ?_) | (with_reducible refine wpL_stop (o := ⟨_, .makeSlice _ _ _, _, _, _, none⟩) ?_) | (with_reducible refine wpL_stop (o := ⟨_, .makeMap _ _, _, _, _, none⟩) ?_) | (with_reducible refine wpL_stop (o := ⟨_, .entry _, _, _, _, none⟩) ?_) | (with_reducible refine wpL_stop (o := ⟨_, .call { callee := .builtin .max, args := _, argTypes := _ }, _, _, _, none⟩) ?_) | (with_reducible refine wpL_stop (o := ⟨_, .call { callee := .builtin .min, args := _, argTypes := _ }, _, _, _, none⟩) ?_) | (with_reducible refine wpL_stop (o := ⟨_, .slice 177 _ none (some _) none, _, _, _, none⟩) ?_) | (with_reducible refine wpL_stop (o := ⟨_, .binOp .add 9 _ _ _, _, _, _, none⟩) ?_) | (with_reducible refine wpL_stop (o := ⟨_, .slice 9 _ _ _ _, _, _, _, none⟩) ?_))
      refine unhold (wpL_text rfl _ _ _ rfl 5 Tryz.underlying175 Tryz.underlying5 Tryz.underlying9 g5 0 116 cap5 rfl _ _ _ (record (pgs l)) hg5 hrl (fun j hj => ?_) ?_)
      · rw [Nat.zero_add, ← ht5, List.getElem?_take, if_pos (by omega), Array.getElem?_toList]
      go_wp2_with (first | (with_reducible refine wpL_stop (o := ⟨_, .alloc 177, _, _, _, none⟩) ?_) | (with_reducible refine wpL_stop (o := ⟨_, .load 177 _, _, _, _, none⟩) ?_) | (with_reducible refine wpL_stop (o := ⟨_, .store 177 _ _, _, _, _, none⟩) ?_) | (with_reducible refine wpL_stop (o := ⟨_, .lookup _ _ _ _, _, _, _, none⟩) ?_) | (with_reducible refine wpL_stop (o := ⟨_, .box 177 _, _, _, _, none⟩) ?_) | (with_reducible refine wpL_stop (o := ⟨_, .next _ _, _, _, _, none⟩) ?_) | (with_reducible refine wpL_stop (o := ⟨_, .range _ _, _, _, _, none⟩) ?_) | (with_reducible refine wpL_stop (o := ⟨_, .mapUpdate _ _ _ _, _, _, _, none⟩) ?_) | (with_reducible refine wpL_stop (o := ⟨_, .convert 175 9 _, _, _, _, none⟩) ?_) | (with_reducible refine wpL_stop (o := ⟨_, .convert 9 175 _, _, _, _, none⟩) ?_) | (with_reducible refine wpL_stop (o := ⟨_, .call { callee := .builtin .copy, args := _, argTypes := _ }, _, _, _, none⟩) ?_) | (with_reducible refine wpL_stop (o := ⟨_, .call { callee := .builtin .append, args := _, argTypes := _ }, _, _, _, none⟩) ?_) | (with_reducible refine wpL_stop (o := ⟨_, .call { callee := .builtin .clear, args := _, argTypes := _ }, _, _, _, none⟩) ?_) | (with_reducible refine wpL_stop (o := ⟨_, .makeSlice _ _ _, _, _, _, none⟩) ?_) | (with_reducible refine wpL_stop (o := ⟨_, .makeMap _ _, _, _, _, none⟩) ?_) | (with_reducible refine wpL_stop (o := ⟨_, .entry _, _, _, _, none⟩) ?_) | (with_reducible refine wpL_stop (o := ⟨_, .call { callee := .builtin .max, args := _, argTypes := _ }, _, _, _, none⟩) ?_) | (with_reducible refine wpL_stop (o := ⟨_, .call { callee := .builtin .min, args := _, argTypes := _ }, _, _, _, none⟩) ?_) | (with_reducible refine wpL_stop (o := ⟨_, .slice 177 _ none (some _) none, _, _, _, none⟩) ?_) | (with_reducible refine wpL_stop (o := ⟨_, .binOp .add 9 _ _ _, _, _, _, none⟩) ?_) | (with_reducible refine wpL_stop (o := ⟨_, .slice 9 _ _ _ _, _, _, _, none⟩) ?_))
      go_ret
      exact ⟨rfl, f5⟩
end Go.Proofs.YtpoagpaglocpeaaGreat
