/- The laws' helpers: equal texts; texts of equal bytes; the contents of all pages. -/
import Derived.Test.YtpoagpaglocpeaaPages7
namespace Go.Proofs.Ytpoagpaglocpeaa
set_option linter.unusedSimpArgs false
set_option linter.unusedVariables false
set_option linter.unnecessarySimpa false
open Go.RowKit M

section
variable {w : World}

set_option maxRecDepth 100000 in
theorem rSameTexts_calls {B B' : Nat} {u v : Value} {a b : List Bytes} (ha : w.ownsRow B 9 1 u a.length (strs a)) (hb : w.ownsRow B' 9 1 v b.length (strs b)) (hfew : a.length ≤ 100000) :
    Calls Try.prog 13 #[u, v] w fun e w' => e = .returned (.bool (decide (a = b))) ∧ Fr [] w w' := by
  obtain ⟨up, uc, rfl⟩ := ownsRow_len ha
  obtain ⟨vp, vc, rfl⟩ := ownsRow_len hb
  by_cases hl : a.length = b.length
  · rw [← hl]
    rw [← hl] at hb
    have HL := Lib.hid hl
    clear hl
    go_enter Try.func13, Try.ntmps13
    go_wp2_with fail
    go_loopg [5] a.length (fun kq i w' => ∃ n : Nat, i = .int .i64 n ∧ n ≤ a.length ∧ Hid (kq + n = a.length) ∧ Hid (a.take n = b.take n) ∧ Fr [] w w')
    case atStart => exact ⟨0, rfl, by omega, by simp [Hid], by simp [Hid], Fr.refl _ _⟩
    case round =>
      obtain ⟨n, rfl, hn, hk, HT, fr⟩ := hrel
      by_cases hlt : n < a.length
      · have hlt' : (n : Int) < (a.length : Int) := by omega
        have hxa : a[n]? = some a[n] := List.getElem?_eq_getElem hlt
        have hxb : b[n]? = some (b[n]'(by have := HL.out; omega)) := List.getElem?_eq_getElem (by have := HL.out; omega)
        obtain ⟨g1, rfl, _, hc1⟩ := own_cell_fr (ownsRow_low ha (Nat.zero_le _)) fr (by simp) (j := n) (v := str a[n]) (by simp [strs, hxa])
        obtain ⟨g2, rfl, _, hc2⟩ := own_cell_fr (ownsRow_low hb (Nat.zero_le _)) fr (by simp) (j := n) (v := str (b[n]'(by have := HL.out; omega))) (by simp [strs, hxb])
        have HA : Hid (a.take (n + 1) = a.take n ++ [a[n]]) := take_snoc hxa
        have HB : Hid (b.take (n + 1) = b.take n ++ [b[n]'(by have := HL.out; omega)]) := take_snoc hxb
        have hnb : n < b.length := by have := HL.out; omega
        have HG : Hid (a[n]? = some a[n] ∧ b[n]? = some (b[n]'hnb)) := ⟨hxa, hxb⟩
        generalize a[n] = x at hc1 HA HG
        generalize b[n]'(by have := HL.out; omega) = y at hc2 HB HG
        clear hxa hxb
        by_cases hxy : x = y
        · subst hxy
          go_wp2_with fail
          refine wp_region_still_lit (by kernel_rfl) (by kernel_rfl) ?_
          iterate 8 still_step
          refine wpStill_val rfl (run_strNe _ _ _ _ rfl x x rfl rfl false (by simp)) ?_
          refine wpStill_nil ?_
          go_wp2_with fail
          go_roundg (gk - 1)
          case measure => have := hk.out; omega
          case rel =>
            refine ⟨n + 1, by go_num, by omega, by have := hk.out; unfold Hid; omega, ?_, fr.drew⟩
            unfold Hid
            rw [HA.out, HB.out, HT.out]
        · have HX := Lib.hid hxy
          have HD : Hid (decide (a = b) = false) := by
            unfold Hid
            rw [decide_eq_false_iff_not]
            intro e
            subst e
            have := HG.out
            exact HX.out (Option.some.inj (this.1.symm.trans this.2))
          clear hxy
          go_wp2_with fail
          refine wp_region_still_lit (by kernel_rfl) (by kernel_rfl) ?_
          iterate 8 still_step
          refine wpStill_val rfl (run_strNe _ _ _ _ rfl x y rfl rfl true (by simpa using HX.out)) ?_
          refine wpStill_nil ?_
          go_wp2_with fail
          go_ret
          exact ⟨by rw [HD.out]; rfl, fr.drew⟩
      · obtain rfl : n = a.length := by omega
        have hlt' : decide ((a.length : Int) < (a.length : Int)) = false := by simp
        have HD : Hid (decide (a = b) = true) := by
          unfold Hid
          rw [decide_eq_true_eq]
          have := HT.out
          rwa [List.take_length, HL.out, List.take_length] at this
        go_wp2
        go_ret
        exact ⟨by rw [HD.out]; rfl, fr⟩
  · have HD : Hid (decide (a = b) = false) := by
      unfold Hid
      rw [decide_eq_false_iff_not]
      intro e
      exact hl (by rw [e])
    have hne : ((a.length : Int) == (b.length : Int)) = false := by simp; omega
    clear hl
    go_enter Try.func13, Try.ntmps13
    go_wp2
    go_ret
    exact ⟨by rw [HD.out]; rfl, Fr.refl _ _⟩

theorem pre_set (s : Bytes) (b : UInt8) (n : Nat) (h : s.length < n) : (cellsOf (s ++ zeros (n - s.length))).toArray.setIfInBounds s.length (.int .u8 b.toNat) = (cellsOf (s ++ [b] ++ zeros (n - (s.length + 1)))).toArray := by
  obtain ⟨m, hm⟩ : ∃ m, n - s.length = m + 1 := ⟨n - s.length - 1, by omega⟩
  have hm' : n - (s.length + 1) = m := by omega
  rw [hm, hm']
  have e : zeros (m + 1) = 0 :: zeros m := rfl
  rw [e]
  apply Array.ext'
  simp only [cellsOf, List.map_append, List.map_cons, List.map_nil, Array.toList_setIfInBounds]
  rw [List.set_append_right _ _ (by simp)]
  simp

theorem lFull_calls (c : UInt8) (n : Nat) (hn : n ≤ 1000) : Calls Try.prog 21 #[.int .u8 c.toNat, .int .i64 n] w fun e w' => e = .returned (str (List.replicate n c)) ∧ Fr [] w w' := by
  go_enter Try.func21, Try.ntmps21
  go_wp2_with (first | (with_reducible refine wpL_stop (o := ⟨_, .alloc 81, _, _, _, none⟩) ?_) | (with_reducible refine wpL_stop (o := ⟨_, .load 81 _, _, _, _, none⟩) ?_) | (with_reducible refine wpL_stop (o := ⟨_, .store 81 _ _, _, _, _, none⟩) ?_) | (with_reducible refine wpL_stop (o := ⟨_, .lookup _ _ _ _, _, _, _, none⟩) ?_) | (with_reducible refine wpL_stop (o := ⟨_, .box 81 _, _, _, _, none⟩) ?_) | (with_reducible refine wpL_stop (o := ⟨_, .next _ _, _, _, _, none⟩) ?_) | (with_reducible refine wpL_stop (o := ⟨_, .range _ _, _, _, _, none⟩) ?_) | (with_reducible refine wpL_stop (o := ⟨_, .mapUpdate _ _ _ _, _, _, _, none⟩) ?_) | (with_reducible refine wpL_stop (o := ⟨_, .convert 75 9 _, _, _, _, none⟩) ?_) | (with_reducible refine wpL_stop (o := ⟨_, .convert 9 75 _, _, _, _, none⟩) ?_) | (with_reducible refine wpL_stop (o := ⟨_, .call { callee := .builtin .copy, args := _, argTypes := _ }, _, _, _, none⟩) ?_) | (with_reducible refine wpL_stop (o := ⟨_, .call { callee := .builtin .append, args := _, argTypes := _ }, _, _, _, none⟩) ?_) | (with_reducible refine wpL_stop (o := ⟨_, .call { callee := .builtin .clear, args := _, argTypes := _ }, _, _, _, none⟩) ?_) | (with_reducible refine wpL_stop (o := ⟨_, .makeSlice _ _ _, _, _, _, none⟩) ?_) | (with_reducible refine wpL_stop (o := ⟨_, .makeMap _ _, _, _, _, none⟩) ?_) | (with_reducible refine wpL_stop (o := ⟨_, .entry _, _, _, _, none⟩) ?_) | (with_reducible refine wpL_stop (o := ⟨_, .call { callee := .builtin .max, args := _, argTypes := _ }, _, _, _, none⟩) ?_) | (with_reducible refine wpL_stop (o := ⟨_, .call { callee := .builtin .min, args := _, argTypes := _ }, _, _, _, none⟩) ?_) | (with_reducible refine wpL_stop (o := ⟨_, .slice 81 _ none (some _) none, _, _, _, none⟩) ?_) | (with_reducible refine wpL_stop (o := ⟨_, .binOp .add 9 _ _ _, _, _, _, none⟩) ?_) | (with_reducible refine wpL_stop (o := ⟨_, .slice 9 _ _ _ _, _, _, _, none⟩) ?_))
  refine unhold (wpL_makeBytes rfl _ _ rfl n (by omega) rfl rfl ?_)
  intro w1 g1 f1 s1
  go_wp2_with (first | (with_reducible refine wpL_stop (o := ⟨_, .alloc 81, _, _, _, none⟩) ?_) | (with_reducible refine wpL_stop (o := ⟨_, .load 81 _, _, _, _, none⟩) ?_) | (with_reducible refine wpL_stop (o := ⟨_, .store 81 _ _, _, _, _, none⟩) ?_) | (with_reducible refine wpL_stop (o := ⟨_, .lookup _ _ _ _, _, _, _, none⟩) ?_) | (with_reducible refine wpL_stop (o := ⟨_, .box 81 _, _, _, _, none⟩) ?_) | (with_reducible refine wpL_stop (o := ⟨_, .next _ _, _, _, _, none⟩) ?_) | (with_reducible refine wpL_stop (o := ⟨_, .range _ _, _, _, _, none⟩) ?_) | (with_reducible refine wpL_stop (o := ⟨_, .mapUpdate _ _ _ _, _, _, _, none⟩) ?_) | (with_reducible refine wpL_stop (o := ⟨_, .convert 75 9 _, _, _, _, none⟩) ?_) | (with_reducible refine wpL_stop (o := ⟨_, .convert 9 75 _, _, _, _, none⟩) ?_) | (with_reducible refine wpL_stop (o := ⟨_, .call { callee := .builtin .copy, args := _, argTypes := _ }, _, _, _, none⟩) ?_) | (with_reducible refine wpL_stop (o := ⟨_, .call { callee := .builtin .append, args := _, argTypes := _ }, _, _, _, none⟩) ?_) | (with_reducible refine wpL_stop (o := ⟨_, .call { callee := .builtin .clear, args := _, argTypes := _ }, _, _, _, none⟩) ?_) | (with_reducible refine wpL_stop (o := ⟨_, .makeSlice _ _ _, _, _, _, none⟩) ?_) | (with_reducible refine wpL_stop (o := ⟨_, .makeMap _ _, _, _, _, none⟩) ?_) | (with_reducible refine wpL_stop (o := ⟨_, .entry _, _, _, _, none⟩) ?_) | (with_reducible refine wpL_stop (o := ⟨_, .call { callee := .builtin .max, args := _, argTypes := _ }, _, _, _, none⟩) ?_) | (with_reducible refine wpL_stop (o := ⟨_, .call { callee := .builtin .min, args := _, argTypes := _ }, _, _, _, none⟩) ?_) | (with_reducible refine wpL_stop (o := ⟨_, .slice 81 _ none (some _) none, _, _, _, none⟩) ?_) | (with_reducible refine wpL_stop (o := ⟨_, .binOp .add 9 _ _ _, _, _, _, none⟩) ?_) | (with_reducible refine wpL_stop (o := ⟨_, .slice 9 _ _ _ _, _, _, _, none⟩) ?_))
  go_loopw [6] (fun i wr => ∃ j : Nat, i = .int .i64 j ∧ j ≤ n ∧ Hid (wr.heap[w.heap.size]? = some (.cells (cellsOf (List.replicate j c ++ zeros (n - j))).toArray 5 (0, 0))) ∧ Fr [] w wr) (fun i _ => n - (intOf i).toNat)
  case atStart => exact ⟨0, rfl, by omega, by simpa [Hid] using g1, f1⟩
  case round =>
    obtain ⟨j, rfl, hj, hg, fr⟩ := hrel
    by_cases hlt : j < n
    · have hlt' : (j : Int) < (n : Int) := by omega
      have hcell : ∃ v, wr.cell? ⟨w.heap.size, j, none⟩ = some v := by
        rw [cell_of_row wr _ j _ _ _ hg.out]
        have : j < (cellsOf (List.replicate j c ++ zeros (n - j))).length := by simp [cellsOf_length, zeros]; omega
        exact ⟨(cellsOf (List.replicate j c ++ zeros (n - j)))[j], by simp [this]⟩
      obtain ⟨v0, hcell⟩ := hcell
      have hfr := blk_free hg.out j
      have HS := Lib.hid (pre_set (List.replicate j c) c n (by simpa using hlt))
      go_wp2
      refine ⟨⟨j + 1, by go_num, by omega, ?_, fr.setCell (.inr (Nat.le_refl _)) _⟩, by simp [intOf]; omega⟩
      have := heap_setCell_same' wr w.heap.size j _ _ (.int .u8 c.toNat) hg.out
      unfold Hid
      have hs := HS.out
      rw [List.length_replicate] at hs
      rw [this, hs, ← List.replicate_succ']
    · obtain rfl : j = n := by omega
      go_wp2_with (first | (with_reducible refine wpL_stop (o := ⟨_, .alloc 81, _, _, _, none⟩) ?_) | (with_reducible refine wpL_stop (o := ⟨_, .load 81 _, _, _, _, none⟩) ?_) | (with_reducible refine wpL_stop (o := ⟨_, .store 81 _ _, _, _, _, none⟩) ?_) | (with_reducible refine wpL_stop (o := ⟨_, .lookup _ _ _ _, _, _, _, none⟩) ?_) | (with_reducible refine wpL_stop (o := ⟨_, .box 81 _, _, _, _, none⟩) ?_) | (with_reducible refine wpL_stop (o := ⟨_, .next _ _, _, _, _, none⟩) ?_) | (with_reducible refine wpL_stop (o := ⟨_, .range _ _, _, _, _, none⟩) ?_) | (with_reducible refine wpL_stop (o := ⟨_, .mapUpdate _ _ _ _, _, _, _, none⟩) ?_) | (with_reducible refine wpL_stop (o := ⟨_, .convert 75 9 _, _, _, _, none⟩) ?_) | (with_reducible refine wpL_stop (o := ⟨_, .convert 9 75 _, _, _, _, none⟩) ?_) | (with_reducible refine wpL_stop (o := ⟨_, .call { callee := .builtin .copy, args := _, argTypes := _ }, _, _, _, none⟩) ?_) | (with_reducible refine wpL_stop (o := ⟨_, .call { callee := .builtin .append, args := _, argTypes := _ }, _, _, _, none⟩) ?_) | (with_reducible refine wpL_stop (o := ⟨_, .call { callee := .builtin .clear, args := _, argTypes := _ }, _, _, _, none⟩) ?_) | (with_reducible refine wpL_stop (o := ⟨_, .makeSlice _ _ _, _, _, _, none⟩) ?_) | (with_reducible refine wpL_stop (o := ⟨_, .makeMap _ _, _, _, _, none⟩) ?_) | (with_reducible refine wpL_stop (o := ⟨_, .entry _, _, _, _, none⟩) ?_) | (with_reducible refine wpL_stop (o := ⟨_, .call { callee := .builtin .max, args := _, argTypes := _ }, _, _, _, none⟩) ?_) | (with_reducible refine wpL_stop (o := ⟨_, .call { callee := .builtin .min, args := _, argTypes := _ }, _, _, _, none⟩) ?_) | (with_reducible refine wpL_stop (o := ⟨_, .slice 81 _ none (some _) none, _, _, _, none⟩) ?_) | (with_reducible refine wpL_stop (o := ⟨_, .binOp .add 9 _ _ _, _, _, _, none⟩) ?_) | (with_reducible refine wpL_stop (o := ⟨_, .slice 9 _ _ _ _, _, _, _, none⟩) ?_))
      refine unhold (wpL_text rfl _ _ _ rfl 5 Try.underlying75 Try.underlying5 Try.underlying9 w.heap.size 0 j j rfl _ _ _ (List.replicate j c) hg.out (by simp) (by intro i hi; simp [zeros]) ?_)
      go_wp2
      go_ret
      exact ⟨rfl, fr⟩

theorem pwSize : (Try.prog.info? 58).map (·.size) = some 2 := by kernel_rfl
theorem set2 {w : World} {g : Nat} {a b x y : Value} {t : TypeId} (h : w.heap[g]? = some (.cells #[a, b] t (0, 0))) : ((w.setCell ⟨g, 0, none⟩ x).setCell ⟨g, 1, none⟩ y).heap[g]? = some (.cells #[x, y] t (0, 0)) := by
  have h1 := heap_setCell_same' w g 0 _ _ x h
  have h2 := heap_setCell_same' _ g 1 _ _ y h1
  simpa using h2
theorem lWrite_calls (p : Int) (c : UInt8) : Calls Try.prog 18 #[.int .i64 p, .int .u8 c.toNat] w fun e w' => e = .returned (.agg #[.int .i64 p, str (List.replicate 116 c)]) ∧ Fr [] w w' := by
  have hF := fun w' => lFull_calls (w := w') c 116 (by omega)
  generalize List.replicate 116 c = s at hF
  have F0 : Fr [] w (w.alloc (.cells #[.int .i64 0, .string ⟨#[]⟩] 58)) := (Fr.refl _ _).alloc _
  have G0 := heap_alloc_new w (.cells #[.int .i64 0, .string ⟨#[]⟩] 58)
  go_enter Try.func18, Try.ntmps18
  go_wp2_with fail
  refine (hF _).mono ?_
  rintro e w1 ⟨rfl, f1⟩
  have G1 := f1.heap G0 (by simp)
  have F1 := F0.trans f1
  have k0 : w1.cell? ⟨w.heap.size, 0, none⟩ = some (.int .i64 0) := blk_cell G1 0 rfl
  have k1 : w1.cell? ⟨w.heap.size, 1, none⟩ = some (.string ⟨#[]⟩) := blk_cell G1 1 rfl
  have z0 := blk_free G1 0
  have z1 := blk_free G1 1
  go_wp2_with fail
  exact bodyPost_row 4 58 rfl w.heap.size rfl _ [.int .i64 p, str s] _ _ (set2 G1) Try.underlying58 rfl pwSize rfl ⟨rfl, (F1.setCell (.inr (Nat.le_refl _)) _).setCell (.inr (Nat.le_refl _)) _⟩

section
variable {L : DL} {d : Disk} {pl : PL} {p : M.Pages}
set_option maxRecDepth 100000 in
theorem lContents_calls (h : DiskAt w L d) (hp : PagesAt w pl L p) (c : List Bytes) (hc : (c.length : Int) = d.len - 17) (hr : ∀ (i : Nat) s, c[i]? = some s → p.read d i = (s, 0)) (hfew : c.length ≤ 10000) :
    Calls Try.prog 8 #[Pp pl] w fun e w' => ∃ v, e = .returned (.tuple #[v, .bool true]) ∧ w'.ownsRow w.heap.size 9 1 v c.length (strs c) ∧ Fr [] w w' := by
  go_enter Try.func8, Try.ntmps8
  go_wp2_with fail
  go_loopg [4, 5] c.length (fun kq v i w' => ∃ n : Nat, i = .int .i64 n ∧ n ≤ c.length ∧ Hid (kq + n = c.length) ∧ w'.ownsRow w.heap.size 9 1 v n (strs (c.take n)) ∧ Fr [] w w')
  case atStart => exact ⟨0, rfl, by omega, by simp [Hid], World.ownsRow_nil _ _ _ _, Fr.refl _ _⟩
  case round =>
    obtain ⟨n, rfl, hn, hk, R, fr⟩ := hrel
    have Dr := h.fr0 fr
    have Pr := hp.fr0 fr
    have hL := pLen_calls Dr Pr
    rw [← hc] at hL
    by_cases hlt : n < c.length
    · have hlt' : (n : Int) < (c.length : Int) := by omega
      have hcn : c[n]? = some c[n] := List.getElem?_eq_getElem hlt
      have hR := pRead_calls Dr Pr n
      rw [hr n _ hcn] at hR
      have HP : Hid (strs (c.take (n + 1)) = strs (c.take n) ++ [str c[n]]) := by
        unfold Hid strs
        rw [take_snoc hcn]
        simp only [List.map_append, List.map_cons, List.map_nil]
      generalize strs (c.take n) = ps at R HP
      generalize c[n] = s at hR HP hcn
      clear hcn
      go_wp2_with fail
      refine hL.mono ?_
      rintro e w1 ⟨rfl, rfl⟩
      go_wp2_with fail
      refine hR.mono ?_
      rintro e w2 ⟨rfl, f2⟩
      have R2 := ownsRow_fr' R f2 (by simp)
      have fr2 := fr.trans f2
      go_wp2_with (first | (with_reducible refine wpL_stop (o := ⟨_, .alloc 81, _, _, _, none⟩) ?_) | (with_reducible refine wpL_stop (o := ⟨_, .load 81 _, _, _, _, none⟩) ?_) | (with_reducible refine wpL_stop (o := ⟨_, .store 81 _ _, _, _, _, none⟩) ?_) | (with_reducible refine wpL_stop (o := ⟨_, .lookup _ _ _ _, _, _, _, none⟩) ?_) | (with_reducible refine wpL_stop (o := ⟨_, .box 81 _, _, _, _, none⟩) ?_) | (with_reducible refine wpL_stop (o := ⟨_, .next _ _, _, _, _, none⟩) ?_) | (with_reducible refine wpL_stop (o := ⟨_, .range _ _, _, _, _, none⟩) ?_) | (with_reducible refine wpL_stop (o := ⟨_, .mapUpdate _ _ _ _, _, _, _, none⟩) ?_) | (with_reducible refine wpL_stop (o := ⟨_, .convert 75 9 _, _, _, _, none⟩) ?_) | (with_reducible refine wpL_stop (o := ⟨_, .convert 9 75 _, _, _, _, none⟩) ?_) | (with_reducible refine wpL_stop (o := ⟨_, .call { callee := .builtin .copy, args := _, argTypes := _ }, _, _, _, none⟩) ?_) | (with_reducible refine wpL_stop (o := ⟨_, .call { callee := .builtin .append, args := _, argTypes := _ }, _, _, _, none⟩) ?_) | (with_reducible refine wpL_stop (o := ⟨_, .call { callee := .builtin .clear, args := _, argTypes := _ }, _, _, _, none⟩) ?_) | (with_reducible refine wpL_stop (o := ⟨_, .makeSlice _ _ _, _, _, _, none⟩) ?_) | (with_reducible refine wpL_stop (o := ⟨_, .makeMap _ _, _, _, _, none⟩) ?_) | (with_reducible refine wpL_stop (o := ⟨_, .entry _, _, _, _, none⟩) ?_) | (with_reducible refine wpL_stop (o := ⟨_, .call { callee := .builtin .max, args := _, argTypes := _ }, _, _, _, none⟩) ?_) | (with_reducible refine wpL_stop (o := ⟨_, .call { callee := .builtin .min, args := _, argTypes := _ }, _, _, _, none⟩) ?_) | (with_reducible refine wpL_stop (o := ⟨_, .slice 81 _ none (some _) none, _, _, _, none⟩) ?_) | (with_reducible refine wpL_stop (o := ⟨_, .binOp .add 9 _ _ _, _, _, _, none⟩) ?_) | (with_reducible refine wpL_stop (o := ⟨_, .slice 9 _ _ _ _, _, _, _, none⟩) ?_))
      have f4 := fr2.alloc (.cells #[str s] 9)
      have hg4 := heap_alloc_new w2 (.cells #[str s] 9)
      have R4 := ownsRow_fr' R2 ((Fr.refl [] w2).alloc (.cells #[str s] 9)) (by simp)
      generalize w2.alloc (.cells #[str s] 9) = w4 at f4 hg4 R4 ⊢
      refine unhold (wpL_append_at rfl _ _ 39 rfl w.heap.size 9 _ 16 Try.underlying39 strInfo rfl (by decide) u4 n ps rfl R4 w2.heap.size 1 [str s] rfl _ _ _ hg4 (by intro j u hj; simpa using hj) (by simp [Value.oneCell']) (by simp; omega) f4.size ?_)
      intro v5 w5 hown5 hgr5 hat5
      have f5 : Fr [] w w5 := f4.grown hgr5 (fun k hk => .inr (R4.lt k hk).1)
      go_wp2_with (first | (with_reducible refine wpL_stop (o := ⟨_, .alloc 81, _, _, _, none⟩) ?_) | (with_reducible refine wpL_stop (o := ⟨_, .load 81 _, _, _, _, none⟩) ?_) | (with_reducible refine wpL_stop (o := ⟨_, .store 81 _ _, _, _, _, none⟩) ?_) | (with_reducible refine wpL_stop (o := ⟨_, .lookup _ _ _ _, _, _, _, none⟩) ?_) | (with_reducible refine wpL_stop (o := ⟨_, .box 81 _, _, _, _, none⟩) ?_) | (with_reducible refine wpL_stop (o := ⟨_, .next _ _, _, _, _, none⟩) ?_) | (with_reducible refine wpL_stop (o := ⟨_, .range _ _, _, _, _, none⟩) ?_) | (with_reducible refine wpL_stop (o := ⟨_, .mapUpdate _ _ _ _, _, _, _, none⟩) ?_) | (with_reducible refine wpL_stop (o := ⟨_, .convert 75 9 _, _, _, _, none⟩) ?_) | (with_reducible refine wpL_stop (o := ⟨_, .convert 9 75 _, _, _, _, none⟩) ?_) | (with_reducible refine wpL_stop (o := ⟨_, .call { callee := .builtin .copy, args := _, argTypes := _ }, _, _, _, none⟩) ?_) | (with_reducible refine wpL_stop (o := ⟨_, .call { callee := .builtin .append, args := _, argTypes := _ }, _, _, _, none⟩) ?_) | (with_reducible refine wpL_stop (o := ⟨_, .call { callee := .builtin .clear, args := _, argTypes := _ }, _, _, _, none⟩) ?_) | (with_reducible refine wpL_stop (o := ⟨_, .makeSlice _ _ _, _, _, _, none⟩) ?_) | (with_reducible refine wpL_stop (o := ⟨_, .makeMap _ _, _, _, _, none⟩) ?_) | (with_reducible refine wpL_stop (o := ⟨_, .entry _, _, _, _, none⟩) ?_) | (with_reducible refine wpL_stop (o := ⟨_, .call { callee := .builtin .max, args := _, argTypes := _ }, _, _, _, none⟩) ?_) | (with_reducible refine wpL_stop (o := ⟨_, .call { callee := .builtin .min, args := _, argTypes := _ }, _, _, _, none⟩) ?_) | (with_reducible refine wpL_stop (o := ⟨_, .slice 81 _ none (some _) none, _, _, _, none⟩) ?_) | (with_reducible refine wpL_stop (o := ⟨_, .binOp .add 9 _ _ _, _, _, _, none⟩) ?_) | (with_reducible refine wpL_stop (o := ⟨_, .slice 9 _ _ _ _, _, _, _, none⟩) ?_))
      go_roundg (gk - 1)
      case measure => have := hk.out; omega
      case rel =>
        refine ⟨n + 1, by go_num, by omega, by have := hk.out; unfold Hid; omega, ?_, f5⟩
        rw [HP.out]
        exact hown5
    · obtain rfl : n = c.length := by omega
      have hlt' : decide ((c.length : Int) < (c.length : Int)) = false := by simp
      rw [List.take_length] at R
      go_wp2_with fail
      refine hL.mono ?_
      rintro e w1 ⟨rfl, rfl⟩
      go_wp2_with fail
      go_ret2
      exact ⟨_, rfl, R, fr⟩
end

/-- A text of an owned row is turned. -/
theorem strs_set {B g n c : Nat} {l : List Bytes} {s : Bytes} {j : Nat} (h : w.ownsRow B 9 1 (.slice (some ⟨g, 0, none⟩) n c) l.length (strs l)) (_hj : j < l.length) :
    (w.setCell ⟨g, j, none⟩ (str s)).ownsRow B 9 1 (.slice (some ⟨g, 0, none⟩) n c) (l.set j s).length (strs (l.set j s)) := by
  refine ⟨by simp [strs], ?_⟩
  rcases h.2 with ⟨h1, _⟩ | ⟨g', cap, cur, h1, h2, hgg, h3, h4, h5, h6⟩
  · cases h1
  · have e : g' = g := by
      injection h1 with e
      injection e with e
      injection e with e
      exact e.symm
    subst e
    refine .inr ⟨g', cap, cur.setIfInBounds j (str s), by rw [h1]; simp, h2, heap_setCell_same' _ _ _ _ _ _ hgg, by simpa using h3, h4, by simpa using h5, ?_⟩
    unfold strs at h6 ⊢
    rw [List.length_set, Array.toList_setIfInBounds, List.take_set, List.map_set, ← h6]

def chg (a : List Bytes) (x : PW) : List Bytes := if 0 ≤ x.1 ∧ x.1 < (a.length : Int) then a.set x.1.toNat x.2 else a
theorem chg_length (a : List Bytes) (x : PW) : (chg a x).length = a.length := by unfold chg; split <;> simp
theorem chgs_length (l : List PW) : ∀ a : List Bytes, (l.foldl chg a).length = a.length := by
  induction l with
  | nil => intro a; rfl
  | cons x l ih => intro a; rw [List.foldl_cons, ih, chg_length]

set_option maxRecDepth 100000 in
theorem lChanged_calls {B : Nat} {u v : Value} {old : List Bytes} {l : List PW} (ho : w.ownsRow B 9 1 u old.length (strs old)) (h0 : 0 < old.length) (hfo : old.length ≤ 10000) (hl : PwAt w v l) (hfew : l.length ≤ 10000) (hw : ∀ x ∈ l, -9223372036854775808 ≤ x.1 ∧ x.1 ≤ 9223372036854775807) :
    Calls Try.prog 12 #[u, v] w fun e w' => ∃ r, e = .returned r ∧ w'.ownsRow w.heap.size 9 1 r old.length (strs (l.foldl chg old)) ∧ Fr [] w w' := by
  obtain ⟨up, uc, rfl⟩ := ownsRow_len ho
  obtain ⟨vp, vc, rfl⟩ := ownsRow_len hl
  obtain ⟨g, rfl, hgc⟩ : ∃ g, up = some ⟨g, 0, none⟩ ∧ ∃ cs, w.heap[g]? = some (.cells cs 9 (0, 0)) ∧ ∀ (j : Nat) x, (strs old)[j]? = some x → cs[j]? = some x := by
    rcases ho.2 with ⟨h1, h2⟩ | ⟨g, cap, cur, h1, _, hg, _, _, hs, ht⟩
    · omega
    · cases h1
      refine ⟨g, rfl, cur, hg, fun j x hj => ?_⟩
      rw [← ht, List.getElem?_take] at hj
      split at hj
      · rw [← Array.getElem?_toList]; exact hj
      · cases hj
  obtain ⟨cs, hg, hcs⟩ := hgc
  have hsn : (strs old).length = old.length := by simp [strs]
  have HCS := Lib.hid hcs
  clear hcs
  go_enter Try.func12, Try.ntmps12
  go_wp2_with (first | (with_reducible refine wpL_stop (o := ⟨_, .alloc 81, _, _, _, none⟩) ?_) | (with_reducible refine wpL_stop (o := ⟨_, .load 81 _, _, _, _, none⟩) ?_) | (with_reducible refine wpL_stop (o := ⟨_, .store 81 _ _, _, _, _, none⟩) ?_) | (with_reducible refine wpL_stop (o := ⟨_, .lookup _ _ _ _, _, _, _, none⟩) ?_) | (with_reducible refine wpL_stop (o := ⟨_, .box 81 _, _, _, _, none⟩) ?_) | (with_reducible refine wpL_stop (o := ⟨_, .next _ _, _, _, _, none⟩) ?_) | (with_reducible refine wpL_stop (o := ⟨_, .range _ _, _, _, _, none⟩) ?_) | (with_reducible refine wpL_stop (o := ⟨_, .mapUpdate _ _ _ _, _, _, _, none⟩) ?_) | (with_reducible refine wpL_stop (o := ⟨_, .convert 75 9 _, _, _, _, none⟩) ?_) | (with_reducible refine wpL_stop (o := ⟨_, .convert 9 75 _, _, _, _, none⟩) ?_) | (with_reducible refine wpL_stop (o := ⟨_, .call { callee := .builtin .copy, args := _, argTypes := _ }, _, _, _, none⟩) ?_) | (with_reducible refine wpL_stop (o := ⟨_, .call { callee := .builtin .append, args := _, argTypes := _ }, _, _, _, none⟩) ?_) | (with_reducible refine wpL_stop (o := ⟨_, .call { callee := .builtin .clear, args := _, argTypes := _ }, _, _, _, none⟩) ?_) | (with_reducible refine wpL_stop (o := ⟨_, .makeSlice _ _ _, _, _, _, none⟩) ?_) | (with_reducible refine wpL_stop (o := ⟨_, .makeMap _ _, _, _, _, none⟩) ?_) | (with_reducible refine wpL_stop (o := ⟨_, .entry _, _, _, _, none⟩) ?_) | (with_reducible refine wpL_stop (o := ⟨_, .call { callee := .builtin .max, args := _, argTypes := _ }, _, _, _, none⟩) ?_) | (with_reducible refine wpL_stop (o := ⟨_, .call { callee := .builtin .min, args := _, argTypes := _ }, _, _, _, none⟩) ?_) | (with_reducible refine wpL_stop (o := ⟨_, .slice 81 _ none (some _) none, _, _, _, none⟩) ?_) | (with_reducible refine wpL_stop (o := ⟨_, .binOp .add 9 _ _ _, _, _, _, none⟩) ?_) | (with_reducible refine wpL_stop (o := ⟨_, .slice 9 _ _ _ _, _, _, _, none⟩) ?_))
  refine unhold (wpL_append_at rfl _ _ 39 rfl w.heap.size 9 _ 16 Try.underlying39 strInfo rfl (by decide) (.slice none 0 0) 0 [] rfl (World.ownsRow_nil _ _ _ _) g uc (strs old) (by rw [hsn]; rfl) _ _ _ hg HCS.out (by intro x hx; obtain ⟨y, _, rfl⟩ := List.mem_map.1 hx; rfl) (by rw [hsn]; omega) (Nat.le_refl _) ?_)
  intro v1 w1 hown1 hgr1 hat1
  have f1 : Fr [] w w1 := (Fr.refl [] w).grown hgr1 (fun k hk => .inr (by cases hk))
  rw [hsn, Nat.zero_add, List.nil_append] at hown1
  obtain ⟨vp1, vc1, rfl⟩ := ownsRow_len hown1
  obtain ⟨g1, rfl, hg1b, _⟩ := own_cell_fr (S := []) hown1 (Fr.refl [] w1) (by simp) (j := 0) (v := str old[0]) (by simp [strs, h0])
  have h1l := hl.fr f1 (by simp)
  have hvl : ∀ k, (Value.slice vp l.length vc).ownBlock = some k → k < w.heap.size := fun k hk => (hl.lt k hk).2
  clear hsn hg HCS
  go_wp2_with (first | (with_reducible refine wpL_stop (o := ⟨_, .alloc 81, _, _, _, none⟩) ?_) | (with_reducible refine wpL_stop (o := ⟨_, .load 81 _, _, _, _, none⟩) ?_) | (with_reducible refine wpL_stop (o := ⟨_, .store 81 _ _, _, _, _, none⟩) ?_) | (with_reducible refine wpL_stop (o := ⟨_, .lookup _ _ _ _, _, _, _, none⟩) ?_) | (with_reducible refine wpL_stop (o := ⟨_, .box 81 _, _, _, _, none⟩) ?_) | (with_reducible refine wpL_stop (o := ⟨_, .next _ _, _, _, _, none⟩) ?_) | (with_reducible refine wpL_stop (o := ⟨_, .range _ _, _, _, _, none⟩) ?_) | (with_reducible refine wpL_stop (o := ⟨_, .mapUpdate _ _ _ _, _, _, _, none⟩) ?_) | (with_reducible refine wpL_stop (o := ⟨_, .convert 75 9 _, _, _, _, none⟩) ?_) | (with_reducible refine wpL_stop (o := ⟨_, .convert 9 75 _, _, _, _, none⟩) ?_) | (with_reducible refine wpL_stop (o := ⟨_, .call { callee := .builtin .copy, args := _, argTypes := _ }, _, _, _, none⟩) ?_) | (with_reducible refine wpL_stop (o := ⟨_, .call { callee := .builtin .append, args := _, argTypes := _ }, _, _, _, none⟩) ?_) | (with_reducible refine wpL_stop (o := ⟨_, .call { callee := .builtin .clear, args := _, argTypes := _ }, _, _, _, none⟩) ?_) | (with_reducible refine wpL_stop (o := ⟨_, .makeSlice _ _ _, _, _, _, none⟩) ?_) | (with_reducible refine wpL_stop (o := ⟨_, .makeMap _ _, _, _, _, none⟩) ?_) | (with_reducible refine wpL_stop (o := ⟨_, .entry _, _, _, _, none⟩) ?_) | (with_reducible refine wpL_stop (o := ⟨_, .call { callee := .builtin .max, args := _, argTypes := _ }, _, _, _, none⟩) ?_) | (with_reducible refine wpL_stop (o := ⟨_, .call { callee := .builtin .min, args := _, argTypes := _ }, _, _, _, none⟩) ?_) | (with_reducible refine wpL_stop (o := ⟨_, .slice 81 _ none (some _) none, _, _, _, none⟩) ?_) | (with_reducible refine wpL_stop (o := ⟨_, .binOp .add 9 _ _ _, _, _, _, none⟩) ?_) | (with_reducible refine wpL_stop (o := ⟨_, .slice 9 _ _ _ _, _, _, _, none⟩) ?_))
  go_loopg [6] l.length (fun kq i w' => ∃ n : Nat, i = .int .i64 n ∧ n ≤ l.length ∧ Hid (kq + n = l.length) ∧ w'.ownsRow w.heap.size 9 1 (.slice (some ⟨g1, 0, none⟩) old.length vc1) ((l.take n).foldl chg old).length (strs ((l.take n).foldl chg old)) ∧ Fr [g1] w1 w')
  case atStart => exact ⟨0, rfl, by omega, by simp [Hid], hown1, Fr.refl _ _⟩
  case round =>
    obtain ⟨n, rfl, hn, hk, R, fr⟩ := hrel
    by_cases hlt : n < l.length
    · have hlt' : (n : Int) < (l.length : Int) := by omega
      have hlr : PwAt wr (.slice vp l.length vc) l := h1l.fr fr (fun k hk => by have := hvl k hk; simp; omega)
      obtain ⟨x, hx⟩ : ∃ x, l[n]? = some x := ⟨l[n], List.getElem?_eq_getElem hlt⟩
      obtain ⟨gq, rfl, hgl, hca, hcb⟩ := hlr.cells hx
      have hb := hw x (List.mem_of_getElem? hx)
      have HN : Hid ((l.take (n + 1)).foldl chg old = chg ((l.take n).foldl chg old) x) := by
        unfold Hid
        rw [take_snoc hx, List.foldl_append]
        rfl
      have hal := chgs_length (l.take n) old
      generalize (l.take n).foldl chg old = a at R HN hal
      have HA := Lib.hid hal
      by_cases hneg : x.1 < 0
      · have HC : Hid (chg a x = a) := by unfold Hid chg; rw [if_neg (by omega)]
        go_wp2_with fail
        go_roundg (gk - 1)
        case measure => have := hk.out; omega
        case rel =>
          refine ⟨n + 1, by go_num, by omega, by have := hk.out; unfold Hid; omega, ?_, fr⟩
          rw [HN.out, HC.out]
          exact R
      · by_cases hge : (old.length : Int) ≤ x.1
        · have HC : Hid (chg a x = a) := by unfold Hid chg; rw [if_neg (by omega)]
          have hneg' : 0 ≤ x.1 := by omega
          go_wp2_with fail
          go_roundg (gk - 1)
          case measure => have := hk.out; omega
          case rel =>
            refine ⟨n + 1, by go_num, by omega, by have := hk.out; unfold Hid; omega, ?_, fr⟩
            rw [HN.out, HC.out]
            exact R
        · obtain ⟨m, hm⟩ := Int.eq_ofNat_of_zero_le (show 0 ≤ x.1 by omega)
          have hml : m < old.length := by omega
          have hml' : (m : Int) < (old.length : Int) := by omega
          have HC : Hid (chg a x = a.set m x.2) := by
            unfold Hid chg
            rw [if_pos (by omega), hm]
            rfl
          have hma : m < a.length := by omega
          obtain ⟨g', hg', hc1⟩ := (own_read R).2 m hma (str a[m]) (by simp [strs, hma])
          obtain rfl : g' = g1 := by simpa using hg'.symm
          have hfz : wr.frozen? ⟨g', m, none⟩ = false := by
            rcases R.2 with ⟨h1, _⟩ | ⟨g2, cap, cur, h1, _, hgg, _⟩
            · cases h1
            · injection h1 with e
              injection e with e
              injection e with e
              subst e
              exact blk_free hgg m
          rw [hm] at hca
          generalize x.2 = s at hcb HC
          have hsz : g' < wr.heap.size := (R.lt g' rfl).2
          clear hneg hge hb hal
          go_wp2_with fail
          refine wp_region_still_tail 12 (by kernel_rfl) (by kernel_rfl) ?_
          simp only [List.take_succ_cons, List.take_zero, List.drop_succ_cons, List.drop_zero]
          iterate 12 still_step
          refine wpStill_nil ?_
          go_wp2_with fail
          have hR := strs_set (s := s) (j := m) (c := vc1) (n := old.length) R hma
          go_roundg (gk - 1)
          case measure => have := hk.out; omega
          case rel =>
            refine ⟨n + 1, by go_num, by omega, by have := hk.out; unfold Hid; omega, ?_, (fr.setCell (.inl (by simp)) _).drew⟩
            rw [HN.out, HC.out]
            exact hR
    · obtain rfl : n = l.length := by omega
      have hlt' : decide ((l.length : Int) < (l.length : Int)) = false := by simp
      have hal := chgs_length (l.take l.length) old
      rw [List.take_length] at R hal
      rw [hal] at R
      have HA := Lib.hid hal
      clear hal
      go_wp2
      go_ret
      exact ⟨_, rfl, R, f1.then fr (by simp; omega)⟩
end
end Go.Proofs.Ytpoagpaglocpeaa
