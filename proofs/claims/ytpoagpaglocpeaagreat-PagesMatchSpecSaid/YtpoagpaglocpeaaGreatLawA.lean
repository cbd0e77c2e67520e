/- The laws' helpers: equal texts; texts of equal bytes; the contents of all pages. -/
import Derived.Test.YtpoagpaglocpeaaGreatPages7
import Derived.Test.YtpoagpaglocpeaaGreatRef6
namespace Go.Proofs.YtpoagpaglocpeaaGreat
set_option linter.unusedSimpArgs false
set_option linter.unusedVariables false
set_option linter.unnecessarySimpa false
open Go.RowKit M

section
variable {w : World}

set_option maxRecDepth 100000 in
theorem rSameTexts_calls {B B' : Nat} {u v : Value} {a b : List Bytes} (ha : w.ownsRow B 9 1 u a.length (strs a)) (hb : w.ownsRow B' 9 1 v b.length (strs b)) (hfew : a.length ≤ 100000) :
    Calls Tryz.prog 57 #[u, v] w fun e w' => e = .returned (.bool (decide (a = b))) ∧ Fr [] w w' := by
  obtain ⟨up, uc, rfl⟩ := ownsRow_len ha
  obtain ⟨vp, vc, rfl⟩ := ownsRow_len hb
  by_cases hl : a.length = b.length
  · rw [← hl]
    rw [← hl] at hb
    have HL := Lib.hid hl
    clear hl
    go_enter Tryz.func57, Tryz.ntmps57
    go_wp2_with fail
    go_loopg [5] a.length (fun kq i w' => ∃ n : Nat, i = .int .i64 n ∧ n ≤ a.length ∧ Hid (kq + n = a.length) ∧ Hid (a.take n = b.take n) ∧ Fr [] w w')
    case atStart => exact ⟨0, rfl, by omega, by simp [Hid], by simp [Hid], Fr.refl _ _⟩
    case round =>
      obtain ⟨n, rfl, hn, hk, HT, fr⟩ := hrel
      by_cases hlt : n < a.length
      · have hlt' : (n : Int) < (a.length : Int) := by omega
        have hxa : a[n]? = some a[n] := List.getElem?_eq_getElem hlt
        have hxb : b[n]? = some (b[n]'(by have := HL.out; omega)) := List.getElem?_eq_getElem (by have := HL.out; omega)
        obtain ⟨g1, rfl, _, hc1⟩ := own_cell_fr (ownsRow_low ha (Nat.zero_le _)) fr (by simp) (j := n) (v := str a[n]) (by simp [strs, hxa])
        obtain ⟨g2, rfl, _, hc2⟩ := own_cell_fr (ownsRow_low hb (Nat.zero_le _)) fr (by simp) (j := n) (v := str (b[n]'(by have := HL.out; omega))) (by simp [strs, hxb])
        have HA : Hid (a.take (n + 1) = a.take n ++ [a[n]]) := take_snoc hxa
        have HB : Hid (b.take (n + 1) = b.take n ++ [b[n]'(by have := HL.out; omega)]) := take_snoc hxb
        have hnb : n < b.length := by have := HL.out; omega
        have HG : Hid (a[n]? = some a[n] ∧ b[n]? = some (b[n]'hnb)) := ⟨hxa, hxb⟩
        generalize a[n] = x at hc1 HA HG
        generalize b[n]'(by have := HL.out; omega) = y at hc2 HB HG
        clear hxa hxb
        by_cases hxy : x = y
        · subst hxy
          go_wp2_with fail
          refine wp_region_still_lit (by kernel_rfl) (by kernel_rfl) ?_
          iterate 8 still_step
          refine wpStill_val rfl (run_strNe _ _ _ _ rfl x x rfl rfl false (by simp)) ?_
          refine wpStill_nil ?_
          go_wp2_with fail
          go_roundg (gk - 1)
          case measure => have := hk.out; omega
          case rel =>
            refine ⟨n + 1, by go_num, by omega, by have := hk.out; unfold Hid; omega, ?_, fr.drew⟩
            unfold Hid
            rw [HA.out, HB.out, HT.out]
        · have HX := Lib.hid hxy
          have HD : Hid (decide (a = b) = false) := by
            unfold Hid
            rw [decide_eq_false_iff_not]
            intro e
            subst e
            have := HG.out
            exact HX.out (Option.some.inj (this.1.symm.trans this.2))
          clear hxy
          go_wp2_with fail
          refine wp_region_still_lit (by kernel_rfl) (by kernel_rfl) ?_
          iterate 8 still_step
          refine wpStill_val rfl (run_strNe _ _ _ _ rfl x y rfl rfl true (by simpa using HX.out)) ?_
          refine wpStill_nil ?_
          go_wp2_with fail
          go_ret
          exact ⟨by rw [HD.out]; rfl, fr.drew⟩
      · obtain rfl : n = a.length := by omega
        have hlt' : decide ((a.length : Int) < (a.length : Int)) = false := by simp
        have HD : Hid (decide (a = b) = true) := by
          unfold Hid
          rw [decide_eq_true_eq]
          have := HT.out
          rwa [List.take_length, HL.out, List.take_length] at this
        go_wp2
        go_ret
        exact ⟨by rw [HD.out]; rfl, fr⟩
  · have HD : Hid (decide (a = b) = false) := by
      unfold Hid
      rw [decide_eq_false_iff_not]
      intro e
      exact hl (by rw [e])
    have hne : ((a.length : Int) == (b.length : Int)) = false := by simp; omega
    clear hl
    go_enter Tryz.func57, Tryz.ntmps57
    go_wp2
    go_ret
    exact ⟨by rw [HD.out]; rfl, Fr.refl _ _⟩

theorem pre_set (s : Bytes) (b : UInt8) (n : Nat) (h : s.length < n) : (cellsOf (s ++ zeros (n - s.length))).toArray.setIfInBounds s.length (.int .u8 b.toNat) = (cellsOf (s ++ [b] ++ zeros (n - (s.length + 1)))).toArray := by
  obtain ⟨m, hm⟩ : ∃ m, n - s.length = m + 1 := ⟨n - s.length - 1, by omega⟩
  have hm' : n - (s.length + 1) = m := by omega
  rw [hm, hm']
  have e : zeros (m + 1) = 0 :: zeros m := rfl
  rw [e]
  apply Array.ext'
  simp only [cellsOf, List.map_append, List.map_cons, List.map_nil, Array.toList_setIfInBounds]
  rw [List.set_append_right _ _ (by simp)]
  simp

theorem lFull_calls (c : UInt8) (n : Nat) (hn : n ≤ 1000) : Calls Tryz.prog 44 #[.int .u8 c.toNat, .int .i64 n] w fun e w' => e = .returned (str (List.replicate n c)) ∧ Fr [] w w' := by
  go_enter Tryz.func44, Tryz.ntmps44
  go_wp2_with (first | (with_reducible refine wpL_stop (o := ⟨_, .alloc 177, _, _, _, none⟩) ?_) | (with_reducible refine wpL_stop (o := ⟨_, .load 177 _, _, _, _, none⟩) ?_) | (with_reducible refine wpL_stop (o := ⟨_, .store 177 _ _, _, _, _, none⟩) ?_) | (with_reducible refine wpL_stop (o := ⟨_, .lookup _ _ _ _, _, _, _, none⟩) ?_) | (with_reducible refine wpL_stop (o := ⟨_, .box 177 _, _, _, _, none⟩) ?_) | (with_reducible refine wpL_stop (o := ⟨_, .next _ _, _, _, _, none⟩) ?_) | (with_reducible refine wpL_stop (o := ⟨_, .range _ _, _, _, _, none⟩) ?_) | (with_reducible refine wpL_stop (o := ⟨_, .mapUpdate _ _ _ _, _, _, _, none⟩) ?_) | (with_reducible refine wpL_stop (o := ⟨_, .convert 175 9 _, _, _, _, none⟩) ?_) | (with_reducible refine wpL_stop (o := ⟨_, .convert 9 175 _, _, _, _, none⟩) ?_) | (with_reducible refine wpL_stop (o := ⟨_, .call { callee := .builtin .copy, args := _, argTypes := _ }, _, _, _, none⟩) ?_) | (with_reducible refine wpL_stop (o := ⟨_, .call { callee := .builtin .append, args := _, argTypes := _ }, _, _, _, none⟩) ?_) | (with_reducible refine wpL_stop (o := ⟨_, .call { callee := .builtin .clear, args := _, argTypes := _ }, _, _, _, none⟩) ?_) | (with_reducible refine wpL_stop (o := ⟨_, .makeSlice _ _ _, _, _, _, none⟩) ?_) | (with_reducible refine wpL_stop (o := ⟨_, .makeMap _ _, _, _, _, none⟩) ?_) | (with_reducible refine wpL_stop (o := ⟨_, .entry _, _, _, _, none⟩) ?_) | (with_reducible refine wpL_stop (o := ⟨_, .call { callee := .builtin .max, args := _, argTypes := _ }, _, _, _, none⟩) ?_) | (with_reducible refine wpL_stop (o := ⟨_, .call { callee := .builtin .min, args := _, argTypes := _ }, _, _, _, none⟩) ?_) | (with_reducible refine wpL_stop (o := ⟨_, .slice 177 _ none (some _) none, _, _, _, none⟩) ?_) | (with_reducible refine wpL_stop (o := ⟨_, .binOp .add 9 _ _ _, _, _, _, none⟩) ?_) | (with_reducible refine wpL_stop (o := ⟨_, .slice 9 _ _ _ _, _, _, _, none⟩) ?_))
  refine unhold (wpL_makeBytes rfl _ _ rfl n (by omega) rfl rfl ?_)
  intro w1 g1 f1 s1
  go_wp2_with (first | (with_reducible refine wpL_stop (o := ⟨_, .alloc 177, _, _, _, none⟩) ?_) | (with_reducible refine wpL_stop (o := ⟨_, .load 177 _, _, _, _, none⟩) ?_) | (with_reducible refine wpL_stop (o := ⟨_, .store 177 _ _, _, _, _, none⟩) ?_) | (with_reducible refine wpL_stop (o := ⟨_, .lookup _ _ _ _, _, _, _, none⟩) ?_) | (with_reducible refine wpL_stop (o := ⟨_, .box 177 _, _, _, _, none⟩) ?_) | (with_reducible refine wpL_stop (o := ⟨_, .next _ _, _, _, _, none⟩) ?_) | (with_reducible refine wpL_stop (o := ⟨_, .range _ _, _, _, _, none⟩) ?_) | (with_reducible refine wpL_stop (o := ⟨_, .mapUpdate _ _ _ _, _, _, _, none⟩) ?_) | (with_reducible refine wpL_stop (o := ⟨_, .convert 175 9 _, _, _, _, none⟩) ?_) | (with_reducible refine wpL_stop (o := ⟨_, .convert 9 175 _, _, _, _, none⟩) ?_) | (with_reducible refine wpL_stop (o := ⟨_, .call { callee := .builtin .copy, args := _, argTypes := _ }, _, _, _, none⟩) ?_) | (with_reducible refine wpL_stop (o := ⟨_, .call { callee := .builtin .append, args := _, argTypes := _ }, _, _, _, none⟩) ?_) | (with_reducible refine wpL_stop (o := ⟨_, .call { callee := .builtin .clear, args := _, argTypes := _ }, _, _, _, none⟩) ?_) | (with_reducible refine wpL_stop (o := ⟨_, .makeSlice _ _ _, _, _, _, none⟩) ?_) | (with_reducible refine wpL_stop (o := ⟨_, .makeMap _ _, _, _, _, none⟩) ?_) | (with_reducible refine wpL_stop (o := ⟨_, .entry _, _, _, _, none⟩) ?_) | (with_reducible refine wpL_stop (o := ⟨_, .call { callee := .builtin .max, args := _, argTypes := _ }, _, _, _, none⟩) ?_) | (with_reducible refine wpL_stop (o := ⟨_, .call { callee := .builtin .min, args := _, argTypes := _ }, _, _, _, none⟩) ?_) | (with_reducible refine wpL_stop (o := ⟨_, .slice 177 _ none (some _) none, _, _, _, none⟩) ?_) | (with_reducible refine wpL_stop (o := ⟨_, .binOp .add 9 _ _ _, _, _, _, none⟩) ?_) | (with_reducible refine wpL_stop (o := ⟨_, .slice 9 _ _ _ _, _, _, _, none⟩) ?_))
  go_loopw [6] (fun i wr => ∃ j : Nat, i = .int .i64 j ∧ j ≤ n ∧ Hid (wr.heap[w.heap.size]? = some (.cells (cellsOf (List.replicate j c ++ zeros (n - j))).toArray 5 (0, 0))) ∧ Fr [] w wr) (fun i _ => n - (intOf i).toNat)
  case atStart => exact ⟨0, rfl, by omega, by simpa [Hid] using g1, f1⟩
  case round =>
    obtain ⟨j, rfl, hj, hg, fr⟩ := hrel
    by_cases hlt : j < n
    · have hlt' : (j : Int) < (n : Int) := by omega
      have hcell : ∃ v, wr.cell? ⟨w.heap.size, j, none⟩ = some v := by
        rw [cell_of_row wr _ j _ _ _ hg.out]
        have : j < (cellsOf (List.replicate j c ++ zeros (n - j))).length := by simp [cellsOf_length, zeros]; omega
        exact ⟨(cellsOf (List.replicate j c ++ zeros (n - j)))[j], by simp [this]⟩
      obtain ⟨v0, hcell⟩ := hcell
      have hfr := blk_free hg.out j
      have HS := Lib.hid (pre_set (List.replicate j c) c n (by simpa using hlt))
      go_wp2
      refine ⟨⟨j + 1, by go_num, by omega, ?_, fr.setCell (.inr (Nat.le_refl _)) _⟩, by simp [intOf]; omega⟩
      have := heap_setCell_same' wr w.heap.size j _ _ (.int .u8 c.toNat) hg.out
      unfold Hid
      have hs := HS.out
      rw [List.length_replicate] at hs
      rw [this, hs, ← List.replicate_succ']
    · obtain rfl : j = n := by omega
      go_wp2_with (first | (with_reducible refine wpL_stop (o := ⟨_, .alloc 177, _, _, _, none⟩) ?_) | (with_reducible refine wpL_stop (o := ⟨_, .load 177 _, _, _, _, none⟩) ?_) | (with_reducible refine wpL_stop (o := ⟨_, .store 177 _ _, _, _, _, none⟩) ?_) | (with_reducible refine wpL_stop (o := ⟨_, .lookup _ _ _ _, _, _, _, none⟩) ?_) | (with_reducible refine wpL_stop (o := ⟨_, .box 177 _, _, _, _, none⟩) ?_) | (with_reducible refine wpL_stop (o := ⟨_, .next _ _, _, _, _, none⟩) ?_) | (with_reducible refine wpL_stop (o := ⟨_, .range _ _, _, _, _, none⟩) ?_) | (with_reducible refine wpL_stop (o := ⟨_, .mapUpdate _ _ _ _, _, _, _, none⟩) ?_) | (with_reducible refine wpL_stop (o := ⟨_, .convert 175 9 _, _, _, _, none⟩) ?_) | (with_reducible refine wpL_stop (o := ⟨_, .convert 9 175 _, _, _, _, none⟩) ?_) | (with_reducible refine wpL_stop (o := ⟨_, .call { callee := .builtin .copy, args := _, argTypes := _ }, _, _, _, none⟩) ?_) | (with_reducible refine wpL_stop (o := ⟨_, .call { callee := .builtin .append, args := _, argTypes := _ }, _, _, _, none⟩) ?_) | (with_reducible refine wpL_stop (o := ⟨_, .call { callee := .builtin .clear, args := _, argTypes := _ }, _, _, _, none⟩) ?_) | (with_reducible refine wpL_stop (o := ⟨_, .makeSlice _ _ _, _, _, _, none⟩) ?_) | (with_reducible refine wpL_stop (o := ⟨_, .makeMap _ _, _, _, _, none⟩) ?_) | (with_reducible refine wpL_stop (o := ⟨_, .entry _, _, _, _, none⟩) ?_) | (with_reducible refine wpL_stop (o := ⟨_, .call { callee := .builtin .max, args := _, argTypes := _ }, _, _, _, none⟩) ?_) | (with_reducible refine wpL_stop (o := ⟨_, .call { callee := .builtin .min, args := _, argTypes := _ }, _, _, _, none⟩) ?_) | (with_reducible refine wpL_stop (o := ⟨_, .slice 177 _ none (some _) none, _, _, _, none⟩) ?_) | (with_reducible refine wpL_stop (o := ⟨_, .binOp .add 9 _ _ _, _, _, _, none⟩) ?_) | (with_reducible refine wpL_stop (o := ⟨_, .slice 9 _ _ _ _, _, _, _, none⟩) ?_))
      refine unhold (wpL_text rfl _ _ _ rfl 5 Tryz.underlying175 Tryz.underlying5 Tryz.underlying9 w.heap.size 0 j j rfl _ _ _ (List.replicate j c) hg.out (by simp) (by intro i hi; simp [zeros]) ?_)
      go_wp2
      go_ret
      exact ⟨rfl, fr⟩

theorem pwSize : (Tryz.prog.info? 92).map (·.size) = some 2 := by kernel_rfl
theorem set2 {w : World} {g : Nat} {a b x y : Value} {t : TypeId} (h : w.heap[g]? = some (.cells #[a, b] t (0, 0))) : ((w.setCell ⟨g, 0, none⟩ x).setCell ⟨g, 1, none⟩ y).heap[g]? = some (.cells #[x, y] t (0, 0)) := by
  have h1 := heap_setCell_same' w g 0 _ _ x h
  have h2 := heap_setCell_same' _ g 1 _ _ y h1
  simpa using h2
theorem lWrite_calls (p : Int) (c : UInt8) : Calls Tryz.prog 41 #[.int .i64 p, .int .u8 c.toNat] w fun e w' => e = .returned (.agg #[.int .i64 p, str (List.replicate 116 c)]) ∧ Fr [] w w' := by
  have hF := fun w' => lFull_calls (w := w') c 116 (by omega)
  generalize List.replicate 116 c = s at hF
  have F0 : Fr [] w (w.alloc (.cells #[.int .i64 0, .string ⟨#[]⟩] 92)) := (Fr.refl _ _).alloc _
  have G0 := heap_alloc_new w (.cells #[.int .i64 0, .string ⟨#[]⟩] 92)
  go_enter Tryz.func41, Tryz.ntmps41
  go_wp2_with fail
  refine (hF _).mono ?_
  rintro e w1 ⟨rfl, f1⟩
  have G1 := f1.heap G0 (by simp)
  have F1 := F0.trans f1
  have k0 : w1.cell? ⟨w.heap.size, 0, none⟩ = some (.int .i64 0) := blk_cell G1 0 rfl
  have k1 : w1.cell? ⟨w.heap.size, 1, none⟩ = some (.string ⟨#[]⟩) := blk_cell G1 1 rfl
  have z0 := blk_free G1 0
  have z1 := blk_free G1 1
  go_wp2_with fail
  exact bodyPost_row 4 92 rfl w.heap.size rfl _ [.int .i64 p, str s] _ _ (set2 G1) Tryz.underlying92 rfl pwSize rfl ⟨rfl, (F1.setCell (.inr (Nat.le_refl _)) _).setCell (.inr (Nat.le_refl _)) _⟩

section
variable {L : DL} {d : Disk} {pl : PL} {p : M.Pages}
end

/-- A text of an owned row is turned. -/
theorem strs_set {B g n c : Nat} {l : List Bytes} {s : Bytes} {j : Nat} (h : w.ownsRow B 9 1 (.slice (some ⟨g, 0, none⟩) n c) l.length (strs l)) (_hj : j < l.length) :
    (w.setCell ⟨g, j, none⟩ (str s)).ownsRow B 9 1 (.slice (some ⟨g, 0, none⟩) n c) (l.set j s).length (strs (l.set j s)) := by
  refine ⟨by simp [strs], ?_⟩
  rcases h.2 with ⟨h1, _⟩ | ⟨g', cap, cur, h1, h2, hgg, h3, h4, h5, h6⟩
  · cases h1
  · have e : g' = g := by
      injection h1 with e
      injection e with e
      injection e with e
      exact e.symm
    subst e
    refine .inr ⟨g', cap, cur.setIfInBounds j (str s), by rw [h1]; simp, h2, heap_setCell_same' _ _ _ _ _ _ hgg, by simpa using h3, h4, by simpa using h5, ?_⟩
    unfold strs at h6 ⊢
    rw [List.length_set, Array.toList_setIfInBounds, List.take_set, List.map_set, ← h6]

def chg (a : List Bytes) (x : PW) : List Bytes := if 0 ≤ x.1 ∧ x.1 < (a.length : Int) then a.set x.1.toNat x.2 else a
theorem chg_length (a : List Bytes) (x : PW) : (chg a x).length = a.length := by unfold chg; split <;> simp
theorem chgs_length (l : List PW) : ∀ a : List Bytes, (l.foldl chg a).length = a.length := by
  induction l with
  | nil => intro a; rfl
  | cons x l ih => intro a; rw [List.foldl_cons, ih, chg_length]

end
end Go.Proofs.YtpoagpaglocpeaaGreat
/- The writes of a step of a script. -/
namespace Go.Proofs.YtpoagpaglocpeaaGreat
set_option linter.unusedSimpArgs false
set_option linter.unusedVariables false
set_option linter.unnecessarySimpa false
open Go.RowKit M

def bbyte (b : UInt8) (i k : Nat) : UInt8 := b + UInt8.ofNat (i * k)
def bdata (b : UInt8) (i : Nat) : Bytes := (List.range 116).map (bbyte b i)
/-- The writes of a step. -/
def batch (pages : List Int) (b : UInt8) : List PW := ((List.range (min pages.length 20)).map fun i => (pages.getD i 0, bdata b i))

theorem batch_length (pages : List Int) (b : UInt8) : (batch pages b).length = min pages.length 20 := by simp [batch]
theorem batch_data {pages : List Int} {b : UInt8} : ∀ x ∈ batch pages b, x.2.length = 116 := by
  intro x hx
  unfold batch at hx
  obtain ⟨i, _, rfl⟩ := List.mem_map.1 hx
  simp [bdata]
theorem batch_page {pages : List Int} {b : UInt8} : ∀ x ∈ batch pages b, x.1 ∈ pages := by
  intro x hx
  unfold batch at hx
  obtain ⟨i, hi, rfl⟩ := List.mem_map.1 hx
  rw [List.mem_range] at hi
  simp only [List.getD]
  rw [List.getElem?_eq_getElem (show i < pages.length by omega)]
  exact List.getElem_mem _
theorem pwInfo' : (Tryz.prog.info? 92).map (fun i => (i.zero, i.size, i.bytes)) = some (some (.agg #[.int .i64 0, .string ⟨#[]⟩]), 2, 24) := by kernel_rfl

theorem bbyte_val (b : UInt8) (i k : Nat) : ((b.toNat : Int) + wrap64 ((i : Int) * (k : Int))) % 256 = ((bbyte b i k).toNat : Int) := by
  unfold bbyte
  rw [UInt8.toNat_add, UInt8.toNat_ofNat', ← Int.natCast_mul]
  generalize i * k = m
  unfold wrap64
  omega

theorem wpL_append_n {P : Program} {ops : Array Oper} {Q : Exit → Act → World → Prop} {a : Act} {w : World} {rest : List Oper} {o : Oper} (hgd : o.guard = none) (s x : Operand) (T : TypeId) (ho : o.op = .call { callee := .builtin .append, args := #[s, x], argTypes := #[T, T] })
    (base : Nat) (E : TypeId) (z : Value) (size bytes : Nat) (hT : P.underlying T = some (.slice E)) (info : (P.info? E).map (fun i => (i.zero, i.size, i.bytes)) = some (some z, size, bytes)) (hzs : z.cells.size = size) (hsz : 0 < size) (hby : bytes ≤ 4096)
    (v : Value) (n : Nat) (xs : List Value) (hs : a.eval s = v) (hown : w.ownsRow base E size v n xs)
    (g m c : Nat) (news : List Value) (hx : a.eval x = .slice (some ⟨g, 0, none⟩) m c) (hl : news.length = m * size) (t : TypeId) (cs : Array Value) (fz : Nat × Nat) (hg : w.heap[g]? = some (.cells cs t fz)) (hn : ∀ (j : Nat) u, news[j]? = some u → cs[j]? = some u) (h1 : ∀ u ∈ news, u.oneCell' = true)
    (hb : n + m ≤ 1000000000) (hbase : base ≤ w.heap.size)
    (h : ∀ v' w', w'.ownsRow base E size v' (n + m) (xs ++ news) → w.grownBy w' v.ownBlock → (v'.ownBlock = v.ownBlock ∨ v'.ownBlock = some w.heap.size) → wpList P ops Q rest (a.put o.dst v') w') :
    wpList P ops Q (o :: rest) a w := by
  cases hq : P.info? E with
  | none => simp [hq] at info
  | some i =>
    obtain ⟨hz, hsi, hbi⟩ : i.zero = some z ∧ i.size = size ∧ i.bytes = bytes := by simpa [hq] using info
    have hbytes : (n + m) * bytes ≤ 140737488355328 := by
      calc (n + m) * bytes ≤ 1000000000 * 4096 := Nat.mul_le_mul hb hby
        _ ≤ 140737488355328 := by omega
    refine wpList_append_own_at w hgd s x T ho base E i z size bytes hT hq hz hsi hbi hzs hsz v n xs hs hown ⟨g, 0, none⟩ m c news hx hl ?_ h1 (by unfold maxLen; omega) hbytes hbase ?_
    · intro j u hj
      rw [addr_add, cell_of_row w g _ cs t fz hg, Nat.zero_add]
      exact hn j u hj
    · intro v' w' h2 h3 _ h5
      exact h v' w' h2 h3 h5

section
variable {w : World}
set_option maxRecDepth 100000 in
theorem rBatch_calls {B : Nat → Prop} {pv kv : Value} {pages : List Int} (b : UInt8) (kd nn : Int) (hp : IntsAt B w pv pages) :
    Calls Tryz.prog 52 #[.agg #[.int .i64 kd, pv, .int .u8 b.toNat, .int .i64 nn, kv]] w fun e w' => ∃ v, e = .returned v ∧ w'.ownsRow w.heap.size 92 2 v (batch pages b).length (pwv (batch pages b)) ∧ Fr [] w w' := by
  obtain ⟨A, pc, rfl, hpc⟩ := id hp
  have HL := Lib.hid (batch_length pages b)
  go_enter Tryz.func52, Tryz.ntmps52
  go_wp2_with (first | (with_reducible refine wpL_stop (o := ⟨_, .alloc 177, _, _, _, none⟩) ?_) | (with_reducible refine wpL_stop (o := ⟨_, .load 177 _, _, _, _, none⟩) ?_) | (with_reducible refine wpL_stop (o := ⟨_, .store 177 _ _, _, _, _, none⟩) ?_) | (with_reducible refine wpL_stop (o := ⟨_, .lookup _ _ _ _, _, _, _, none⟩) ?_) | (with_reducible refine wpL_stop (o := ⟨_, .box 177 _, _, _, _, none⟩) ?_) | (with_reducible refine wpL_stop (o := ⟨_, .next _ _, _, _, _, none⟩) ?_) | (with_reducible refine wpL_stop (o := ⟨_, .range _ _, _, _, _, none⟩) ?_) | (with_reducible refine wpL_stop (o := ⟨_, .mapUpdate _ _ _ _, _, _, _, none⟩) ?_) | (with_reducible refine wpL_stop (o := ⟨_, .convert 175 9 _, _, _, _, none⟩) ?_) | (with_reducible refine wpL_stop (o := ⟨_, .convert 9 175 _, _, _, _, none⟩) ?_) | (with_reducible refine wpL_stop (o := ⟨_, .call { callee := .builtin .copy, args := _, argTypes := _ }, _, _, _, none⟩) ?_) | (with_reducible refine wpL_stop (o := ⟨_, .call { callee := .builtin .append, args := _, argTypes := _ }, _, _, _, none⟩) ?_) | (with_reducible refine wpL_stop (o := ⟨_, .call { callee := .builtin .clear, args := _, argTypes := _ }, _, _, _, none⟩) ?_) | (with_reducible refine wpL_stop (o := ⟨_, .makeSlice _ _ _, _, _, _, none⟩) ?_) | (with_reducible refine wpL_stop (o := ⟨_, .makeMap _ _, _, _, _, none⟩) ?_) | (with_reducible refine wpL_stop (o := ⟨_, .entry _, _, _, _, none⟩) ?_) | (with_reducible refine wpL_stop (o := ⟨_, .call { callee := .builtin .max, args := _, argTypes := _ }, _, _, _, none⟩) ?_) | (with_reducible refine wpL_stop (o := ⟨_, .call { callee := .builtin .min, args := _, argTypes := _ }, _, _, _, none⟩) ?_) | (with_reducible refine wpL_stop (o := ⟨_, .slice 177 _ none (some _) none, _, _, _, none⟩) ?_) | (with_reducible refine wpL_stop (o := ⟨_, .binOp .add 9 _ _ _, _, _, _, none⟩) ?_) | (with_reducible refine wpL_stop (o := ⟨_, .slice 9 _ _ _ _, _, _, _, none⟩) ?_))
  have G0 := heap_alloc_new w (.cells #[.int .i64 kd, .slice A pages.length pc, .int .u8 b.toNat, .int .i64 nn, kv] 49)
  have F0 := (Fr.refl [] w).alloc (.cells #[.int .i64 kd, .slice A pages.length pc, .int .u8 b.toNat, .int .i64 nn, kv] 49)
  have hp0 := hp.fr F0 (by simp)
  have hs0 : w.heap.size < (w.alloc (.cells #[.int .i64 kd, .slice A pages.length pc, .int .u8 b.toNat, .int .i64 nn, kv] 49)).heap.size := lt_of_heap G0
  clear hpc
  generalize w.alloc (.cells #[.int .i64 kd, .slice A pages.length pc, .int .u8 b.toNat, .int .i64 nn, kv] 49) = w1 at G0 F0 hp0 hs0 ⊢
  go_loopg [3, 4] (min pages.length 20) (fun kq v i w' => ∃ n : Nat, i = .int .i64 n ∧ Hid (n ≤ min pages.length 20) ∧ Hid (kq + n = min pages.length 20) ∧ w'.ownsRow w1.heap.size 92 2 v n (pwv ((batch pages b).take n)) ∧ Fr [] w1 w')
  case atStart => exact ⟨0, rfl, by simp [Hid], by simp [Hid], World.ownsRow_nil _ _ _ _, Fr.refl _ _⟩
  case round =>
    rename World => wo
    obtain ⟨n, rfl, hn, hk, R, fr⟩ := hrel
    have Gr := fr.heap G0 (by simp)
    have hpr := hp0.fr fr (by simp)
    have c1 : wo.cell? ⟨w.heap.size, 1, none⟩ = some (.slice A pages.length pc) := blk_cell Gr 1 rfl
    by_cases hA : n < pages.length
    · have hA' : (n : Int) < (pages.length : Int) := by omega
      by_cases h20 : n < 20
      · have h20' : (n : Int) < 20 := by omega
        have HN : Hid ((batch pages b).take (n + 1) = (batch pages b).take n ++ [(pages[n], bdata b n)]) := by
          refine take_snoc ?_
          unfold batch
          rw [List.getElem?_map, List.getElem?_range (by omega)]
          simp [List.getD, hA]
        obtain ⟨A', pc', hA1, hcc⟩ := id hpr
        obtain ⟨A2, pc2, hA3, hcc2⟩ := id hp
        obtain ⟨ad, hA2, _, hcell⟩ := hcc n hA
        obtain ⟨ad2, hA4, _, hcell2⟩ := hcc2 n hA
        simp only [Value.slice.injEq, true_and] at hA1 hA3
        obtain ⟨rfl, rfl⟩ := hA1
        obtain ⟨rfl, rfl⟩ := hA3
        subst hA2
        obtain rfl : ad = ad2 := by simpa using hA4
        have hadB : ad.block < w.heap.size := by have := World.block_lt_of_cell? _ _ hcell2; rwa [add_block] at this
        clear hcell2 hcc2
        clear hcc
        generalize pages[n] = x at HN hcell
        generalize (batch pages b).take n = bt at R HN
        go_wp2_with (first | (with_reducible refine wpL_stop (o := ⟨_, .alloc 177, _, _, _, none⟩) ?_) | (with_reducible refine wpL_stop (o := ⟨_, .load 177 _, _, _, _, none⟩) ?_) | (with_reducible refine wpL_stop (o := ⟨_, .store 177 _ _, _, _, _, none⟩) ?_) | (with_reducible refine wpL_stop (o := ⟨_, .lookup _ _ _ _, _, _, _, none⟩) ?_) | (with_reducible refine wpL_stop (o := ⟨_, .box 177 _, _, _, _, none⟩) ?_) | (with_reducible refine wpL_stop (o := ⟨_, .next _ _, _, _, _, none⟩) ?_) | (with_reducible refine wpL_stop (o := ⟨_, .range _ _, _, _, _, none⟩) ?_) | (with_reducible refine wpL_stop (o := ⟨_, .mapUpdate _ _ _ _, _, _, _, none⟩) ?_) | (with_reducible refine wpL_stop (o := ⟨_, .convert 175 9 _, _, _, _, none⟩) ?_) | (with_reducible refine wpL_stop (o := ⟨_, .convert 9 175 _, _, _, _, none⟩) ?_) | (with_reducible refine wpL_stop (o := ⟨_, .call { callee := .builtin .copy, args := _, argTypes := _ }, _, _, _, none⟩) ?_) | (with_reducible refine wpL_stop (o := ⟨_, .call { callee := .builtin .append, args := _, argTypes := _ }, _, _, _, none⟩) ?_) | (with_reducible refine wpL_stop (o := ⟨_, .call { callee := .builtin .clear, args := _, argTypes := _ }, _, _, _, none⟩) ?_) | (with_reducible refine wpL_stop (o := ⟨_, .makeSlice _ _ _, _, _, _, none⟩) ?_) | (with_reducible refine wpL_stop (o := ⟨_, .makeMap _ _, _, _, _, none⟩) ?_) | (with_reducible refine wpL_stop (o := ⟨_, .entry _, _, _, _, none⟩) ?_) | (with_reducible refine wpL_stop (o := ⟨_, .call { callee := .builtin .max, args := _, argTypes := _ }, _, _, _, none⟩) ?_) | (with_reducible refine wpL_stop (o := ⟨_, .call { callee := .builtin .min, args := _, argTypes := _ }, _, _, _, none⟩) ?_) | (with_reducible refine wpL_stop (o := ⟨_, .slice 177 _ none (some _) none, _, _, _, none⟩) ?_) | (with_reducible refine wpL_stop (o := ⟨_, .binOp .add 9 _ _ _, _, _, _, none⟩) ?_) | (with_reducible refine wpL_stop (o := ⟨_, .slice 9 _ _ _ _, _, _, _, none⟩) ?_))
        refine unhold (wpL_makeBytes rfl _ _ rfl 116 (by omega) rfl rfl ?_)
        intro w2 g2 f2 s2
        go_wp2_with (first | (with_reducible refine wpL_stop (o := ⟨_, .alloc 177, _, _, _, none⟩) ?_) | (with_reducible refine wpL_stop (o := ⟨_, .load 177 _, _, _, _, none⟩) ?_) | (with_reducible refine wpL_stop (o := ⟨_, .store 177 _ _, _, _, _, none⟩) ?_) | (with_reducible refine wpL_stop (o := ⟨_, .lookup _ _ _ _, _, _, _, none⟩) ?_) | (with_reducible refine wpL_stop (o := ⟨_, .box 177 _, _, _, _, none⟩) ?_) | (with_reducible refine wpL_stop (o := ⟨_, .next _ _, _, _, _, none⟩) ?_) | (with_reducible refine wpL_stop (o := ⟨_, .range _ _, _, _, _, none⟩) ?_) | (with_reducible refine wpL_stop (o := ⟨_, .mapUpdate _ _ _ _, _, _, _, none⟩) ?_) | (with_reducible refine wpL_stop (o := ⟨_, .convert 175 9 _, _, _, _, none⟩) ?_) | (with_reducible refine wpL_stop (o := ⟨_, .convert 9 175 _, _, _, _, none⟩) ?_) | (with_reducible refine wpL_stop (o := ⟨_, .call { callee := .builtin .copy, args := _, argTypes := _ }, _, _, _, none⟩) ?_) | (with_reducible refine wpL_stop (o := ⟨_, .call { callee := .builtin .append, args := _, argTypes := _ }, _, _, _, none⟩) ?_) | (with_reducible refine wpL_stop (o := ⟨_, .call { callee := .builtin .clear, args := _, argTypes := _ }, _, _, _, none⟩) ?_) | (with_reducible refine wpL_stop (o := ⟨_, .makeSlice _ _ _, _, _, _, none⟩) ?_) | (with_reducible refine wpL_stop (o := ⟨_, .makeMap _ _, _, _, _, none⟩) ?_) | (with_reducible refine wpL_stop (o := ⟨_, .entry _, _, _, _, none⟩) ?_) | (with_reducible refine wpL_stop (o := ⟨_, .call { callee := .builtin .max, args := _, argTypes := _ }, _, _, _, none⟩) ?_) | (with_reducible refine wpL_stop (o := ⟨_, .call { callee := .builtin .min, args := _, argTypes := _ }, _, _, _, none⟩) ?_) | (with_reducible refine wpL_stop (o := ⟨_, .slice 177 _ none (some _) none, _, _, _, none⟩) ?_) | (with_reducible refine wpL_stop (o := ⟨_, .binOp .add 9 _ _ _, _, _, _, none⟩) ?_) | (with_reducible refine wpL_stop (o := ⟨_, .slice 9 _ _ _ _, _, _, _, none⟩) ?_))
        go_loopw [6] (fun i w3 => ∃ j : Nat, i = .int .i64 j ∧ j ≤ 116 ∧ Hid (w3.heap[wo.heap.size]? = some (.cells (cellsOf ((List.range j).map (bbyte b n) ++ zeros (116 - j))).toArray 5 (0, 0))) ∧ Fr [] wo w3) (fun i _ => 116 - (intOf i).toNat)
        case atStart => exact ⟨0, rfl, by omega, by simpa [Hid] using g2, f2⟩
        case round =>
          obtain ⟨j, rfl, hj, hg, f3⟩ := hrel
          have Gr3 := f3.heap Gr (by simp)
          have c2 : wr.cell? ⟨w.heap.size, 2, none⟩ = some (.int .u8 b.toNat) := blk_cell Gr3 2 rfl
          by_cases hlt : j < 116
          · have hlt' : (j : Int) < 116 := by omega
            have hcl : ∃ v, wr.cell? ⟨wo.heap.size, j, none⟩ = some v := by
              rw [cell_of_row wr _ j _ _ _ hg.out]
              have : j < (cellsOf ((List.range j).map (bbyte b n) ++ zeros (116 - j))).length := by simp [cellsOf_length, zeros]; omega
              exact ⟨(cellsOf ((List.range j).map (bbyte b n) ++ zeros (116 - j)))[j], by simp [this]⟩
            obtain ⟨v0, hcl⟩ := hcl
            have hfr := blk_free hg.out j
            have hbv := bbyte_val b n j
            have HV := Lib.hid hbv
            clear hbv
            go_wp2_with fail
            rw [HV.out]
            have hpre := pre_set ((List.range j).map (bbyte b n)) (bbyte b n j) 116 (by simp; omega)
            rw [List.length_map, List.length_range] at hpre
            refine ⟨⟨j + 1, by go_num, by omega, ?_, f3.setCell (.inr (Nat.le_refl _)) _⟩, by simp [intOf]; omega⟩
            have := heap_setCell_same' wr wo.heap.size j _ _ (.int .u8 (bbyte b n j).toNat) hg.out
            unfold Hid
            rw [this, hpre, List.range_succ, List.map_append]
            rfl
          · obtain rfl : j = 116 := by omega
            have hg := hg.out
            rw [show (cellsOf ((List.range 116).map (bbyte b n) ++ zeros (116 - 116))).toArray = (cellsOf (bdata b n)).toArray by simp [bdata, zeros]] at hg
            have hbl : (bdata b n).length = 116 := by simp [bdata]
            generalize bdata b n = bs at hg hbl HN
            have hbl := Lib.hid hbl
            have c1 : wr.cell? ⟨w.heap.size, 1, none⟩ = some (.slice (some ad) pages.length pc) := blk_cell Gr3 1 rfl
            have hcell3 : wr.cell? (ad.add n) = some (.int .i64 x) := by
              rw [World.cell?_of_block (f3.block _ (World.block_lt_of_cell? _ _ hcell) (by simp))]
              exact hcell
            have R3 := ownsRow_fr' R f3 (by simp)
            have fr3 := fr.trans f3
            go_wp2_with fail
            refine wp_region_keep (fun w' => w'.cell? ⟨w.heap.size, 1, none⟩ = some (.slice (some ad) pages.length pc) ∧ w'.cell? (ad.add n) = some (.int .i64 x) ∧ w'.heap[wo.heap.size]? = some (.cells (cellsOf bs).toArray 5 (0, 0))) 11 (by kernel_rfl) ?_
            have hS : wr.drew.cell? ⟨w.heap.size, 1, none⟩ = some (.slice (some ad) pages.length pc) ∧ wr.drew.cell? (ad.add n) = some (.int .i64 x) ∧ wr.drew.heap[wo.heap.size]? = some (.cells (cellsOf bs).toArray 5 (0, 0)) := ⟨c1, hcell3, hg⟩
            refine keepTake (i := 0) (v := ?_) (a' := ?_) rfl (by kernel_rfl) (by kernel_rfl) (by kernel_rfl) (by kernel_rfl) (by kernel_rfl) (by kernel_rfl) (fun w hSw => ?_) hS ?_ ?_
            rotate_left 2
            · (try dsimp only at hSw); (try (have hSa := hSw.1; have hSb := hSw.2)); (try (have hSc := hSb.1; have hSd := hSb.2)); go_simp; with_reducible rfl
            · go_simp; with_reducible rfl
            refine keepTake (i := 1) (v := ?_) (a' := ?_) rfl (by kernel_rfl) (by kernel_rfl) (by kernel_rfl) (by kernel_rfl) (by kernel_rfl) (by kernel_rfl) (fun w hSw => ?_) hS ?_ ?_
            rotate_left 2
            · (try dsimp only at hSw); (try (have hSa := hSw.1; have hSb := hSw.2)); (try (have hSc := hSb.1; have hSd := hSb.2)); go_simp; with_reducible rfl
            · go_simp; with_reducible rfl
            refine keepTake (i := 2) (v := ?_) (a' := ?_) rfl (by kernel_rfl) (by kernel_rfl) (by kernel_rfl) (by kernel_rfl) (by kernel_rfl) (by kernel_rfl) (fun w hSw => ?_) hS ?_ ?_
            rotate_left 2
            · (try dsimp only at hSw); (try (have hSa := hSw.1; have hSb := hSw.2)); (try (have hSc := hSb.1; have hSd := hSb.2)); go_simp; with_reducible rfl
            · go_simp; with_reducible rfl
            refine keepTake (i := 3) (v := ?_) (a' := ?_) rfl (by kernel_rfl) (by kernel_rfl) (by kernel_rfl) (by kernel_rfl) (by kernel_rfl) (by kernel_rfl) (fun w hSw => ?_) hS ?_ ?_
            rotate_left 2
            · (try dsimp only at hSw); (try (have hSa := hSw.1; have hSb := hSw.2)); (try (have hSc := hSb.1; have hSd := hSb.2)); go_simp; with_reducible rfl
            · go_simp; with_reducible rfl
            refine keepTake (i := 4) (v := ?_) (a' := ?_) rfl (by kernel_rfl) (by kernel_rfl) (by kernel_rfl) (by kernel_rfl) (by kernel_rfl) (by kernel_rfl) (fun w hSw => ?_) hS ?_ ?_
            rotate_left 2
            · (try dsimp only at hSw); (try (have hSa := hSw.1; have hSb := hSw.2)); (try (have hSc := hSb.1; have hSd := hSb.2)); go_simp; with_reducible rfl
            · go_simp; with_reducible rfl
            refine keepTake (i := 5) (v := ?_) (a' := ?_) rfl (by kernel_rfl) (by kernel_rfl) (by kernel_rfl) (by kernel_rfl) (by kernel_rfl) (by kernel_rfl) (fun w hSw => ?_) hS ?_ ?_
            rotate_left 2
            · (try dsimp only at hSw); (try (have hSa := hSw.1; have hSb := hSw.2)); (try (have hSc := hSb.1; have hSd := hSb.2)); go_simp; with_reducible rfl
            · go_simp; with_reducible rfl
            refine keepTake (i := 6) (v := ?_) (a' := ?_) rfl (by kernel_rfl) (by kernel_rfl) (by kernel_rfl) (by kernel_rfl) (by kernel_rfl) (by kernel_rfl) (fun w hSw => ?_) hS ?_ ?_
            rotate_left 2
            · (try dsimp only at hSw); (try (have hSa := hSw.1; have hSb := hSw.2)); (try (have hSc := hSb.1; have hSd := hSb.2)); go_simp; with_reducible rfl
            · go_simp; with_reducible rfl
            refine keepTake (i := 7) (v := str bs) (a' := ?_) rfl (by kernel_rfl) (by kernel_rfl) (by kernel_rfl) (by kernel_rfl) (by kernel_rfl) (by kernel_rfl) (fun w' hSw => ?_) hS ?_ ?_
            rotate_left 1
            · exact run_text _ _ _ rfl 5 Tryz.underlying175 Tryz.underlying5 Tryz.underlying9 wo.heap.size 0 116 116 rfl _ _ _ bs hSw.2.2 hbl.out (by intro j hj; rw [Nat.zero_add]; simp)
            · go_simp; with_reducible rfl
            refine keepTake (i := 8) (v := ?_) (a' := ?_) rfl (by kernel_rfl) (by kernel_rfl) (by kernel_rfl) (by kernel_rfl) (by kernel_rfl) (by kernel_rfl) (fun w hSw => ?_) hS ?_ ?_
            rotate_left 2
            · (try dsimp only at hSw); (try (have hSa := hSw.1; have hSb := hSw.2)); (try (have hSc := hSb.1; have hSd := hSb.2)); go_simp; with_reducible rfl
            · go_simp; with_reducible rfl
            refine keepReady (rs := [9]) (by kernel_rfl) (by simp) ?_
            refine AllK.cons rfl (fun K hK => ?_) AllK.nil
            go_simp
            have f4 : Fr [] wr (wr.alloc (.cells #[.int .i64 x, str bs] 92)).drew := ((Fr.refl [] wr).alloc _).drew
            have hg4 := heap_alloc_new wr (.cells #[.int .i64 x, str bs] 92)
            have fd : Fr [] wr wr.drew := (Fr.refl [] wr).drew
            have hS : (wr.alloc (.cells #[.int .i64 x, str bs] 92)).drew.cell? ⟨w.heap.size, 1, none⟩ = some (.slice (some ad) pages.length pc) ∧ (wr.alloc (.cells #[.int .i64 x, str bs] 92)).drew.cell? (ad.add n) = some (.int .i64 x) ∧ (wr.alloc (.cells #[.int .i64 x, str bs] 92)).drew.heap[wo.heap.size]? = some (.cells (cellsOf bs).toArray 5 (0, 0)) :=
              ⟨cell_fr f4 c1 (by simp), by rw [World.cell?_of_block (f4.block _ (World.block_lt_of_cell? _ _ hcell3) (by simp))]; exact hcell3, f4.heap hg (by simp)⟩
            try dsimp only
            refine hK _ _ (fun _ => hS) ?_
            clear hK K
            try simp only [Act.put, List.setIfInBounds_toArray, List.set_cons_zero, List.set_cons_succ]
            have R4 := ownsRow_fr' R3 f4 (by simp)
            have hg4 : (wr.alloc (.cells #[.int .i64 x, str bs] 92)).drew.heap[wr.heap.size]? = _ := hg4
            have F4 := fr3.trans f4
            generalize (wr.alloc (.cells #[.int .i64 x, str bs] 92)).drew = w4 at f4 F4 hg4 hS R4 ⊢
            refine keepReady (rs := [10]) (by kernel_rfl) (by simp) ?_
            refine AllK.cons rfl (fun K hK => ?_) AllK.nil
            refine step_append_n rfl _ _ 94 rfl w1.heap.size 92 _ 2 24 Tryz.underlying94 pwInfo' rfl (by decide) (by decide) u3 n (pwv bt) rfl R4 wr.heap.size 1 1 [.int .i64 x, str bs] rfl rfl _ _ _ hg4 (by intro j u hj; simpa using hj) (by simp [Value.oneCell']) (by omega) F4.size ?_
            intro v5 w5 hown5 hgr5 hat5
            have f5 : Fr [] w1 w5 := F4.grown hgr5 (fun j e => .inr ((R4.lt j e).1))
            have hS : w5.cell? ⟨w.heap.size, 1, none⟩ = some (.slice (some ad) pages.length pc) ∧ w5.cell? (ad.add n) = some (.int .i64 x) ∧ w5.heap[wo.heap.size]? = some (.cells (cellsOf bs).toArray 5 (0, 0)) := by
              have fo : ∀ k o, w4.heap[k]? = some o → (u3.ownBlock ≠ some k) → w5.heap[k]? = some o := fun k o h1 h2 => (hgr5.block k (lt_of_heap h1) (fun e => h2 e.symm)).trans h1
              refine ⟨?_, ?_, ?_⟩
              · rw [World.cell?_of_block (hgr5.block _ (World.block_lt_of_cell? _ _ hS.1) (fun e => by have := (R4.lt _ e.symm).1; simp at this; omega))]
                exact hS.1
              · rw [World.cell?_of_block (hgr5.block _ (World.block_lt_of_cell? _ _ hS.2.1) (fun e => by have := (R4.lt _ e.symm).1; rw [add_block] at this; omega))]
                exact hS.2.1
              · exact fo _ _ hS.2.2 (fun e => by have := (R.lt _ e).2; omega)
            try dsimp only
            refine hK _ _ (fun _ => hS) ?_
            clear hK K
            try simp only [Act.put, List.setIfInBounds_toArray, List.set_cons_zero, List.set_cons_succ]
            refine keepReady (rs := [11]) (by kernel_rfl) (by simp) ?_
            refine AllK.cons rfl (fun K hK => ?_) AllK.nil
            go_simp
            try dsimp only
            refine hK _ _ (fun h => absurd rfl h) ?_
            clear hK K
            try simp only [Act.put, List.setIfInBounds_toArray, List.set_cons_zero, List.set_cons_succ]
            refine keepDone (by kernel_rfl) ?_ _
            go_wp2_with fail
            go_roundg (gk - 1)
            case measure => have := hk.out; omega
            case rel =>
              refine ⟨n + 1, by go_num, by have := hn.out; unfold Hid; omega, by have := hk.out; unfold Hid; omega, ?_, f5⟩
              rw [HN.out]
              have e : pwv (bt ++ [(x, bs)]) = pwv bt ++ [.int .i64 x, str bs] := by simp [pwv]
              rw [e]
              exact hown5
      · have hn20 : n = 20 := by have := hn.out; omega
        subst hn20
        have HE : Hid ((batch pages b).take 20 = batch pages b ∧ (batch pages b).length = 20) := by
          have := HL.out
          exact ⟨List.take_of_length_le (by omega), by omega⟩
        have h20' : decide ((20 : Int) < 20) = false := by simp
        rw [HE.out.1] at R
        go_wp2_with fail
        go_ret
        refine ⟨_, rfl, ?_, F0.trans fr⟩
        rw [HE.out.2]
        exact ownsRow_low R (by omega)
    · have hnl : n = pages.length := by have := hn.out; omega
      subst hnl
      have HE : Hid ((batch pages b).take pages.length = batch pages b ∧ (batch pages b).length = pages.length) := by
        have := HL.out
        have := hn.out
        exact ⟨List.take_of_length_le (by omega), by omega⟩
      have hA' : decide ((pages.length : Int) < (pages.length : Int)) = false := by simp
      rw [HE.out.1] at R
      go_wp2_with fail
      go_ret
      refine ⟨_, rfl, ?_, F0.trans fr⟩
      rw [HE.out.2]
      exact ownsRow_low R (by omega)
end
end Go.Proofs.YtpoagpaglocpeaaGreat
