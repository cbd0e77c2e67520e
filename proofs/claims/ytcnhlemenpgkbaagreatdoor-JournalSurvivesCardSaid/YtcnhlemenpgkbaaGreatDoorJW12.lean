/- The law's helpers: equal lists; texts; opened; begin. -/
import Derived.Test.YtcnhlemenpgkbaaGreatDoorJW10
import Derived.Test.YtcnhlemenpgkbaaGreatDoorJourP
namespace Go.Proofs.YtcnhlemenpgkbaaGreatDoor
set_option linter.unusedSimpArgs false
set_option linter.unusedVariables false
set_option linter.unnecessarySimpa false
open Go.RowKit M

section
variable {w : World}

set_option maxRecDepth 100000 in
theorem vSame_calls {B B' : Nat} {u v : Value} {a b : List Bytes} (ha : w.ownsRow B 9 1 u a.length (strs a)) (hb : w.ownsRow B' 9 1 v b.length (strs b)) (hfew : a.length ≤ 100000) :
    Calls Tryz.prog 11 #[u, v] w fun e w' => e = .returned (.bool (decide (a = b))) ∧ Fr [] w w' := by
  obtain ⟨up, uc, rfl⟩ := ownsRow_len ha
  obtain ⟨vp, vc, rfl⟩ := ownsRow_len hb
  by_cases hl : a.length = b.length
  · rw [← hl]
    rw [← hl] at hb
    have HL := Lib.hid hl
    clear hl
    go_enter Tryz.func11, Tryz.ntmps11
    go_wp2_with fail
    go_loopg [5] a.length (fun kq i w' => ∃ n : Nat, i = .int .i64 n ∧ n ≤ a.length ∧ Hid (kq + n = a.length) ∧ Hid (a.take n = b.take n) ∧ Fr [] w w')
    case atStart => exact ⟨0, rfl, by omega, by simp [Hid], by simp [Hid], Fr.refl _ _⟩
    case round =>
      obtain ⟨n, rfl, hn, hk, HT, fr⟩ := hrel
      by_cases hlt : n < a.length
      · have hlt' : (n : Int) < (a.length : Int) := by omega
        have hxa : a[n]? = some a[n] := List.getElem?_eq_getElem hlt
        have hxb : b[n]? = some (b[n]'(by have := HL.out; omega)) := List.getElem?_eq_getElem (by have := HL.out; omega)
        obtain ⟨g1, rfl, _, hc1⟩ := own_cell_fr (ownsRow_low ha (Nat.zero_le _)) fr (by simp) (j := n) (v := str a[n]) (by simp [strs, hxa])
        obtain ⟨g2, rfl, _, hc2⟩ := own_cell_fr (ownsRow_low hb (Nat.zero_le _)) fr (by simp) (j := n) (v := str (b[n]'(by have := HL.out; omega))) (by simp [strs, hxb])
        have HA : Hid (a.take (n + 1) = a.take n ++ [a[n]]) := take_snoc hxa
        have HB : Hid (b.take (n + 1) = b.take n ++ [b[n]'(by have := HL.out; omega)]) := take_snoc hxb
        have hnb : n < b.length := by have := HL.out; omega
        have HG : Hid (a[n]? = some a[n] ∧ b[n]? = some (b[n]'hnb)) := ⟨hxa, hxb⟩
        generalize a[n] = x at hc1 HA HG
        generalize b[n]'(by have := HL.out; omega) = y at hc2 HB HG
        clear hxa hxb
        by_cases hxy : x = y
        · subst hxy
          go_wp2_with fail
          refine wp_region_still_lit (by kernel_rfl) (by kernel_rfl) ?_
          iterate 8 still_step
          refine wpStill_val rfl (run_strNe _ _ _ _ rfl x x rfl rfl false (by simp)) ?_
          refine wpStill_nil ?_
          go_wp2_with fail
          go_roundg (gk - 1)
          case measure => have := hk.out; omega
          case rel =>
            refine ⟨n + 1, by go_num, by omega, by have := hk.out; unfold Hid; omega, ?_, fr.drew⟩
            unfold Hid
            rw [HA.out, HB.out, HT.out]
        · have HX := Lib.hid hxy
          have HD : Hid (decide (a = b) = false) := by
            unfold Hid
            rw [decide_eq_false_iff_not]
            intro e
            subst e
            have := HG.out
            exact HX.out (Option.some.inj (this.1.symm.trans this.2))
          clear hxy
          go_wp2_with fail
          refine wp_region_still_lit (by kernel_rfl) (by kernel_rfl) ?_
          iterate 8 still_step
          refine wpStill_val rfl (run_strNe _ _ _ _ rfl x y rfl rfl true (by simpa using HX.out)) ?_
          refine wpStill_nil ?_
          go_wp2_with fail
          go_ret
          exact ⟨by rw [HD.out]; rfl, fr.drew⟩
      · obtain rfl : n = a.length := by omega
        have hlt' : decide ((a.length : Int) < (a.length : Int)) = false := by simp
        have HD : Hid (decide (a = b) = true) := by
          unfold Hid
          rw [decide_eq_true_eq]
          have := HT.out
          rwa [List.take_length, HL.out, List.take_length] at this
        go_wp2
        go_ret
        exact ⟨by rw [HD.out]; rfl, fr⟩
  · have HD : Hid (decide (a = b) = false) := by
      unfold Hid
      rw [decide_eq_false_iff_not]
      intro e
      exact hl (by rw [e])
    have hne : ((a.length : Int) == (b.length : Int)) = false := by simp; omega
    clear hl
    go_enter Tryz.func11, Tryz.ntmps11
    go_wp2
    go_ret
    exact ⟨by rw [HD.out]; rfl, Fr.refl _ _⟩


theorem run_convert_nil {P : Program} {w : World} (src dst e : TypeId) (hs : P.underlying src = some (.slice e)) (he : P.underlying e = some (.int .u8)) (hd : P.underlying dst = some .string) : (convert src dst (.slice none 0 0)).run P w = .ok (.string ⟨#[]⟩) w := by
  simp [convert, run_underlying hs, run_underlying he, run_underlying hd, Sem.run_bind, Result.andThen, loadCells, loadCellsFrom, Conv.bytesToString]
  try rfl
theorem wpL_textNil {P : Program} {ops : Array Oper} {Q : Exit → Act → World → Prop} {a : Act} {w : World} {rest : List Oper} {o : Oper} (hgd : o.guard = none) (src dst : TypeId) (x : Operand) (ho : o.op = .convert src dst x) (e : TypeId) (hs : P.underlying src = some (.slice e)) (he : P.underlying e = some (.int .u8)) (hd : P.underlying dst = some .string)
    (hx : a.eval x = .slice none 0 0) (h : wpList P ops Q rest (a.put o.dst (str [])) w) : wpList P ops Q (o :: rest) a w := by
  refine wpL_val hgd ?_ h
  unfold execOp
  simp only [ho, hx, Sem.run_bind, run_convert_nil src dst e hs he hd, Result.andThen_ok]
  rfl
/-- The text of a step. -/
def tx (f : UInt8) (n : Int) : Bytes := (List.range (min n.toNat 8100)).map fun i => f + UInt8.ofNat (i % 7)
theorem tx_length (f : UInt8) (n : Int) : (tx f n).length = min n.toNat 8100 := by simp [tx]
theorem u8_val (f : UInt8) (i : Nat) : ((f.toNat : Int) + (i : Int) % 7) % 256 = ((f + UInt8.ofNat (i % 7)).toNat : Int) := by
  rw [UInt8.toNat_add, UInt8.toNat_ofNat']
  have : ((2 : Nat) ^ 8) = 256 := rfl
  rw [this]
  omega

set_option maxRecDepth 100000 in
theorem vText_calls (f : UInt8) (n : Int) (h1 : -9223372036854775808 ≤ n) (h2 : n ≤ 9223372036854775807) : Calls Tryz.prog 16 #[.int .u8 f.toNat, .int .i64 n] w fun e w' => e = .returned (str (tx f n)) ∧ Fr [] w w' := by
  obtain ⟨m, hm⟩ : ∃ m, min n.toNat 8100 = m := ⟨_, rfl⟩
  have htx : tx f n = (List.range m).map fun i => f + UInt8.ofNat (i % 7) := by unfold tx; rw [hm]
  rw [htx]
  have hcond : ∀ i : Nat, i ≤ m → (i < m ↔ ((i : Int) < n ∧ i < 8100)) := by intro i hi; omega
  have hm8 : m ≤ 8100 := by omega
  clear htx hm
  obtain ⟨SS, hSS⟩ : ∃ SS, (List.range m).map (fun i => f + UInt8.ofNat (i % 7)) = SS := ⟨_, rfl⟩
  rw [hSS]
  have HSS := Lib.hid hSS
  clear hSS
  go_enter Tryz.func16, Tryz.ntmps16
  go_wp2_with fail
  go_loopg [5, 6] m (fun kq v i w' => ∃ k : Nat, i = .int .i64 k ∧ k ≤ m ∧ Hid (kq + k = m) ∧ w'.ownsRow w.heap.size 5 1 v k (cellsOf ((List.range k).map fun i => f + UInt8.ofNat (i % 7))) ∧ Fr [] w w')
  case atStart => exact ⟨0, rfl, by omega, by simp [Hid], World.ownsRow_nil _ _ _ _, Fr.refl _ _⟩
  case round =>
    obtain ⟨k, rfl, hk, hkq, hrow, FN⟩ := hrel
    have hsz := FN.size
    by_cases hlt : k < m
    · obtain ⟨c1, c2⟩ := (hcond k hk).1 hlt
      have c2' : (k : Int) < 8100 := by omega
      have hv := u8_val f k
      have hts : (List.range (k + 1)).map (fun i => f + UInt8.ofNat (i % 7)) = (List.range k).map (fun i => f + UInt8.ofNat (i % 7)) ++ [f + UInt8.ofNat (k % 7)] := by rw [List.range_succ, List.map_append]; rfl
      generalize f + UInt8.ofNat (k % 7) = x at hv hts
      generalize (List.range k).map (fun i => f + UInt8.ofNat (i % 7)) = s at hrow hts
      have HV := Lib.hid hv
      have HT := Lib.hid hts
      clear hv hts hcond
      go_wp2_with (first | (with_reducible refine wpL_stop (o := ⟨_, .alloc 59, _, _, _, none⟩) ?_) | (with_reducible refine wpL_stop (o := ⟨_, .load 59 _, _, _, _, none⟩) ?_) | (with_reducible refine wpL_stop (o := ⟨_, .store 59 _ _, _, _, _, none⟩) ?_) | (with_reducible refine wpL_stop (o := ⟨_, .lookup _ _ _ _, _, _, _, none⟩) ?_) | (with_reducible refine wpL_stop (o := ⟨_, .box 59 _, _, _, _, none⟩) ?_) | (with_reducible refine wpL_stop (o := ⟨_, .next _ _, _, _, _, none⟩) ?_) | (with_reducible refine wpL_stop (o := ⟨_, .range _ _, _, _, _, none⟩) ?_) | (with_reducible refine wpL_stop (o := ⟨_, .mapUpdate _ _ _ _, _, _, _, none⟩) ?_) | (with_reducible refine wpL_stop (o := ⟨_, .convert 23 9 _, _, _, _, none⟩) ?_) | (with_reducible refine wpL_stop (o := ⟨_, .convert 9 23 _, _, _, _, none⟩) ?_) | (with_reducible refine wpL_stop (o := ⟨_, .call { callee := .builtin .copy, args := _, argTypes := _ }, _, _, _, none⟩) ?_) | (with_reducible refine wpL_stop (o := ⟨_, .call { callee := .builtin .append, args := _, argTypes := _ }, _, _, _, none⟩) ?_) | (with_reducible refine wpL_stop (o := ⟨_, .call { callee := .builtin .clear, args := _, argTypes := _ }, _, _, _, none⟩) ?_) | (with_reducible refine wpL_stop (o := ⟨_, .makeSlice _ _ _, _, _, _, none⟩) ?_) | (with_reducible refine wpL_stop (o := ⟨_, .makeMap _ _, _, _, _, none⟩) ?_) | (with_reducible refine wpL_stop (o := ⟨_, .entry _, _, _, _, none⟩) ?_) | (with_reducible refine wpL_stop (o := ⟨_, .call { callee := .builtin .max, args := _, argTypes := _ }, _, _, _, none⟩) ?_) | (with_reducible refine wpL_stop (o := ⟨_, .call { callee := .builtin .min, args := _, argTypes := _ }, _, _, _, none⟩) ?_) | (with_reducible refine wpL_stop (o := ⟨_, .slice 59 _ none (some _) none, _, _, _, none⟩) ?_) | (with_reducible refine wpL_stop (o := ⟨_, .binOp .add 9 _ _ _, _, _, _, none⟩) ?_) | (with_reducible refine wpL_stop (o := ⟨_, .slice 9 _ _ _ _, _, _, _, none⟩) ?_))
      rw [HV.out]
      have fA := (Fr.refl [] wr).alloc (.cells #[.int .u8 x.toNat] 5)
      have gX := heap_alloc_new wr (.cells #[.int .u8 x.toNat] 5)
      have hrowA := ownsRow_fr' hrow fA (by simp)
      have FNA := FN.trans fA
      have hszA := fA.size
      generalize wr.alloc (.cells #[.int .u8 x.toNat] 5) = wa at fA gX hrowA FNA hszA ⊢
      refine unhold (wpL_append' rfl _ _ 23 rfl w.heap.size 5 _ 1 1 Tryz.underlying23 byteInfo rfl (by decide) (by decide) u5 k (cellsOf s) rfl hrowA wr.heap.size 1 1 [.int .u8 x.toNat] rfl rfl _ _ _ gX (by intro j u hj; simpa using hj) (by simp [Value.oneCell']) (by omega) (by omega) ?_)
      intro v' w2 hown2 hF2 hgr2 hsz2
      have FN2 := FNA.grown hgr2 (fun q hq => .inr (hrowA.lt q hq).1)
      go_wp2_with fail
      go_roundg (gk - 1)
      case measure => have := hkq.out; omega
      case rel =>
        refine ⟨k + 1, by go_num, by omega, by have := hkq.out; unfold Hid; omega, ?_, FN2⟩
        rw [HT.out]
        simpa [cellsOf] using hown2
    · obtain rfl : k = m := by omega
      have hno := (hcond k hk)
      have hrl := hrow.1
      have hsl : ((List.range k).map fun i => f + UInt8.ofNat (i % 7)).length = k := by simp
      rw [HSS.out] at hrow hrl hsl
      by_cases c1 : (k : Int) < n
      · have c2 : decide ((k : Int) < 8100) = false := by simp; omega
        have c3 : decide (k < 8100) = false := by simp; omega
        have c4 : 8100 ≤ k := by omega
        clear hno hcond
        rcases hrow.2 with ⟨rfl, h0⟩ | ⟨g, cap, cur, rfl, _, hg, hc1, hc2, hcs, htk⟩
        · omega
        · go_wp2_with (first | (with_reducible refine wpL_stop (o := ⟨_, .alloc 59, _, _, _, none⟩) ?_) | (with_reducible refine wpL_stop (o := ⟨_, .load 59 _, _, _, _, none⟩) ?_) | (with_reducible refine wpL_stop (o := ⟨_, .store 59 _ _, _, _, _, none⟩) ?_) | (with_reducible refine wpL_stop (o := ⟨_, .lookup _ _ _ _, _, _, _, none⟩) ?_) | (with_reducible refine wpL_stop (o := ⟨_, .box 59 _, _, _, _, none⟩) ?_) | (with_reducible refine wpL_stop (o := ⟨_, .next _ _, _, _, _, none⟩) ?_) | (with_reducible refine wpL_stop (o := ⟨_, .range _ _, _, _, _, none⟩) ?_) | (with_reducible refine wpL_stop (o := ⟨_, .mapUpdate _ _ _ _, _, _, _, none⟩) ?_) | (with_reducible refine wpL_stop (o := ⟨_, .convert 23 9 _, _, _, _, none⟩) ?_) | (with_reducible refine wpL_stop (o := ⟨_, .convert 9 23 _, _, _, _, none⟩) ?_) | (with_reducible refine wpL_stop (o := ⟨_, .call { callee := .builtin .copy, args := _, argTypes := _ }, _, _, _, none⟩) ?_) | (with_reducible refine wpL_stop (o := ⟨_, .call { callee := .builtin .append, args := _, argTypes := _ }, _, _, _, none⟩) ?_) | (with_reducible refine wpL_stop (o := ⟨_, .call { callee := .builtin .clear, args := _, argTypes := _ }, _, _, _, none⟩) ?_) | (with_reducible refine wpL_stop (o := ⟨_, .makeSlice _ _ _, _, _, _, none⟩) ?_) | (with_reducible refine wpL_stop (o := ⟨_, .makeMap _ _, _, _, _, none⟩) ?_) | (with_reducible refine wpL_stop (o := ⟨_, .entry _, _, _, _, none⟩) ?_) | (with_reducible refine wpL_stop (o := ⟨_, .call { callee := .builtin .max, args := _, argTypes := _ }, _, _, _, none⟩) ?_) | (with_reducible refine wpL_stop (o := ⟨_, .call { callee := .builtin .min, args := _, argTypes := _ }, _, _, _, none⟩) ?_) | (with_reducible refine wpL_stop (o := ⟨_, .slice 59 _ none (some _) none, _, _, _, none⟩) ?_) | (with_reducible refine wpL_stop (o := ⟨_, .binOp .add 9 _ _ _, _, _, _, none⟩) ?_) | (with_reducible refine wpL_stop (o := ⟨_, .slice 9 _ _ _ _, _, _, _, none⟩) ?_))
          refine unhold (wpL_text rfl _ _ _ rfl 5 Tryz.underlying23 Tryz.underlying5 Tryz.underlying9 g 0 k cap rfl _ cur _ SS hg hsl (by
            intro j hj
            rw [Nat.zero_add, ← htk, List.getElem?_take, if_pos (by omega), Array.getElem?_toList]) ?_)
          go_wp2_with fail
          go_ret
          exact ⟨rfl, FN⟩
      · have c2 : decide ((k : Int) < n) = false := by simpa using c1
        clear hno hcond
        rcases hrow.2 with ⟨rfl, h0⟩ | ⟨g, cap, cur, rfl, _, hg, hc1, hc2, hcs, htk⟩
        · obtain rfl : SS = [] := List.eq_nil_of_length_eq_zero (by omega)
          go_wp2_with (first | (with_reducible refine wpL_stop (o := ⟨_, .alloc 59, _, _, _, none⟩) ?_) | (with_reducible refine wpL_stop (o := ⟨_, .load 59 _, _, _, _, none⟩) ?_) | (with_reducible refine wpL_stop (o := ⟨_, .store 59 _ _, _, _, _, none⟩) ?_) | (with_reducible refine wpL_stop (o := ⟨_, .lookup _ _ _ _, _, _, _, none⟩) ?_) | (with_reducible refine wpL_stop (o := ⟨_, .box 59 _, _, _, _, none⟩) ?_) | (with_reducible refine wpL_stop (o := ⟨_, .next _ _, _, _, _, none⟩) ?_) | (with_reducible refine wpL_stop (o := ⟨_, .range _ _, _, _, _, none⟩) ?_) | (with_reducible refine wpL_stop (o := ⟨_, .mapUpdate _ _ _ _, _, _, _, none⟩) ?_) | (with_reducible refine wpL_stop (o := ⟨_, .convert 23 9 _, _, _, _, none⟩) ?_) | (with_reducible refine wpL_stop (o := ⟨_, .convert 9 23 _, _, _, _, none⟩) ?_) | (with_reducible refine wpL_stop (o := ⟨_, .call { callee := .builtin .copy, args := _, argTypes := _ }, _, _, _, none⟩) ?_) | (with_reducible refine wpL_stop (o := ⟨_, .call { callee := .builtin .append, args := _, argTypes := _ }, _, _, _, none⟩) ?_) | (with_reducible refine wpL_stop (o := ⟨_, .call { callee := .builtin .clear, args := _, argTypes := _ }, _, _, _, none⟩) ?_) | (with_reducible refine wpL_stop (o := ⟨_, .makeSlice _ _ _, _, _, _, none⟩) ?_) | (with_reducible refine wpL_stop (o := ⟨_, .makeMap _ _, _, _, _, none⟩) ?_) | (with_reducible refine wpL_stop (o := ⟨_, .entry _, _, _, _, none⟩) ?_) | (with_reducible refine wpL_stop (o := ⟨_, .call { callee := .builtin .max, args := _, argTypes := _ }, _, _, _, none⟩) ?_) | (with_reducible refine wpL_stop (o := ⟨_, .call { callee := .builtin .min, args := _, argTypes := _ }, _, _, _, none⟩) ?_) | (with_reducible refine wpL_stop (o := ⟨_, .slice 59 _ none (some _) none, _, _, _, none⟩) ?_) | (with_reducible refine wpL_stop (o := ⟨_, .binOp .add 9 _ _ _, _, _, _, none⟩) ?_) | (with_reducible refine wpL_stop (o := ⟨_, .slice 9 _ _ _ _, _, _, _, none⟩) ?_))
          refine unhold (wpL_textNil rfl _ _ _ rfl 5 Tryz.underlying23 Tryz.underlying5 Tryz.underlying9 rfl ?_)
          go_wp2_with fail
          go_ret
          exact ⟨rfl, FN⟩
        · go_wp2_with (first | (with_reducible refine wpL_stop (o := ⟨_, .alloc 59, _, _, _, none⟩) ?_) | (with_reducible refine wpL_stop (o := ⟨_, .load 59 _, _, _, _, none⟩) ?_) | (with_reducible refine wpL_stop (o := ⟨_, .store 59 _ _, _, _, _, none⟩) ?_) | (with_reducible refine wpL_stop (o := ⟨_, .lookup _ _ _ _, _, _, _, none⟩) ?_) | (with_reducible refine wpL_stop (o := ⟨_, .box 59 _, _, _, _, none⟩) ?_) | (with_reducible refine wpL_stop (o := ⟨_, .next _ _, _, _, _, none⟩) ?_) | (with_reducible refine wpL_stop (o := ⟨_, .range _ _, _, _, _, none⟩) ?_) | (with_reducible refine wpL_stop (o := ⟨_, .mapUpdate _ _ _ _, _, _, _, none⟩) ?_) | (with_reducible refine wpL_stop (o := ⟨_, .convert 23 9 _, _, _, _, none⟩) ?_) | (with_reducible refine wpL_stop (o := ⟨_, .convert 9 23 _, _, _, _, none⟩) ?_) | (with_reducible refine wpL_stop (o := ⟨_, .call { callee := .builtin .copy, args := _, argTypes := _ }, _, _, _, none⟩) ?_) | (with_reducible refine wpL_stop (o := ⟨_, .call { callee := .builtin .append, args := _, argTypes := _ }, _, _, _, none⟩) ?_) | (with_reducible refine wpL_stop (o := ⟨_, .call { callee := .builtin .clear, args := _, argTypes := _ }, _, _, _, none⟩) ?_) | (with_reducible refine wpL_stop (o := ⟨_, .makeSlice _ _ _, _, _, _, none⟩) ?_) | (with_reducible refine wpL_stop (o := ⟨_, .makeMap _ _, _, _, _, none⟩) ?_) | (with_reducible refine wpL_stop (o := ⟨_, .entry _, _, _, _, none⟩) ?_) | (with_reducible refine wpL_stop (o := ⟨_, .call { callee := .builtin .max, args := _, argTypes := _ }, _, _, _, none⟩) ?_) | (with_reducible refine wpL_stop (o := ⟨_, .call { callee := .builtin .min, args := _, argTypes := _ }, _, _, _, none⟩) ?_) | (with_reducible refine wpL_stop (o := ⟨_, .slice 59 _ none (some _) none, _, _, _, none⟩) ?_) | (with_reducible refine wpL_stop (o := ⟨_, .binOp .add 9 _ _ _, _, _, _, none⟩) ?_) | (with_reducible refine wpL_stop (o := ⟨_, .slice 9 _ _ _ _, _, _, _, none⟩) ?_))
          refine unhold (wpL_text rfl _ _ _ rfl 5 Tryz.underlying23 Tryz.underlying5 Tryz.underlying9 g 0 k cap rfl _ cur _ SS hg hsl (by
            intro j hj
            rw [Nat.zero_add, ← htk, List.getElem?_take, if_pos (by omega), Array.getElem?_toList]) ?_)
          go_wp2_with fail
          go_ret
          exact ⟨rfl, FN⟩
end
end Go.Proofs.YtcnhlemenpgkbaaGreatDoor
/- The law's opened and begin. -/
namespace Go.Proofs.YtcnhlemenpgkbaaGreatDoor
set_option linter.unusedSimpArgs false
set_option linter.unusedVariables false
set_option linter.unnecessarySimpa false
open Go.RowKit M

section
variable {w A : World} {L : DL} {d d1 : Disk} {p1 : M.Pages} {im : List Bytes} {t half bank : Nat} {l : List Bytes}

/-- The journal that lies there, opened. -/
structure Opd (A B : World) (L : DL) (pl : PL) (jl : JL) (d1 : Disk) (p1 : M.Pages) (half bank : Nat) (l : List Bytes) : Prop where
  D : DiskAt B L d1
  P : PagesAt B pl L p1
  J : JrnAt B jl pl ⟨half, bank, J.stream l, l, false⟩
  fr : Fr L.all A B
  nP : ∀ k ∈ pl.all, A.heap.size ≤ k
  nJ : ∀ k ∈ jl.all, A.heap.size ≤ k ∧ k ∉ pl.all

theorem vOpened_calls (D : DiskAt A L d) (h1 : d.off = false) (h2 : d.trip = -1) (h3 : 18 ≤ d.pg.length) (ho : openAt d = (d1, p1)) (C : Calm d1 p1 im t) (H : J.Lies (conts im) half bank l) (hh : half = ((conts im).length - 1) / 2) (h4 : 1 ≤ half) (h5 : half ≤ 1000) :
    Calls Tryz.prog 9 #[Dp L] A fun e B => ∃ pl jl, e = .returned (.tuple #[Jp jl, .int .i64 0]) ∧ Opd A B L pl jl d1 p1 half bank l := by
  have hop := pOpen_calls D h1 h2 h3
  rw [ho] at hop
  have hlt := D.lt
  have hlen : d1.len - 17 = (conts im).length := by
    have e1 : d1.len = (im.length : Int) := by unfold Disk.len; rw [C.pg]; simp
    have := C.inv.len
    rw [conts_length, e1]
    omega
  have hread := C.read
  go_enter Tryz.func9, Tryz.ntmps9
  go_wp2_with fail
  refine hop.mono ?_
  rintro e w1 ⟨pl, rfl, D1, P1, f1, nP⟩
  have s1 := f1.size
  go_wp2_with fail
  refine (jOpen_calls D1 P1 H hlen hh h4 h5 hread).mono ?_
  rintro e w2 ⟨jl, rfl, J2, f2, nJ⟩
  have lP := P1.lt
  go_wp2_with fail
  go_ret2
  exact ⟨pl, jl, rfl, D1.fr0 f2, P1.fr0 f2, J2, f1.trans f2.any, nP, fun k hk => ⟨by have := nJ k hk; omega, fun hk' => by have := nJ k hk; have := lP k hk'; omega⟩⟩
theorem vOpened_small (D : DiskAt A L d) (h1 : d.off = false) (h2 : d.trip = -1) (h3 : 18 ≤ d.pg.length) (h19 : (openAt d).1.len = 19) :
    Calls Tryz.prog 9 #[Dp L] A fun e B => e = .returned (.tuple #[.pointer none, .int .i64 1]) ∧ Fr L.all A B := by
  have hop := pOpen_calls D h1 h2 h3
  go_enter Tryz.func9, Tryz.ntmps9
  go_wp2_with fail
  refine hop.mono ?_
  rintro e w1 ⟨pl, rfl, D1, P1, f1, nP⟩
  go_wp2_with fail
  refine (jOpen_small D1 P1 h19).mono ?_
  rintro e w2 ⟨rfl, f2⟩
  go_wp2_with fail
  go_ret2
  exact ⟨rfl, f1.trans f2.any⟩

def im0 (n : Nat) : List Bytes := List.replicate n (zeros 128)
theorem conts0 (n : Nat) : conts (im0 n) = List.replicate (n - 17) (zeros 116) := by
  unfold conts im0
  rw [List.drop_replicate, List.map_replicate, unsealed_blank]
theorem calm0 (n : Nat) (h1 : 18 ≤ n) (h2 : n ≤ 4096) : ∃ bs, openAt (Disk.new n) = (rest (im0 n), ⟨0, bs, false⟩) ∧ Calm (rest (im0 n)) ⟨0, bs, false⟩ (im0 n) 0 := by
  obtain ⟨bs, hb⟩ := open_fresh n h1 h2
  exact ⟨bs, hb, rfl, rfl, Inv.fresh n h1 h2, rfl, rfl⟩
theorem lies0 (n : Nat) (h1 : 20 ≤ n) : J.Lies (conts (im0 n)) ((n - 18) / 2) 0 [] := by
  rw [conts0]
  refine ⟨by simp; omega, fun s hs => ?_, by omega, by simp [J.stream], by simp, ?_, fun k hk => by simp [J.stream] at hk⟩
  · rw [List.eq_of_mem_replicate hs]; simp [zeros]
  · rw [List.getElem?_replicate, if_pos (by omega)]
    rfl

theorem vBegin_calls (n : Int) (h1 : 20 ≤ n) (h2 : n ≤ 120) : Calls Tryz.prog 5 #[.int .i64 n] w fun e B => ∃ L pl jl p, e = .returned (.tuple #[Dp L, Jp jl, .bool true]) ∧
    JSt w L pl (rest (im0 n.toNat)) p jl ⟨(n.toNat - 18) / 2, 0, [], [], false⟩ B ∧ Calm (rest (im0 n.toNat)) p (im0 n.toNat) 0 := by
  obtain ⟨bs, hb, C⟩ := calm0 n.toNat (by omega) (by omega)
  have H := lies0 n.toNat (by omega)
  have hcl : (conts (im0 n.toNat)).length = n.toNat - 17 := by rw [conts0]; simp
  have hnew := dNew_calls w n (by omega) (by omega)
  have hlen : (Disk.new n.toNat).pg.length = n.toNat := by simp [Disk.new]
  have h20 : 20 ≤ n.toNat := by omega
  have h120 : n.toNat ≤ 120 := by omega
  have hstr : J.stream [] = [] := rfl
  generalize n.toNat = m at hb C H hcl hnew hlen h20 h120 ⊢
  go_enter Tryz.func5, Tryz.ntmps5
  go_wp2_with fail
  refine hnew.mono ?_
  rintro e w1 ⟨L, rfl, D1, f1, nL⟩
  have hop := vOpened_calls D1 rfl rfl (by omega) hb C H (by rw [hcl]; omega) (by omega) (by omega)
  go_wp2_with fail
  refine hop.mono ?_
  rintro e w2 ⟨pl, jl, rfl, O⟩
  have s1 := f1.size
  have lL := D1.lt
  go_wp2_with fail
  go_ret3
  refine ⟨L, pl, jl, _, rfl, ⟨O.D, O.P, O.J, f1.then O.fr (fun k hk => .inr (nL k hk)), nL, fun k hk => ⟨by have := O.nP k hk; omega, fun hk' => by have := O.nP k hk; have := lL k hk'; omega⟩, fun k hk => ⟨by have := (O.nJ k hk).1; omega, fun hk' => by have := (O.nJ k hk).1; have := lL k hk'; omega, (O.nJ k hk).2⟩⟩, C⟩
theorem vBegin_small : Calls Tryz.prog 5 #[.int .i64 19] w fun e B => ∃ v, e = .returned (.tuple #[v, .pointer none, .bool false]) ∧ Fr [] w B := by
  have hnew := dNew_calls w 19 (by omega) (by omega)
  obtain ⟨bs, hb, C⟩ := calm0 19 (by omega) (by omega)
  go_enter Tryz.func5, Tryz.ntmps5
  go_wp2_with fail
  refine hnew.mono ?_
  rintro e w1 ⟨L, rfl, D1, f1, nL⟩
  go_wp2_with fail
  refine (vOpened_small D1 rfl rfl (by simp [Disk.new]) (by rw [show (19 : Int).toNat = 19 from rfl, hb]; simp [Disk.len, rest, im0])).mono ?_
  rintro e w2 ⟨rfl, f2⟩
  go_wp2_with fail
  go_ret3
  exact ⟨_, rfl, f1.then f2 (fun k hk => .inr (nL k hk))⟩
end
end Go.Proofs.YtcnhlemenpgkbaaGreatDoor
