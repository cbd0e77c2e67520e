/- The log's data pages. -/
import Derived.Test.YtcnhlemenpgkbaaGreatDoorModel4
import Derived.Deep.CutRange
namespace Go.Proofs.YtcnhlemenpgkbaaGreatDoor
set_option linter.unusedSimpArgs false
set_option linter.unusedVariables false
set_option linter.unnecessarySimpa false
open Go.RowKit M

theorem unsealed_n {s : Bytes} (h : (unsealed s).ok = false) : (unsealed s).n = 0 := by
  unfold unsealed at h ⊢
  split
  · rfl
  · split
    · rfl
    · rename_i h1 h2
      simp [h1, h2] at h
theorem unsealed_data {s : Bytes} (h : (unsealed s).ok = true) : (unsealed s).data.length = 116 := by
  unfold unsealed at h ⊢
  split
  · rename_i h1
    simp [h1] at h
  · split
    · rename_i h1 h2
      simp [h1, h2] at h
    · rename_i h1 h2
      simp
      omega

theorem unsealed_lt (s : Bytes) : (unsealed s).n < 4294967296 := by
  unfold unsealed
  split
  · simp
  · split
    · simp
    · have := num_lt (s.take 4); exact Nat.lt_of_lt_of_le this (Nat.pow_le_pow_right (n := 256) (by omega) (show (s.take 4).length ≤ 4 by rw [List.length_take]; omega))

section
variable {w : World}

set_option maxRecDepth 100000 in
set_option maxHeartbeats 1000000 in
theorem pTargets_calls {B : Nat} {v : Value} {im : List Bytes} (hown : w.ownsRow B 9 1 v im.length (im.map str)) (h128 : ∀ x ∈ im, x.length = 128) (hlen : 18 ≤ im.length) (hmax : im.length ≤ 4096) :
    Calls Tryz.prog 33 #[v] w fun e w' => ∃ u, e = .returned u ∧ w'.ownsRow w.heap.size 3 1 u (targets im).length (natv (targets im)) ∧ Fr [] w w' := by
  obtain ⟨vp, vc, rfl⟩ := ownsRow_len hown
  have hi0 : 0 < im.length := by omega
  obtain ⟨g, rfl, hgb, hc0⟩ := own_cell_fr (S := []) hown (Fr.refl [] w) (by simp) (j := 0) (v := str im[0]) (by simp [hi0])
  have h0 : im[0].length ≤ 1000 := by rw [h128 _ (List.getElem_mem hi0)]; omega
  have hu := pUnseal_calls im[0] h0
  have hU : im.getD 0 [] = im[0] := by simp [List.getD, hi0]
  have hlen' : (0 : Int) < (im.length : Int) := by omega
  generalize hT : targets im = T
  simp only [targets] at hT
  rw [hU] at hT
  generalize im[0] = p0 at hc0 h0 hu hT
  cases hok : (unsealed p0).ok with
  | false =>
    have hn := unsealed_n hok
    rw [hn, hok] at hu
    rw [if_pos (.inl hn)] at hT
    subst hT
    go_enter Tryz.func33, Tryz.ntmps33
    go_wp2_with fail
    refine (hu _).mono ?_
    rintro e w1 ⟨rfl, f1⟩
    go_wp2_with fail
    go_ret
    exact ⟨_, rfl, World.ownsRow_nil _ _ _ _, f1⟩
  | true =>
    have hd := unsealed_data hok
    rw [hok] at hu
    have hk : tk (unsealed p0) = ((unsealed p0).data.getD 0 0).toNat := by simp [tk, hok]
    rw [hk] at hT
    generalize unsealed p0 = u at hu hT hd hok
    obtain ⟨t, data, ok⟩ := u
    simp only at hu hT hd hok
    subst hok
    have hd0 : (0 : Int) < (data.length : Int) := by omega
    have hb : (data.getD 0 0).toNat < 256 := (data.getD 0 0).toNat_lt
    have hb2 : data[0]? = some (data.getD 0 0) := by simp [List.getD, show 0 < data.length by omega]
    generalize hkk : (data.getD 0 0) = b at hT hb hb2
    have hbx : ∀ h, ({ data := data.toArray } : ByteArray)[0]'h = b := by
      intro h
      have : data[0]'(by omega) = b := by
        rw [List.getElem?_eq_getElem (by omega)] at hb2
        simpa using hb2
      rw [← this]
      rfl
    have hw64 : wrap64 (b.toNat : Int) = b.toNat := IntWalk.wrap64_in _ (by omega)
    by_cases ht : t = 0
    · rw [if_pos (.inl ht)] at hT
      subst hT ht
      go_enter Tryz.func33, Tryz.ntmps33
      go_wp2_with fail
      refine (hu _).mono ?_
      rintro e w1 ⟨rfl, f1⟩
      go_wp2_with fail
      go_ret
      exact ⟨_, rfl, World.ownsRow_nil _ _ _ _, f1⟩
    · have ht' : ((t : Int) == 0) = false := beq_eq_false_iff_ne.2 (by omega)
      by_cases k1 : b.toNat < 1
      · rw [if_pos (.inr (.inl k1))] at hT
        subst hT
        have k1' : decide ((b.toNat : Int) < 1) = true := by simp; omega
        clear ht k1
        go_enter Tryz.func33, Tryz.ntmps33
        go_wp2_with fail
        refine (hu _).mono ?_
        rintro e w1 ⟨rfl, f1⟩
        go_wp2_with fail
        go_ret
        exact ⟨_, rfl, World.ownsRow_nil _ _ _ _, f1⟩
      · have k1' : decide ((b.toNat : Int) < 1) = false := by simp; omega
        by_cases k2 : 16 < b.toNat
        · rw [if_pos (.inr (.inr k2))] at hT
          subst hT
          have k2' : decide (16 < (b.toNat : Int)) = true := by simp; omega
          clear ht k1 k2
          go_enter Tryz.func33, Tryz.ntmps33
          go_wp2_with fail
          refine (hu _).mono ?_
          rintro e w1 ⟨rfl, f1⟩
          go_wp2_with fail
          go_ret
          exact ⟨_, rfl, World.ownsRow_nil _ _ _ _, f1⟩
        · have k2' : decide (16 < (b.toNat : Int)) = false := by simp; omega
          rw [if_neg (by omega)] at hT
          generalize hk9 : b.toNat = k at hT hw64 k1 k2 k1' k2' hb
          have HT := Lib.hid hT
          have k3 : (k : Int) ≤ 16 := by omega
          clear ht hT k1
          go_enter Tryz.func33, Tryz.ntmps33
          go_wp2_with fail
          refine (hu _).mono ?_
          rintro e w1 ⟨rfl, f1⟩
          go_wp2_with fail
          go_loopg [2, 35] k (fun kq l i w' => ∃ n : Nat, i = .int .i64 n ∧ n ≤ k ∧ Hid (kq + n = k) ∧ Hid ((List.range n).all (tgood im t data) = true) ∧ w'.ownsRow w.heap.size 3 1 l n (natv (txs data n)) ∧ Fr [] w w')
          case atStart => exact ⟨0, rfl, by omega, by simp [Hid], by simp [Hid], World.ownsRow_nil _ _ _ _, f1⟩
          case round =>
            obtain ⟨n, rfl, hn, hkq, ha, R, fr⟩ := hrel
            by_cases hlt : n < k
            · have hlt' : (n : Int) < (k : Int) := by omega
              have n16 : (n : Int) < 16 := by omega
              obtain ⟨rp, rc, rfl⟩ := ownsRow_len R
              have htx : num ((data.take (3 + 2 * n)).drop (1 + 2 * n)) = tx data n := by
                unfold tx
                rw [List.drop_take]
                congr 2
                omega
              have hx16 := tx_lt data n
              have hi1 : 1 + n < im.length := by omega
              obtain ⟨g', hg', _, hc1⟩ := own_cell_fr (S := []) hown fr (by simp) (j := 1 + n) (v := str im[1 + n]) (by simp [hi1])
              obtain rfl : g' = g := by simpa using hg'.symm
              have hu1 := pUnseal_calls im[1 + n] (by rw [h128 _ (List.getElem_mem hi1)]; omega)
              have hU1 : im.getD (1 + n) [] = im[1 + n] := by simp [List.getD, hi1]
              have hG : tgood im t data n = ((unsealed im[1 + n]).ok && decide ((unsealed im[1 + n]).n = t) && decide ((tx data n : Int) < im.length - 17) && (decide (n = 0) || decide (tx data (n - 1) < tx data n))) := by unfold tgood; rw [hU1]
              have nil_of : tgood im t data n = false → T = [] := fun hb0 => by rw [← HT.out, if_neg (by rw [all_false hb0 hlt]; simp)]
              generalize im[1 + n] = p1 at hc1 hu1 hG
              have hu2 := unsealed_lt p1
              generalize unsealed p1 = u2 at hu1 hG hu2
              obtain ⟨n2, d2, ok2⟩ := u2
              simp only at hu1 hG hu2
              have HX := Lib.hid htx
              have HG := Lib.hid hG
              clear hG htx hU1 hg'
              go_wp2_with (first | (with_reducible refine wpL_stop (o := ⟨_, .alloc 59, _, _, _, none⟩) ?_) | (with_reducible refine wpL_stop (o := ⟨_, .load 59 _, _, _, _, none⟩) ?_) | (with_reducible refine wpL_stop (o := ⟨_, .store 59 _ _, _, _, _, none⟩) ?_) | (with_reducible refine wpL_stop (o := ⟨_, .lookup _ _ _ _, _, _, _, none⟩) ?_) | (with_reducible refine wpL_stop (o := ⟨_, .box 59 _, _, _, _, none⟩) ?_) | (with_reducible refine wpL_stop (o := ⟨_, .next _ _, _, _, _, none⟩) ?_) | (with_reducible refine wpL_stop (o := ⟨_, .range _ _, _, _, _, none⟩) ?_) | (with_reducible refine wpL_stop (o := ⟨_, .mapUpdate _ _ _ _, _, _, _, none⟩) ?_) | (with_reducible refine wpL_stop (o := ⟨_, .convert 23 9 _, _, _, _, none⟩) ?_) | (with_reducible refine wpL_stop (o := ⟨_, .convert 9 23 _, _, _, _, none⟩) ?_) | (with_reducible refine wpL_stop (o := ⟨_, .call { callee := .builtin .copy, args := _, argTypes := _ }, _, _, _, none⟩) ?_) | (with_reducible refine wpL_stop (o := ⟨_, .call { callee := .builtin .append, args := _, argTypes := _ }, _, _, _, none⟩) ?_) | (with_reducible refine wpL_stop (o := ⟨_, .call { callee := .builtin .clear, args := _, argTypes := _ }, _, _, _, none⟩) ?_) | (with_reducible refine wpL_stop (o := ⟨_, .makeSlice _ _ _, _, _, _, none⟩) ?_) | (with_reducible refine wpL_stop (o := ⟨_, .makeMap _ _, _, _, _, none⟩) ?_) | (with_reducible refine wpL_stop (o := ⟨_, .entry _, _, _, _, none⟩) ?_) | (with_reducible refine wpL_stop (o := ⟨_, .call { callee := .builtin .max, args := _, argTypes := _ }, _, _, _, none⟩) ?_) | (with_reducible refine wpL_stop (o := ⟨_, .call { callee := .builtin .min, args := _, argTypes := _ }, _, _, _, none⟩) ?_) | (with_reducible refine wpL_stop (o := ⟨_, .slice 59 _ none (some _) none, _, _, _, none⟩) ?_) | (with_reducible refine wpL_stop (o := ⟨_, .binOp .add 9 _ _ _, _, _, _, none⟩) ?_) | (with_reducible refine wpL_stop (o := ⟨_, .slice 9 _ _ _ _, _, _, _, none⟩) ?_))
              refine unhold (wpL_val rfl (run_strMid _ _ _ _ rfl Tryz.underlying9 data rfl (1 + 2 * n) (3 + 2 * n) (by go_num) (by go_num) (by omega) (by omega)) ?_)
              go_wp2_with fail
              have hcn := pnum_calls ((data.take (3 + 2 * n)).drop (1 + 2 * n)) (by simp; omega) wr
              rw [HX.out] at hcn
              refine hcn.mono ?_
              rintro e w2 ⟨rfl, rfl⟩
              go_wp2_with fail
              refine (hu1 _).mono ?_
              rintro e w3 ⟨rfl, f3⟩
              have hG := HG.out
              have R3 := ownsRow_fr' R f3 (by simp)
              cases ok2 with
              | false =>
                have hb0 : tgood im t data n = false := by rw [hG]; simp
                have HN := Lib.hid (nil_of hb0)
                clear hb0 hG
                go_wp2_with fail
                go_ret
                refine ⟨_, rfl, ?_, fr.trans f3⟩
                rw [HN.out]
                exact World.ownsRow_nil _ _ _ _
              | true =>
                by_cases e1 : n2 = t
                · have e1' : ((n2 : Int) != (t : Int)) = false := by simp [bne, e1]
                  by_cases e2 : (tx data n : Int) < im.length - 17
                  · have e2' : decide ((im.length : Int) - 17 ≤ tx data n) = false := by simp; omega
                    rcases n with _ | m
                    · have hgd : tgood im t data 0 = true := by rw [hG]; simp [e1, e2]
                      have hz0 : decide ((0 : Int) < ((0 : Nat) : Int)) = false := by decide
                      have hall : (List.range (0 + 1)).all (tgood im t data) = true := by
                        rw [List.range_succ, List.all_append]
                        simp only [List.all_cons, List.all_nil, Bool.and_true, Bool.and_eq_true]
                        exact ⟨ha.out, hgd⟩
                      have HA := Lib.hid hall
                      have hts : natv (txs data (0 + 1)) = natv (txs data 0) ++ [.int .i64 (tx data 0)] := by rw [txs_succ, natv_snoc]
                      have HS := Lib.hid hts
                      clear hall hts hgd hG HG nil_of
                      go_wp2_with (first | (with_reducible refine wpL_stop (o := ⟨_, .alloc 59, _, _, _, none⟩) ?_) | (with_reducible refine wpL_stop (o := ⟨_, .load 59 _, _, _, _, none⟩) ?_) | (with_reducible refine wpL_stop (o := ⟨_, .store 59 _ _, _, _, _, none⟩) ?_) | (with_reducible refine wpL_stop (o := ⟨_, .lookup _ _ _ _, _, _, _, none⟩) ?_) | (with_reducible refine wpL_stop (o := ⟨_, .box 59 _, _, _, _, none⟩) ?_) | (with_reducible refine wpL_stop (o := ⟨_, .next _ _, _, _, _, none⟩) ?_) | (with_reducible refine wpL_stop (o := ⟨_, .range _ _, _, _, _, none⟩) ?_) | (with_reducible refine wpL_stop (o := ⟨_, .mapUpdate _ _ _ _, _, _, _, none⟩) ?_) | (with_reducible refine wpL_stop (o := ⟨_, .convert 23 9 _, _, _, _, none⟩) ?_) | (with_reducible refine wpL_stop (o := ⟨_, .convert 9 23 _, _, _, _, none⟩) ?_) | (with_reducible refine wpL_stop (o := ⟨_, .call { callee := .builtin .copy, args := _, argTypes := _ }, _, _, _, none⟩) ?_) | (with_reducible refine wpL_stop (o := ⟨_, .call { callee := .builtin .append, args := _, argTypes := _ }, _, _, _, none⟩) ?_) | (with_reducible refine wpL_stop (o := ⟨_, .call { callee := .builtin .clear, args := _, argTypes := _ }, _, _, _, none⟩) ?_) | (with_reducible refine wpL_stop (o := ⟨_, .makeSlice _ _ _, _, _, _, none⟩) ?_) | (with_reducible refine wpL_stop (o := ⟨_, .makeMap _ _, _, _, _, none⟩) ?_) | (with_reducible refine wpL_stop (o := ⟨_, .entry _, _, _, _, none⟩) ?_) | (with_reducible refine wpL_stop (o := ⟨_, .call { callee := .builtin .max, args := _, argTypes := _ }, _, _, _, none⟩) ?_) | (with_reducible refine wpL_stop (o := ⟨_, .call { callee := .builtin .min, args := _, argTypes := _ }, _, _, _, none⟩) ?_) | (with_reducible refine wpL_stop (o := ⟨_, .slice 59 _ none (some _) none, _, _, _, none⟩) ?_) | (with_reducible refine wpL_stop (o := ⟨_, .binOp .add 9 _ _ _, _, _, _, none⟩) ?_) | (with_reducible refine wpL_stop (o := ⟨_, .slice 9 _ _ _ _, _, _, _, none⟩) ?_))
                      have R4 := ownsRow_fr' R3 ((Fr.refl [] w3).alloc (.cells #[.int .i64 (tx data 0)] 3)) (by simp)
                      have hg4 := heap_alloc_new w3 (.cells #[.int .i64 (tx data 0)] 3)
                      have f4 := (fr.trans f3).alloc (.cells #[.int .i64 (tx data 0)] 3)
                      generalize w3.alloc (.cells #[.int .i64 (tx data 0)] 3) = w4 at R4 hg4 f4 ⊢
                      refine unhold (wpL_append_at rfl _ _ 24 rfl w.heap.size 3 _ 8 Tryz.underlying24 intInfo rfl (by decide) (.slice rp 0 rc) 0 (natv (txs data 0)) (by rfl) R4 w3.heap.size 1 [.int .i64 (tx data 0)] rfl _ _ _ hg4 (by intro j u hj; simpa using hj) (by simp [Value.oneCell']) (by simp <;> omega) f4.size ?_)
                      intro v5 w5 hown5 hgr5 hat5
                      have f5 : Fr [] w w5 := f4.grown hgr5 (fun k hk => .inr (R4.lt k hk).1)
                      go_wp2_with (first | (with_reducible refine wpL_stop (o := ⟨_, .alloc 59, _, _, _, none⟩) ?_) | (with_reducible refine wpL_stop (o := ⟨_, .load 59 _, _, _, _, none⟩) ?_) | (with_reducible refine wpL_stop (o := ⟨_, .store 59 _ _, _, _, _, none⟩) ?_) | (with_reducible refine wpL_stop (o := ⟨_, .lookup _ _ _ _, _, _, _, none⟩) ?_) | (with_reducible refine wpL_stop (o := ⟨_, .box 59 _, _, _, _, none⟩) ?_) | (with_reducible refine wpL_stop (o := ⟨_, .next _ _, _, _, _, none⟩) ?_) | (with_reducible refine wpL_stop (o := ⟨_, .range _ _, _, _, _, none⟩) ?_) | (with_reducible refine wpL_stop (o := ⟨_, .mapUpdate _ _ _ _, _, _, _, none⟩) ?_) | (with_reducible refine wpL_stop (o := ⟨_, .convert 23 9 _, _, _, _, none⟩) ?_) | (with_reducible refine wpL_stop (o := ⟨_, .convert 9 23 _, _, _, _, none⟩) ?_) | (with_reducible refine wpL_stop (o := ⟨_, .call { callee := .builtin .copy, args := _, argTypes := _ }, _, _, _, none⟩) ?_) | (with_reducible refine wpL_stop (o := ⟨_, .call { callee := .builtin .append, args := _, argTypes := _ }, _, _, _, none⟩) ?_) | (with_reducible refine wpL_stop (o := ⟨_, .call { callee := .builtin .clear, args := _, argTypes := _ }, _, _, _, none⟩) ?_) | (with_reducible refine wpL_stop (o := ⟨_, .makeSlice _ _ _, _, _, _, none⟩) ?_) | (with_reducible refine wpL_stop (o := ⟨_, .makeMap _ _, _, _, _, none⟩) ?_) | (with_reducible refine wpL_stop (o := ⟨_, .entry _, _, _, _, none⟩) ?_) | (with_reducible refine wpL_stop (o := ⟨_, .call { callee := .builtin .max, args := _, argTypes := _ }, _, _, _, none⟩) ?_) | (with_reducible refine wpL_stop (o := ⟨_, .call { callee := .builtin .min, args := _, argTypes := _ }, _, _, _, none⟩) ?_) | (with_reducible refine wpL_stop (o := ⟨_, .slice 59 _ none (some _) none, _, _, _, none⟩) ?_) | (with_reducible refine wpL_stop (o := ⟨_, .binOp .add 9 _ _ _, _, _, _, none⟩) ?_) | (with_reducible refine wpL_stop (o := ⟨_, .slice 9 _ _ _ _, _, _, _, none⟩) ?_))
                      go_roundg (gk - 1)
                      case measure => have := hkq.out; omega
                      case rel =>
                        refine ⟨1, by go_num, by omega, by have := hkq.out; unfold Hid; omega, HA, ?_, f5⟩
                        rw [HS.out]
                        exact hown5
                    · have hm0 : (0 : Int) < ((m + 1 : Nat) : Int) := by omega
                      obtain ⟨g2, rfl, _, hc2⟩ := own_cell_fr (S := []) R3 (Fr.refl [] w3) (by simp) (j := m) (v := .int .i64 (tx data m)) (txs_get data (m + 1) m (by omega))
                      by_cases e3 : tx data m < tx data (m + 1)
                      · have e3' : decide ((tx data (m + 1) : Int) ≤ (tx data m : Int)) = false := by simp; omega
                        have hgd : tgood im t data (m + 1) = true := by rw [hG]; simp [e1, e2, e3]
                        have hall : (List.range (m + 1 + 1)).all (tgood im t data) = true := by
                          rw [List.range_succ, List.all_append]
                          simp only [List.all_cons, List.all_nil, Bool.and_true, Bool.and_eq_true]
                          exact ⟨ha.out, hgd⟩
                        have HA := Lib.hid hall
                        have hts : natv (txs data (m + 1 + 1)) = natv (txs data (m + 1)) ++ [.int .i64 (tx data (m + 1))] := by rw [txs_succ, natv_snoc]
                        have HS := Lib.hid hts
                        clear hall hts hgd hG HG nil_of
                        go_upto_region 14 with fail
                        obtain ⟨lv, hlv⟩ : ∃ lv, Value.slice (some ⟨g2, 0, none⟩) (m + 1) rc = lv := ⟨_, rfl⟩
                        rw [hlv] at R R3 ⊢
                        clear hlv
                        go_wp2_with (first | (with_reducible refine wpL_stop (o := ⟨_, .alloc 59, _, _, _, none⟩) ?_) | (with_reducible refine wpL_stop (o := ⟨_, .load 59 _, _, _, _, none⟩) ?_) | (with_reducible refine wpL_stop (o := ⟨_, .store 59 _ _, _, _, _, none⟩) ?_) | (with_reducible refine wpL_stop (o := ⟨_, .lookup _ _ _ _, _, _, _, none⟩) ?_) | (with_reducible refine wpL_stop (o := ⟨_, .box 59 _, _, _, _, none⟩) ?_) | (with_reducible refine wpL_stop (o := ⟨_, .next _ _, _, _, _, none⟩) ?_) | (with_reducible refine wpL_stop (o := ⟨_, .range _ _, _, _, _, none⟩) ?_) | (with_reducible refine wpL_stop (o := ⟨_, .mapUpdate _ _ _ _, _, _, _, none⟩) ?_) | (with_reducible refine wpL_stop (o := ⟨_, .convert 23 9 _, _, _, _, none⟩) ?_) | (with_reducible refine wpL_stop (o := ⟨_, .convert 9 23 _, _, _, _, none⟩) ?_) | (with_reducible refine wpL_stop (o := ⟨_, .call { callee := .builtin .copy, args := _, argTypes := _ }, _, _, _, none⟩) ?_) | (with_reducible refine wpL_stop (o := ⟨_, .call { callee := .builtin .append, args := _, argTypes := _ }, _, _, _, none⟩) ?_) | (with_reducible refine wpL_stop (o := ⟨_, .call { callee := .builtin .clear, args := _, argTypes := _ }, _, _, _, none⟩) ?_) | (with_reducible refine wpL_stop (o := ⟨_, .makeSlice _ _ _, _, _, _, none⟩) ?_) | (with_reducible refine wpL_stop (o := ⟨_, .makeMap _ _, _, _, _, none⟩) ?_) | (with_reducible refine wpL_stop (o := ⟨_, .entry _, _, _, _, none⟩) ?_) | (with_reducible refine wpL_stop (o := ⟨_, .call { callee := .builtin .max, args := _, argTypes := _ }, _, _, _, none⟩) ?_) | (with_reducible refine wpL_stop (o := ⟨_, .call { callee := .builtin .min, args := _, argTypes := _ }, _, _, _, none⟩) ?_) | (with_reducible refine wpL_stop (o := ⟨_, .slice 59 _ none (some _) none, _, _, _, none⟩) ?_) | (with_reducible refine wpL_stop (o := ⟨_, .binOp .add 9 _ _ _, _, _, _, none⟩) ?_) | (with_reducible refine wpL_stop (o := ⟨_, .slice 9 _ _ _ _, _, _, _, none⟩) ?_))
                        have R4 := ownsRow_fr' R3 ((Fr.refl [] w3).alloc (.cells #[.int .i64 (tx data (m + 1))] 3)) (by simp)
                        have hg4 := heap_alloc_new w3 (.cells #[.int .i64 (tx data (m + 1))] 3)
                        have f4 := (fr.trans f3).alloc (.cells #[.int .i64 (tx data (m + 1))] 3)
                        generalize w3.alloc (.cells #[.int .i64 (tx data (m + 1))] 3) = w4 at R4 hg4 f4 ⊢
                        refine unhold (wpL_append_at rfl _ _ 24 rfl w.heap.size 3 _ 8 Tryz.underlying24 intInfo rfl (by decide) lv (m + 1) (natv (txs data (m + 1))) (by rfl) R4 w3.heap.size 1 [.int .i64 (tx data (m + 1))] rfl _ _ _ hg4 (by intro j u hj; simpa using hj) (by simp [Value.oneCell']) (by simp <;> omega) f4.size ?_)
                        intro v5 w5 hown5 hgr5 hat5
                        have f5 : Fr [] w w5 := f4.grown hgr5 (fun k hk => .inr (R4.lt k hk).1)
                        go_wp2_with (first | (with_reducible refine wpL_stop (o := ⟨_, .alloc 59, _, _, _, none⟩) ?_) | (with_reducible refine wpL_stop (o := ⟨_, .load 59 _, _, _, _, none⟩) ?_) | (with_reducible refine wpL_stop (o := ⟨_, .store 59 _ _, _, _, _, none⟩) ?_) | (with_reducible refine wpL_stop (o := ⟨_, .lookup _ _ _ _, _, _, _, none⟩) ?_) | (with_reducible refine wpL_stop (o := ⟨_, .box 59 _, _, _, _, none⟩) ?_) | (with_reducible refine wpL_stop (o := ⟨_, .next _ _, _, _, _, none⟩) ?_) | (with_reducible refine wpL_stop (o := ⟨_, .range _ _, _, _, _, none⟩) ?_) | (with_reducible refine wpL_stop (o := ⟨_, .mapUpdate _ _ _ _, _, _, _, none⟩) ?_) | (with_reducible refine wpL_stop (o := ⟨_, .convert 23 9 _, _, _, _, none⟩) ?_) | (with_reducible refine wpL_stop (o := ⟨_, .convert 9 23 _, _, _, _, none⟩) ?_) | (with_reducible refine wpL_stop (o := ⟨_, .call { callee := .builtin .copy, args := _, argTypes := _ }, _, _, _, none⟩) ?_) | (with_reducible refine wpL_stop (o := ⟨_, .call { callee := .builtin .append, args := _, argTypes := _ }, _, _, _, none⟩) ?_) | (with_reducible refine wpL_stop (o := ⟨_, .call { callee := .builtin .clear, args := _, argTypes := _ }, _, _, _, none⟩) ?_) | (with_reducible refine wpL_stop (o := ⟨_, .makeSlice _ _ _, _, _, _, none⟩) ?_) | (with_reducible refine wpL_stop (o := ⟨_, .makeMap _ _, _, _, _, none⟩) ?_) | (with_reducible refine wpL_stop (o := ⟨_, .entry _, _, _, _, none⟩) ?_) | (with_reducible refine wpL_stop (o := ⟨_, .call { callee := .builtin .max, args := _, argTypes := _ }, _, _, _, none⟩) ?_) | (with_reducible refine wpL_stop (o := ⟨_, .call { callee := .builtin .min, args := _, argTypes := _ }, _, _, _, none⟩) ?_) | (with_reducible refine wpL_stop (o := ⟨_, .slice 59 _ none (some _) none, _, _, _, none⟩) ?_) | (with_reducible refine wpL_stop (o := ⟨_, .binOp .add 9 _ _ _, _, _, _, none⟩) ?_) | (with_reducible refine wpL_stop (o := ⟨_, .slice 9 _ _ _ _, _, _, _, none⟩) ?_))
                        go_roundg (gk - 1)
                        case measure => have := hkq.out; omega
                        case rel =>
                          refine ⟨m + 1 + 1, by go_num, by omega, by have := hkq.out; unfold Hid; omega, HA, ?_, f5⟩
                          rw [HS.out]
                          exact hown5
                      · have e3' : tx data (m + 1) ≤ tx data m := by omega
                        have hb0 : tgood im t data (m + 1) = false := by rw [hG]; simp [e3]
                        have HN := Lib.hid (nil_of hb0)
                        clear hb0 hG e1 e2 e3
                        go_wp2_with fail
                        go_ret
                        refine ⟨_, rfl, ?_, fr.trans f3⟩
                        rw [HN.out]
                        exact World.ownsRow_nil _ _ _ _
                  · have e2' : decide ((im.length : Int) - 17 ≤ tx data n) = true := by simp; omega
                    have hb0 : tgood im t data n = false := by rw [hG]; simp [e2]
                    have HN := Lib.hid (nil_of hb0)
                    clear hb0 hG e1 e2
                    go_wp2_with fail
                    go_ret
                    refine ⟨_, rfl, ?_, fr.trans f3⟩
                    rw [HN.out]
                    exact World.ownsRow_nil _ _ _ _
                · have e1' : ((n2 : Int) != (t : Int)) = true := by simp [bne]; omega
                  have hb0 : tgood im t data n = false := by rw [hG]; simp [e1]
                  have HN := Lib.hid (nil_of hb0)
                  clear hb0 hG e1
                  go_wp2_with fail
                  go_ret
                  refine ⟨_, rfl, ?_, fr.trans f3⟩
                  rw [HN.out]
                  exact World.ownsRow_nil _ _ _ _
            · obtain rfl : n = k := by omega
              have hlt' : decide ((n : Int) < (n : Int)) = false := by simp
              obtain ⟨rp, rc, rfl⟩ := ownsRow_len R
              go_wp2_with fail
              refine (pRecord_calls (l := txs data n) (base := w.heap.size) (by rw [txs_length]; exact R) (by rw [txs_length]; omega)).mono ?_
              rintro e w2 ⟨rfl, f2⟩
              have R2 := ownsRow_fr' R f2 (by simp)
              by_cases he : record (txs data n) = data
              · have hT : T = txs data n := by rw [← HT.out, if_pos ⟨ha.out, he⟩]
                have HTT := Lib.hid hT
                have HE := Lib.hid he
                clear hT he
                go_wp2_with (first | (with_reducible refine wpL_stop (o := ⟨_, .binOp .neq 9 _ _ _, _, _, _, _⟩) ?_) | (with_reducible refine wpL_stop (o := ⟨_, .binOp .eql 9 _ _ _, _, _, _, _⟩) ?_))
                refine unhold (wpL_val rfl (run_strNe _ _ _ _ rfl (record (txs data n)) data rfl rfl false (by simpa using HE.out)) ?_)
                go_wp2_with fail
                go_ret
                refine ⟨_, rfl, ?_, fr.trans f2⟩
                rw [HTT.out, txs_length]
                exact R2
              · have hT : T = [] := by rw [← HT.out, if_neg (fun h => he h.2)]
                have HTT := Lib.hid hT
                have HE := Lib.hid he
                clear hT he
                go_wp2_with (first | (with_reducible refine wpL_stop (o := ⟨_, .binOp .neq 9 _ _ _, _, _, _, _⟩) ?_) | (with_reducible refine wpL_stop (o := ⟨_, .binOp .eql 9 _ _ _, _, _, _, _⟩) ?_))
                refine unhold (wpL_val rfl (run_strNe _ _ _ _ rfl (record (txs data n)) data rfl rfl true (by simpa using HE.out)) ?_)
                go_wp2_with fail
                go_ret
                refine ⟨_, rfl, ?_, fr.trans f2⟩
                rw [HTT.out]
                exact World.ownsRow_nil _ _ _ _
end
end Go.Proofs.YtcnhlemenpgkbaaGreatDoor
