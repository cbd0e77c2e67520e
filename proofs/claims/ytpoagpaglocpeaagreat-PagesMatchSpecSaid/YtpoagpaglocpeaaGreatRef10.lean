/- The specification's log: its data pages. -/
import Derived.Test.YtpoagpaglocpeaaGreatRef9
import Derived.Test.YtpoagpaglocpeaaGreatLawA
namespace Go.Proofs.YtpoagpaglocpeaaGreat
set_option linter.unusedSimpArgs false
set_option linter.unusedVariables false
set_option linter.unnecessarySimpa false
open Go.RowKit M

theorem good_n (page : Bytes) : (decide (page ≠ zeros 128) && (unsealed page).ok) = decide ((unsealed page).n ≠ 0) := by
  by_cases hok : (unsealed page).ok = true
  · rw [hok, Bool.and_true]
    by_cases hz : page = zeros 128
    · subst hz
      simp [show (unsealed (zeros 128)).n = 0 from by decide +kernel]
    · have h1 : page.length = 128 := by
        by_cases h : page.length = 128
        · exact h
        · simp [unsealed, h] at hok
      have h2 : (unsealed page).n ≠ 0 := by
        intro h0
        have h3 : page = sealed (num (page.take 4)) ((page.drop 4).take 116) := by
          by_cases h : page = sealed (num (page.take 4)) ((page.drop 4).take 116)
          · exact h
          · exfalso
            have : (unsealed page).ok = false := by unfold unsealed; rw [if_neg (by omega), if_pos ⟨h, hz⟩]
            rw [this] at hok; cases hok
        have h4 : (unsealed page).n = num (page.take 4) := by unfold unsealed; rw [if_neg (by omega), if_neg (by rw [← h3]; simp)]
        rw [h4] at h0
        rw [h0, sealed_bad (.inl (by omega))] at h3
        rw [h3] at h1
        cases h1
      simp [hz, h2]
  · rw [Bool.not_eq_true] at hok
    rw [hok, unsealed_n hok]
    simp

theorem tx_two (data : Bytes) (n : Nat) (b1 b2 : UInt8) (h1 : data[1 + 2 * n]? = some b1) (h2 : data[2 + 2 * n]? = some b2) : tx data n = b1.toNat + b2.toNat * 256 := by
  obtain ⟨k1, rfl⟩ := List.getElem?_eq_some_iff.1 h1
  obtain ⟨k2, rfl⟩ := List.getElem?_eq_some_iff.1 h2
  unfold tx
  rw [List.drop_eq_getElem_cons k1, List.drop_eq_getElem_cons (show 1 + 2 * n + 1 < data.length by omega)]
  simp only [List.take_succ_cons, List.take_zero, num, show 1 + 2 * n + 1 = 2 + 2 * n by omega]
  omega

theorem pwInfo : (Tryz.prog.info? 92).map (fun i => (i.zero, i.size, i.bytes)) = some (some (.agg #[.int .i64 0, .string ⟨#[]⟩]), 2, 24) := by kernel_rfl
theorem row_beside2 {B n size : Nat} {E : TypeId} {w w' : World} {v u : Value} {xs : List Value} (h : w.ownsRow B E size v n xs) (hg : w.grownBy w' u.ownBlock) (hd : ∀ k, u.ownBlock = some k → v.ownBlock ≠ some k) : w'.ownsRow B E size v n xs := by
  refine ⟨h.1, ?_⟩
  rcases h.2 with h2 | ⟨g, cap, cur, rfl, hb, hgc, r⟩
  · exact .inl h2
  · exact .inr ⟨g, cap, cur, rfl, hb, (hg.block g (lt_of_heap hgc) (fun e => hd g e.symm rfl)).trans hgc, r⟩
/-- A log of pages without their data. -/
def bare (l : List Nat) : List PW := l.map fun (x : Nat) => ((x : Int), ([] : Bytes))

section
variable {w : World}
set_option maxRecDepth 100000 in
set_option maxHeartbeats 16000000 in
theorem rTargets_calls {B : Nat} {v : Value} {im : List Bytes} (hown : w.ownsRow B 9 1 v im.length (im.map str)) (h128 : ∀ x ∈ im, x.length = 128) (hlen : 18 ≤ im.length) (hmax : im.length ≤ 4096) :
    Calls Tryz.prog 150 #[v] w fun e w' => ∃ u, e = .returned u ∧ w'.ownsRow w.heap.size 3 1 u (targets im).length (natv (targets im)) ∧ Fr [] w w' := by
  obtain ⟨vp, vc, rfl⟩ := ownsRow_len hown
  have hi0 : 0 < im.length := by omega
  obtain ⟨g, rfl, hgb, hc0⟩ := own_cell_fr (S := []) hown (Fr.refl [] w) (by simp) (j := 0) (v := str im[0]) (by simp [hi0])
  have h0 : im[0].length ≤ 1000 := by rw [h128 _ (List.getElem_mem hi0)]; omega
  have hu := rUnseal_calls im[0] h0
  have hg := rGood_calls im[0] h0
  rw [good_n] at hg
  have hU : im.getD 0 [] = im[0] := by simp [List.getD, hi0]
  have hlen' : (0 : Int) < (im.length : Int) := by omega
  generalize hT : targets im = T
  simp only [targets] at hT
  rw [hU] at hT
  generalize im[0] = p0 at hc0 h0 hu hg hT
  by_cases hn : (unsealed p0).n = 0
  · rw [show decide ((unsealed p0).n ≠ 0) = false by simp [hn]] at hg
    rw [if_pos (.inl hn)] at hT
    clear hn
    subst hT
    go_enter Tryz.func150, Tryz.ntmps150
    go_wp2_with fail
    refine (hg _).mono ?_
    rintro e w1 ⟨rfl, f1⟩
    go_wp2_with fail
    go_ret
    exact ⟨_, rfl, World.ownsRow_nil _ _ _ _, f1⟩
  · rw [show decide ((unsealed p0).n ≠ 0) = true by simp [hn]] at hg
    have hok : (unsealed p0).ok = true := by
      cases h : (unsealed p0).ok with
      | true => rfl
      | false => exact absurd (unsealed_n h) hn
    have hd := unsealed_data hok
    have hk : tk (unsealed p0) = ((unsealed p0).data.getD 0 0).toNat := by simp [tk, hok]
    rw [hk] at hT
    unfold unv at hu
    have hbig := unsealed_lt p0
    generalize unsealed p0 = u at hu hT hd hok hn hbig
    obtain ⟨t, data, ok⟩ := u
    simp only at hu hT hd hok hn hbig
    subst hok
    have hd0 : (0 : Int) < (data.length : Int) := by omega
    have hb : (data.getD 0 0).toNat < 256 := (data.getD 0 0).toNat_lt
    have hat := str_at data 0 (by omega)
    rw [show data[0]'(by omega) = data.getD 0 0 by simp [List.getD, show 0 < data.length by omega]] at hat
    generalize hkk : (data.getD 0 0) = b at hT hb hat
    have HK := Lib.hid hkk
    clear hkk
    by_cases k1 : b.toNat < 1
    · rw [if_pos (.inr (.inl k1))] at hT
      subst hT
      have k1' : decide ((b.toNat : Int) < 1) = true := by simp; omega
      clear k1
      go_enter Tryz.func150, Tryz.ntmps150
      go_wp2_with fail
      refine (hg _).mono ?_
      rintro e w1 ⟨rfl, f1⟩
      have hcw1 := cell_fr f1 hc0 (by simp)
      go_wp2_with fail
      refine (hu _).mono ?_
      rintro e w2 ⟨rfl, f2⟩
      have fu := (f1.trans f2).alloc (.cells #[.int .i64 t, str data, .bool true] 172)
      have gu := heap_alloc_new w2 (.cells #[.int .i64 t, str data, .bool true] 172)
      go_wp2_with (first | (with_reducible refine wpL_stop (o := ⟨_, .alloc 177, _, _, _, none⟩) ?_) | (with_reducible refine wpL_stop (o := ⟨_, .load 177 _, _, _, _, none⟩) ?_) | (with_reducible refine wpL_stop (o := ⟨_, .store 177 _ _, _, _, _, none⟩) ?_) | (with_reducible refine wpL_stop (o := ⟨_, .lookup _ _ _ _, _, _, _, none⟩) ?_) | (with_reducible refine wpL_stop (o := ⟨_, .box 177 _, _, _, _, none⟩) ?_) | (with_reducible refine wpL_stop (o := ⟨_, .next _ _, _, _, _, none⟩) ?_) | (with_reducible refine wpL_stop (o := ⟨_, .range _ _, _, _, _, none⟩) ?_) | (with_reducible refine wpL_stop (o := ⟨_, .mapUpdate _ _ _ _, _, _, _, none⟩) ?_) | (with_reducible refine wpL_stop (o := ⟨_, .convert 175 9 _, _, _, _, none⟩) ?_) | (with_reducible refine wpL_stop (o := ⟨_, .convert 9 175 _, _, _, _, none⟩) ?_) | (with_reducible refine wpL_stop (o := ⟨_, .call { callee := .builtin .copy, args := _, argTypes := _ }, _, _, _, none⟩) ?_) | (with_reducible refine wpL_stop (o := ⟨_, .call { callee := .builtin .append, args := _, argTypes := _ }, _, _, _, none⟩) ?_) | (with_reducible refine wpL_stop (o := ⟨_, .call { callee := .builtin .clear, args := _, argTypes := _ }, _, _, _, none⟩) ?_) | (with_reducible refine wpL_stop (o := ⟨_, .makeSlice _ _ _, _, _, _, none⟩) ?_) | (with_reducible refine wpL_stop (o := ⟨_, .makeMap _ _, _, _, _, none⟩) ?_) | (with_reducible refine wpL_stop (o := ⟨_, .entry _, _, _, _, none⟩) ?_) | (with_reducible refine wpL_stop (o := ⟨_, .call { callee := .builtin .max, args := _, argTypes := _ }, _, _, _, none⟩) ?_) | (with_reducible refine wpL_stop (o := ⟨_, .call { callee := .builtin .min, args := _, argTypes := _ }, _, _, _, none⟩) ?_) | (with_reducible refine wpL_stop (o := ⟨_, .slice 177 _ none (some _) none, _, _, _, none⟩) ?_) | (with_reducible refine wpL_stop (o := ⟨_, .binOp .add 9 _ _ _, _, _, _, none⟩) ?_) | (with_reducible refine wpL_stop (o := ⟨_, .slice 9 _ _ _ _, _, _, _, none⟩) ?_))
      go_ret
      exact ⟨_, rfl, World.ownsRow_nil _ _ _ _, fu⟩
    · have k1' : decide ((b.toNat : Int) < 1) = false := by simp; omega
      by_cases k2 : 16 < b.toNat
      · rw [if_pos (.inr (.inr k2))] at hT
        subst hT
        have k2' : decide (16 < (b.toNat : Int)) = true := by simp; omega
        clear k1 k2
        go_enter Tryz.func150, Tryz.ntmps150
        go_wp2_with fail
        refine (hg _).mono ?_
        rintro e w1 ⟨rfl, f1⟩
        have hcw1 := cell_fr f1 hc0 (by simp)
        go_wp2_with fail
        refine (hu _).mono ?_
        rintro e w2 ⟨rfl, f2⟩
        have fu := (f1.trans f2).alloc (.cells #[.int .i64 t, str data, .bool true] 172)
        have gu := heap_alloc_new w2 (.cells #[.int .i64 t, str data, .bool true] 172)
        go_wp2_with (first | (with_reducible refine wpL_stop (o := ⟨_, .alloc 177, _, _, _, none⟩) ?_) | (with_reducible refine wpL_stop (o := ⟨_, .load 177 _, _, _, _, none⟩) ?_) | (with_reducible refine wpL_stop (o := ⟨_, .store 177 _ _, _, _, _, none⟩) ?_) | (with_reducible refine wpL_stop (o := ⟨_, .lookup _ _ _ _, _, _, _, none⟩) ?_) | (with_reducible refine wpL_stop (o := ⟨_, .box 177 _, _, _, _, none⟩) ?_) | (with_reducible refine wpL_stop (o := ⟨_, .next _ _, _, _, _, none⟩) ?_) | (with_reducible refine wpL_stop (o := ⟨_, .range _ _, _, _, _, none⟩) ?_) | (with_reducible refine wpL_stop (o := ⟨_, .mapUpdate _ _ _ _, _, _, _, none⟩) ?_) | (with_reducible refine wpL_stop (o := ⟨_, .convert 175 9 _, _, _, _, none⟩) ?_) | (with_reducible refine wpL_stop (o := ⟨_, .convert 9 175 _, _, _, _, none⟩) ?_) | (with_reducible refine wpL_stop (o := ⟨_, .call { callee := .builtin .copy, args := _, argTypes := _ }, _, _, _, none⟩) ?_) | (with_reducible refine wpL_stop (o := ⟨_, .call { callee := .builtin .append, args := _, argTypes := _ }, _, _, _, none⟩) ?_) | (with_reducible refine wpL_stop (o := ⟨_, .call { callee := .builtin .clear, args := _, argTypes := _ }, _, _, _, none⟩) ?_) | (with_reducible refine wpL_stop (o := ⟨_, .makeSlice _ _ _, _, _, _, none⟩) ?_) | (with_reducible refine wpL_stop (o := ⟨_, .makeMap _ _, _, _, _, none⟩) ?_) | (with_reducible refine wpL_stop (o := ⟨_, .entry _, _, _, _, none⟩) ?_) | (with_reducible refine wpL_stop (o := ⟨_, .call { callee := .builtin .max, args := _, argTypes := _ }, _, _, _, none⟩) ?_) | (with_reducible refine wpL_stop (o := ⟨_, .call { callee := .builtin .min, args := _, argTypes := _ }, _, _, _, none⟩) ?_) | (with_reducible refine wpL_stop (o := ⟨_, .slice 177 _ none (some _) none, _, _, _, none⟩) ?_) | (with_reducible refine wpL_stop (o := ⟨_, .binOp .add 9 _ _ _, _, _, _, none⟩) ?_) | (with_reducible refine wpL_stop (o := ⟨_, .slice 9 _ _ _ _, _, _, _, none⟩) ?_))
        go_ret
        exact ⟨_, rfl, World.ownsRow_nil _ _ _ _, fu⟩
      · have k2' : decide (16 < (b.toNat : Int)) = false := by simp; omega
        rw [if_neg (by omega)] at hT
        generalize hk9 : b.toNat = k at hT k1 k2 k1' k2' hb
        have HT := Lib.hid hT
        have k3 : (k : Int) ≤ 16 := by omega
        clear hT k1
        go_enter Tryz.func150, Tryz.ntmps150
        go_wp2_with fail
        refine (hg _).mono ?_
        rintro e w1 ⟨rfl, f1⟩
        have hcw1 := cell_fr f1 hc0 (by simp)
        go_wp2_with fail
        refine (hu _).mono ?_
        rintro e w2 ⟨rfl, f2⟩
        have fu := (f1.trans f2).alloc (.cells #[.int .i64 t, str data, .bool true] 172)
        have gu := heap_alloc_new w2 (.cells #[.int .i64 t, str data, .bool true] 172)
        go_wp2_with (first | (with_reducible refine wpL_stop (o := ⟨_, .alloc 177, _, _, _, none⟩) ?_) | (with_reducible refine wpL_stop (o := ⟨_, .load 177 _, _, _, _, none⟩) ?_) | (with_reducible refine wpL_stop (o := ⟨_, .store 177 _ _, _, _, _, none⟩) ?_) | (with_reducible refine wpL_stop (o := ⟨_, .lookup _ _ _ _, _, _, _, none⟩) ?_) | (with_reducible refine wpL_stop (o := ⟨_, .box 177 _, _, _, _, none⟩) ?_) | (with_reducible refine wpL_stop (o := ⟨_, .next _ _, _, _, _, none⟩) ?_) | (with_reducible refine wpL_stop (o := ⟨_, .range _ _, _, _, _, none⟩) ?_) | (with_reducible refine wpL_stop (o := ⟨_, .mapUpdate _ _ _ _, _, _, _, none⟩) ?_) | (with_reducible refine wpL_stop (o := ⟨_, .convert 175 9 _, _, _, _, none⟩) ?_) | (with_reducible refine wpL_stop (o := ⟨_, .convert 9 175 _, _, _, _, none⟩) ?_) | (with_reducible refine wpL_stop (o := ⟨_, .call { callee := .builtin .copy, args := _, argTypes := _ }, _, _, _, none⟩) ?_) | (with_reducible refine wpL_stop (o := ⟨_, .call { callee := .builtin .append, args := _, argTypes := _ }, _, _, _, none⟩) ?_) | (with_reducible refine wpL_stop (o := ⟨_, .call { callee := .builtin .clear, args := _, argTypes := _ }, _, _, _, none⟩) ?_) | (with_reducible refine wpL_stop (o := ⟨_, .makeSlice _ _ _, _, _, _, none⟩) ?_) | (with_reducible refine wpL_stop (o := ⟨_, .makeMap _ _, _, _, _, none⟩) ?_) | (with_reducible refine wpL_stop (o := ⟨_, .entry _, _, _, _, none⟩) ?_) | (with_reducible refine wpL_stop (o := ⟨_, .call { callee := .builtin .max, args := _, argTypes := _ }, _, _, _, none⟩) ?_) | (with_reducible refine wpL_stop (o := ⟨_, .call { callee := .builtin .min, args := _, argTypes := _ }, _, _, _, none⟩) ?_) | (with_reducible refine wpL_stop (o := ⟨_, .slice 177 _ none (some _) none, _, _, _, none⟩) ?_) | (with_reducible refine wpL_stop (o := ⟨_, .binOp .add 9 _ _ _, _, _, _, none⟩) ?_) | (with_reducible refine wpL_stop (o := ⟨_, .slice 9 _ _ _ _, _, _, _, none⟩) ?_))
        generalize w2.alloc (.cells #[.int .i64 t, str data, .bool true] 172) = w3 at fu gu ⊢
        have hs2 : w2.heap.size < w3.heap.size := lt_of_heap gu
        have hs0 : w.heap.size ≤ w2.heap.size := (f1.trans f2).size
        go_loopg [6, 7, 8] k (fun kq ov lv i w' => ∃ n : Nat, i = .int .i64 n ∧ n ≤ k ∧ Hid (kq + n = k) ∧ Hid ((List.range n).all (tgood im t data) = true) ∧ w'.heap[w2.heap.size]? = some (.cells #[.int .i64 t, str data, .bool true] 172 (0, 0)) ∧ w'.ownsRow (w2.heap.size + 1) 3 1 ov n (natv (txs data n)) ∧ w'.ownsRow (w2.heap.size + 1) 92 2 lv n (pwv (bare (txs data n))) ∧ (∀ k, ov.ownBlock = some k → lv.ownBlock ≠ some k) ∧ Fr [] w w')
        case atStart => exact ⟨0, rfl, by omega, by simp [Hid], by simp [Hid], gu, World.ownsRow_nil _ _ _ _, World.ownsRow_nil _ _ _ _, (by intro k h; cases h), fu⟩
        case round =>
          obtain ⟨n, rfl, hn, hkq, ha, gr, R, L, hne, fr⟩ := hrel
          by_cases hlt : n < k
          · have hlt' : (n : Int) < (k : Int) := by omega
            have n16 : (n : Int) < 16 := by omega
            have hx16 := tx_lt data n
            have hi1 : 1 + n < im.length := by omega
            obtain ⟨g', hg', _, hc1⟩ := own_cell_fr (S := []) hown fr (by simp) (j := 1 + n) (v := str im[1 + n]) (by simp [hi1])
            obtain rfl : g' = g := by simpa using hg'.symm
            have hu1 := rUnseal_calls im[1 + n] (by rw [h128 _ (List.getElem_mem hi1)]; omega)
            have hg1 := rGood_calls im[1 + n] (by rw [h128 _ (List.getElem_mem hi1)]; omega)
            rw [good_n] at hg1
            have hU1 : im.getD (1 + n) [] = im[1 + n] := by simp [List.getD, hi1]
            have hG : tgood im t data n = ((unsealed im[1 + n]).ok && decide ((unsealed im[1 + n]).n = t) && decide ((tx data n : Int) < im.length - 17) && (decide (n = 0) || decide (tx data (n - 1) < tx data n))) := by unfold tgood; rw [hU1]
            have nil_of : tgood im t data n = false → T = [] := fun hb0 => by rw [← HT.out, if_neg (by rw [all_false hb0 hlt]; simp)]
            have HU : (unsealed im[1 + n]).n ≠ 0 → (unsealed im[1 + n]).ok = true := fun h => by
              cases h9 : (unsealed im[1 + n]).ok with
              | true => rfl
              | false => exact absurd (unsealed_n h9) h
            have hub := unsealed_lt im[1 + n]
            generalize im[1 + n] = p1 at hc1 hu1 hg1 hG HU hub
            unfold unv at hu1
            generalize unsealed p1 = u2 at hu1 hg1 hG HU hub
            obtain ⟨n2, d2, ok2⟩ := u2
            simp only at hu1 hg1 hG HU hub
            have q1 : 1 + 2 * n < data.length := by omega
            have q2 : 2 + 2 * n < data.length := by omega
            have hx := tx_two data n _ _ (List.getElem?_eq_getElem q1) (List.getElem?_eq_getElem q2)
            have a1 := str_at data (1 + 2 * n) q1
            have a2 := str_at data (2 + 2 * n) q2
            generalize data[1 + 2 * n]'q1 = b1 at hx a1
            generalize data[2 + 2 * n]'q2 = b2 at hx a2
            have hb1 := b1.toNat_lt
            have hb2 := b2.toNat_lt
            have q1' : 1 + 2 * (n : Int) < 116 := by omega
            have q2' : 2 + 2 * (n : Int) < 116 := by omega
            have q3' : 0 ≤ 1 + 2 * (n : Int) := by omega
            have q4' : 0 ≤ 2 + 2 * (n : Int) := by omega
            have W0 : IntKind.i64.wrap (2 * (n : Int)) = 2 * n := by rw [IntKind.wrap_i64]; omega
            have W1 : IntKind.i64.wrap (1 + 2 * (n : Int)) = 1 + 2 * n := by rw [IntKind.wrap_i64]; omega
            have W2 : IntKind.i64.wrap (2 + 2 * (n : Int)) = 2 + 2 * n := by rw [IntKind.wrap_i64]; omega
            have W5 : IntKind.i64.wrap (b1.toNat : Int) = b1.toNat := by rw [IntKind.wrap_i64]; omega
            have W6 : IntKind.i64.wrap (b2.toNat : Int) = b2.toNat := by rw [IntKind.wrap_i64]; omega
            have W3 : IntKind.i64.wrap ((b2.toNat : Int) * 256) = b2.toNat * 256 := by rw [IntKind.wrap_i64]; omega
            have W4 : IntKind.i64.wrap ((b1.toNat : Int) + b2.toNat * 256) = tx data n := by rw [IntKind.wrap_i64, hx]; omega
            have t1 : (1 + 2 * (n : Int)).toNat = 1 + 2 * n := by omega
            have t2 : (2 + 2 * (n : Int)).toNat = 2 + 2 * n := by omega
            have HG := Lib.hid hG
            have HX := Lib.hid hx
            have HGP := Lib.hid hg'
            clear hG hx hg' hU1
            have c1 : wr.cell? ⟨w2.heap.size, 1, none⟩ = some (str data) := blk_cell gr 1 rfl
            go_wp2_with fail
            refine wp_region_keep (fun w' => w'.cell? ⟨w2.heap.size, 1, none⟩ = some (str data)) 100 (by kernel_rfl) ?_
            have hS : wr.drew.cell? ⟨w2.heap.size, 1, none⟩ = some (str data) := c1
            refine keepTake (i := 0) (v := ?_) (a' := ?_) rfl (by kernel_rfl) (by kernel_rfl) (by kernel_rfl) (by kernel_rfl) (by kernel_rfl) (by kernel_rfl) (fun w hSw => ?_) hS ?_ ?_
            rotate_left 2
            · (try dsimp only at hSw); (try (have hSa := hSw.1; have hSb := hSw.2)); (try (have hSc := hSb.1; have hSd := hSb.2)); go_simp; with_reducible rfl
            · go_simp; with_reducible rfl
            refine keepTake (i := 1) (v := ?_) (a' := ?_) rfl (by kernel_rfl) (by kernel_rfl) (by kernel_rfl) (by kernel_rfl) (by kernel_rfl) (by kernel_rfl) (fun w hSw => ?_) hS ?_ ?_
            rotate_left 2
            · (try dsimp only at hSw); (try (have hSa := hSw.1; have hSb := hSw.2)); (try (have hSc := hSb.1; have hSd := hSb.2)); go_simp; with_reducible rfl
            · go_simp; with_reducible rfl
            refine keepTake (i := 2) (v := ?_) (a' := ?_) rfl (by kernel_rfl) (by kernel_rfl) (by kernel_rfl) (by kernel_rfl) (by kernel_rfl) (by kernel_rfl) (fun w hSw => ?_) hS ?_ ?_
            rotate_left 2
            · (try dsimp only at hSw); (try (have hSa := hSw.1; have hSb := hSw.2)); (try (have hSc := hSb.1; have hSd := hSb.2)); go_simp; with_reducible rfl
            · go_simp; with_reducible rfl
            refine keepTake (i := 3) (v := ?_) (a' := ?_) rfl (by kernel_rfl) (by kernel_rfl) (by kernel_rfl) (by kernel_rfl) (by kernel_rfl) (by kernel_rfl) (fun w hSw => ?_) hS ?_ ?_
            rotate_left 2
            · (try dsimp only at hSw); (try (have hSa := hSw.1; have hSb := hSw.2)); (try (have hSc := hSb.1; have hSd := hSb.2)); go_simp; with_reducible rfl
            · go_simp; with_reducible rfl
            refine keepTake (i := 4) (v := ?_) (a' := ?_) rfl (by kernel_rfl) (by kernel_rfl) (by kernel_rfl) (by kernel_rfl) (by kernel_rfl) (by kernel_rfl) (fun w hSw => ?_) hS ?_ ?_
            rotate_left 2
            · (try dsimp only at hSw); (try (have hSa := hSw.1; have hSb := hSw.2)); (try (have hSc := hSb.1; have hSd := hSb.2)); go_simp; with_reducible rfl
            · go_simp; with_reducible rfl
            refine keepTake (i := 5) (v := ?_) (a' := ?_) rfl (by kernel_rfl) (by kernel_rfl) (by kernel_rfl) (by kernel_rfl) (by kernel_rfl) (by kernel_rfl) (fun w hSw => ?_) hS ?_ ?_
            rotate_left 2
            · (try dsimp only at hSw); (try (have hSa := hSw.1; have hSb := hSw.2)); (try (have hSc := hSb.1; have hSd := hSb.2)); go_simp; with_reducible rfl
            · go_simp; with_reducible rfl
            refine keepTake (i := 6) (v := ?_) (a' := ?_) rfl (by kernel_rfl) (by kernel_rfl) (by kernel_rfl) (by kernel_rfl) (by kernel_rfl) (by kernel_rfl) (fun w hSw => ?_) hS ?_ ?_
            rotate_left 2
            · (try dsimp only at hSw); (try (have hSa := hSw.1; have hSb := hSw.2)); (try (have hSc := hSb.1; have hSd := hSb.2)); go_simp; with_reducible rfl
            · go_simp; with_reducible rfl
            refine keepTake (i := 7) (v := ?_) (a' := ?_) rfl (by kernel_rfl) (by kernel_rfl) (by kernel_rfl) (by kernel_rfl) (by kernel_rfl) (by kernel_rfl) (fun w hSw => ?_) hS ?_ ?_
            rotate_left 2
            · (try dsimp only at hSw); (try (have hSa := hSw.1; have hSb := hSw.2)); (try (have hSc := hSb.1; have hSd := hSb.2)); go_simp; with_reducible rfl
            · go_simp; with_reducible rfl
            refine keepTake (i := 8) (v := ?_) (a' := ?_) rfl (by kernel_rfl) (by kernel_rfl) (by kernel_rfl) (by kernel_rfl) (by kernel_rfl) (by kernel_rfl) (fun w hSw => ?_) hS ?_ ?_
            rotate_left 2
            · (try dsimp only at hSw); (try (have hSa := hSw.1; have hSb := hSw.2)); (try (have hSc := hSb.1; have hSd := hSb.2)); go_simp; with_reducible rfl
            · go_simp; with_reducible rfl
            refine keepTake (i := 9) (v := ?_) (a' := ?_) rfl (by kernel_rfl) (by kernel_rfl) (by kernel_rfl) (by kernel_rfl) (by kernel_rfl) (by kernel_rfl) (fun w hSw => ?_) hS ?_ ?_
            rotate_left 2
            · (try dsimp only at hSw); (try (have hSa := hSw.1; have hSb := hSw.2)); (try (have hSc := hSb.1; have hSd := hSb.2)); go_simp; with_reducible rfl
            · go_simp; with_reducible rfl
            refine keepTake (i := 10) (v := ?_) (a' := ?_) rfl (by kernel_rfl) (by kernel_rfl) (by kernel_rfl) (by kernel_rfl) (by kernel_rfl) (by kernel_rfl) (fun w hSw => ?_) hS ?_ ?_
            rotate_left 2
            · (try dsimp only at hSw); (try (have hSa := hSw.1; have hSb := hSw.2)); (try (have hSc := hSb.1; have hSd := hSb.2)); go_simp; with_reducible rfl
            · go_simp; with_reducible rfl
            refine keepTake (i := 11) (v := ?_) (a' := ?_) rfl (by kernel_rfl) (by kernel_rfl) (by kernel_rfl) (by kernel_rfl) (by kernel_rfl) (by kernel_rfl) (fun w hSw => ?_) hS ?_ ?_
            rotate_left 2
            · (try dsimp only at hSw); (try (have hSa := hSw.1; have hSb := hSw.2)); (try (have hSc := hSb.1; have hSd := hSb.2)); go_simp; with_reducible rfl
            · go_simp; with_reducible rfl
            refine keepTake (i := 12) (v := ?_) (a' := ?_) rfl (by kernel_rfl) (by kernel_rfl) (by kernel_rfl) (by kernel_rfl) (by kernel_rfl) (by kernel_rfl) (fun w hSw => ?_) hS ?_ ?_
            rotate_left 2
            · (try dsimp only at hSw); (try (have hSa := hSw.1; have hSb := hSw.2)); (try (have hSc := hSb.1; have hSd := hSb.2)); go_simp; with_reducible rfl
            · go_simp; with_reducible rfl
            refine keepTake (i := 13) (v := ?_) (a' := ?_) rfl (by kernel_rfl) (by kernel_rfl) (by kernel_rfl) (by kernel_rfl) (by kernel_rfl) (by kernel_rfl) (fun w hSw => ?_) hS ?_ ?_
            rotate_left 2
            · (try dsimp only at hSw); (try (have hSa := hSw.1; have hSb := hSw.2)); (try (have hSc := hSb.1; have hSd := hSb.2)); go_simp; with_reducible rfl
            · go_simp; with_reducible rfl
            refine keepTake (i := 14) (v := ?_) (a' := ?_) rfl (by kernel_rfl) (by kernel_rfl) (by kernel_rfl) (by kernel_rfl) (by kernel_rfl) (by kernel_rfl) (fun w hSw => ?_) hS ?_ ?_
            rotate_left 2
            · (try dsimp only at hSw); (try (have hSa := hSw.1; have hSb := hSw.2)); (try (have hSc := hSb.1; have hSd := hSb.2)); go_simp; with_reducible rfl
            · go_simp; with_reducible rfl
            refine keepTake (i := 15) (v := ?_) (a' := ?_) rfl (by kernel_rfl) (by kernel_rfl) (by kernel_rfl) (by kernel_rfl) (by kernel_rfl) (by kernel_rfl) (fun w hSw => ?_) hS ?_ ?_
            rotate_left 2
            · (try dsimp only at hSw); (try (have hSa := hSw.1; have hSb := hSw.2)); (try (have hSc := hSb.1; have hSd := hSb.2)); go_simp; with_reducible rfl
            · go_simp; with_reducible rfl
            refine keepReady (rs := [16]) (by kernel_rfl) (by simp) ?_
            refine AllK.cons rfl (fun K hK => ?_) AllK.nil
            go_simp
            try dsimp only
            refine hK _ _ (fun _ => hS) ?_
            clear hK K
            try simp only [Act.put, List.setIfInBounds_toArray, List.set_cons_zero, List.set_cons_succ]
            refine keepDone (by kernel_rfl) ?_ _
            clear a1 a2 W0 W1 W2 W3 W4 W5 W6 q1' q2' q3' q4' hS hb1 hb2 HX hg hu hat
            have hS0 : wr.cell? ⟨w2.heap.size, 0, none⟩ = some (.int .i64 t) := blk_cell gr 0 rfl
            have hG := HG.out
            have HUU := Lib.hid HU
            have NIL := Lib.hid nil_of
            have HNE := Lib.hid hne
            clear HU nil_of hne
            have i1 : IntKind.i64.wrap (1 + (n : Int)) = 1 + n := by rw [IntKind.wrap_i64]; omega
            have i2 : (1 + (n : Int)) < im.length := by omega
            have i3 : (1 + (n : Int)).toNat = 1 + n := by omega
            have i4 : 0 ≤ 1 + (n : Int) := by omega
            have i5 : IntKind.i64.wrap ((im.length : Int) - 17) = im.length - 17 := by rw [IntKind.wrap_i64]; omega
            by_cases hz : n2 = 0
            ·
              have hb0 : tgood im t data n = false := by rw [hG]; simp [show ¬ n2 = t by omega]
              have HN := Lib.hid (NIL.out hb0)
              rw [show decide (n2 ≠ 0) = false by simp [hz]] at hg1
              clear hb0 hG hz
              go_wp2_with fail
              refine (hg1 _).mono ?_
              rintro e w5 ⟨rfl, f5⟩
              have F5 : Fr [] w w5 := fr.drew.trans f5
              go_upto_region 15 with fail
              refine wp_region_keep (fun _ => True) 100 (by kernel_rfl) ?_
              have hS : True := trivial
              refine keepTake (i := 0) (v := ?_) (a' := ?_) rfl (by kernel_rfl) (by kernel_rfl) (by kernel_rfl) (by kernel_rfl) (by kernel_rfl) (by kernel_rfl) (fun w hSw => ?_) hS ?_ ?_
              rotate_left 2
              · (try dsimp only at hSw); (try (have hSa := hSw.1; have hSb := hSw.2)); (try (have hSc := hSb.1; have hSd := hSb.2)); go_simp; with_reducible rfl
              · go_simp; with_reducible rfl
              refine keepTake (i := 1) (v := ?_) (a' := ?_) rfl (by kernel_rfl) (by kernel_rfl) (by kernel_rfl) (by kernel_rfl) (by kernel_rfl) (by kernel_rfl) (fun w hSw => ?_) hS ?_ ?_
              rotate_left 2
              · (try dsimp only at hSw); (try (have hSa := hSw.1; have hSb := hSw.2)); (try (have hSc := hSb.1; have hSd := hSb.2)); go_simp; with_reducible rfl
              · go_simp; with_reducible rfl
              refine keepTake (i := 2) (v := ?_) (a' := ?_) rfl (by kernel_rfl) (by kernel_rfl) (by kernel_rfl) (by kernel_rfl) (by kernel_rfl) (by kernel_rfl) (fun w hSw => ?_) hS ?_ ?_
              rotate_left 2
              · (try dsimp only at hSw); (try (have hSa := hSw.1; have hSb := hSw.2)); (try (have hSc := hSb.1; have hSd := hSb.2)); go_simp; with_reducible rfl
              · go_simp; with_reducible rfl
              refine keepSkip (i := 3) (a' := ?_) rfl (by kernel_rfl) (by kernel_rfl) (by kernel_rfl) (by kernel_rfl) (by kernel_rfl) (by kernel_rfl) hS ?_ ?_
              rotate_left 1
              · go_simp; with_reducible rfl
              refine keepSkip (i := 4) (a' := ?_) rfl (by kernel_rfl) (by kernel_rfl) (by kernel_rfl) (by kernel_rfl) (by kernel_rfl) (by kernel_rfl) hS ?_ ?_
              rotate_left 1
              · go_simp; with_reducible rfl
              refine keepSkip (i := 5) (a' := ?_) rfl (by kernel_rfl) (by kernel_rfl) (by kernel_rfl) (by kernel_rfl) (by kernel_rfl) (by kernel_rfl) hS ?_ ?_
              rotate_left 1
              · go_simp; with_reducible rfl
              refine keepSkip (i := 6) (a' := ?_) rfl (by kernel_rfl) (by kernel_rfl) (by kernel_rfl) (by kernel_rfl) (by kernel_rfl) (by kernel_rfl) hS ?_ ?_
              rotate_left 1
              · go_simp; with_reducible rfl
              refine keepSkip (i := 7) (a' := ?_) rfl (by kernel_rfl) (by kernel_rfl) (by kernel_rfl) (by kernel_rfl) (by kernel_rfl) (by kernel_rfl) hS ?_ ?_
              rotate_left 1
              · go_simp; with_reducible rfl
              refine keepSkip (i := 8) (a' := ?_) rfl (by kernel_rfl) (by kernel_rfl) (by kernel_rfl) (by kernel_rfl) (by kernel_rfl) (by kernel_rfl) hS ?_ ?_
              rotate_left 1
              · go_simp; with_reducible rfl
              refine keepSkip (i := 9) (a' := ?_) rfl (by kernel_rfl) (by kernel_rfl) (by kernel_rfl) (by kernel_rfl) (by kernel_rfl) (by kernel_rfl) hS ?_ ?_
              rotate_left 1
              · go_simp; with_reducible rfl
              refine keepSkip (i := 10) (a' := ?_) rfl (by kernel_rfl) (by kernel_rfl) (by kernel_rfl) (by kernel_rfl) (by kernel_rfl) (by kernel_rfl) hS ?_ ?_
              rotate_left 1
              · go_simp; with_reducible rfl
              refine keepSkip (i := 11) (a' := ?_) rfl (by kernel_rfl) (by kernel_rfl) (by kernel_rfl) (by kernel_rfl) (by kernel_rfl) (by kernel_rfl) hS ?_ ?_
              rotate_left 1
              · go_simp; with_reducible rfl
              refine keepSkip (i := 12) (a' := ?_) rfl (by kernel_rfl) (by kernel_rfl) (by kernel_rfl) (by kernel_rfl) (by kernel_rfl) (by kernel_rfl) hS ?_ ?_
              rotate_left 1
              · go_simp; with_reducible rfl
              refine keepTake (i := 13) (v := ?_) (a' := ?_) rfl (by kernel_rfl) (by kernel_rfl) (by kernel_rfl) (by kernel_rfl) (by kernel_rfl) (by kernel_rfl) (fun w hSw => ?_) hS ?_ ?_
              rotate_left 2
              · (try dsimp only at hSw); (try (have hSa := hSw.1; have hSb := hSw.2)); (try (have hSc := hSb.1; have hSd := hSb.2)); go_simp; with_reducible rfl
              · go_simp; with_reducible rfl
              refine keepTake (i := 14) (v := ?_) (a' := ?_) rfl (by kernel_rfl) (by kernel_rfl) (by kernel_rfl) (by kernel_rfl) (by kernel_rfl) (by kernel_rfl) (fun w hSw => ?_) hS ?_ ?_
              rotate_left 2
              · (try dsimp only at hSw); (try (have hSa := hSw.1; have hSb := hSw.2)); (try (have hSc := hSb.1; have hSd := hSb.2)); go_simp; with_reducible rfl
              · go_simp; with_reducible rfl
              refine keepSkip (i := 15) (a' := ?_) rfl (by kernel_rfl) (by kernel_rfl) (by kernel_rfl) (by kernel_rfl) (by kernel_rfl) (by kernel_rfl) hS ?_ ?_
              rotate_left 1
              · go_simp; with_reducible rfl
              refine keepSkip (i := 16) (a' := ?_) rfl (by kernel_rfl) (by kernel_rfl) (by kernel_rfl) (by kernel_rfl) (by kernel_rfl) (by kernel_rfl) hS ?_ ?_
              rotate_left 1
              · go_simp; with_reducible rfl
              refine keepSkip (i := 17) (a' := ?_) rfl (by kernel_rfl) (by kernel_rfl) (by kernel_rfl) (by kernel_rfl) (by kernel_rfl) (by kernel_rfl) hS ?_ ?_
              rotate_left 1
              · go_simp; with_reducible rfl
              refine keepSkip (i := 18) (a' := ?_) rfl (by kernel_rfl) (by kernel_rfl) (by kernel_rfl) (by kernel_rfl) (by kernel_rfl) (by kernel_rfl) hS ?_ ?_
              rotate_left 1
              · go_simp; with_reducible rfl
              refine keepSkip (i := 19) (a' := ?_) rfl (by kernel_rfl) (by kernel_rfl) (by kernel_rfl) (by kernel_rfl) (by kernel_rfl) (by kernel_rfl) hS ?_ ?_
              rotate_left 1
              · go_simp; with_reducible rfl
              refine keepTake (i := 20) (v := ?_) (a' := ?_) rfl (by kernel_rfl) (by kernel_rfl) (by kernel_rfl) (by kernel_rfl) (by kernel_rfl) (by kernel_rfl) (fun w hSw => ?_) hS ?_ ?_
              rotate_left 2
              · (try dsimp only at hSw); (try (have hSa := hSw.1; have hSb := hSw.2)); (try (have hSc := hSb.1; have hSd := hSb.2)); go_simp; with_reducible rfl
              · go_simp; with_reducible rfl
              refine keepTake (i := 21) (v := ?_) (a' := ?_) rfl (by kernel_rfl) (by kernel_rfl) (by kernel_rfl) (by kernel_rfl) (by kernel_rfl) (by kernel_rfl) (fun w hSw => ?_) hS ?_ ?_
              rotate_left 2
              · (try dsimp only at hSw); (try (have hSa := hSw.1; have hSb := hSw.2)); (try (have hSc := hSb.1; have hSd := hSb.2)); go_simp; with_reducible rfl
              · go_simp; with_reducible rfl
              refine keepSkip (i := 22) (a' := ?_) rfl (by kernel_rfl) (by kernel_rfl) (by kernel_rfl) (by kernel_rfl) (by kernel_rfl) (by kernel_rfl) hS ?_ ?_
              rotate_left 1
              · go_simp; with_reducible rfl
              refine keepSkip (i := 23) (a' := ?_) rfl (by kernel_rfl) (by kernel_rfl) (by kernel_rfl) (by kernel_rfl) (by kernel_rfl) (by kernel_rfl) hS ?_ ?_
              rotate_left 1
              · go_simp; with_reducible rfl
              refine keepSkip (i := 24) (a' := ?_) rfl (by kernel_rfl) (by kernel_rfl) (by kernel_rfl) (by kernel_rfl) (by kernel_rfl) (by kernel_rfl) hS ?_ ?_
              rotate_left 1
              · go_simp; with_reducible rfl
              refine keepSkip (i := 25) (a' := ?_) rfl (by kernel_rfl) (by kernel_rfl) (by kernel_rfl) (by kernel_rfl) (by kernel_rfl) (by kernel_rfl) hS ?_ ?_
              rotate_left 1
              · go_simp; with_reducible rfl
              refine keepSkip (i := 26) (a' := ?_) rfl (by kernel_rfl) (by kernel_rfl) (by kernel_rfl) (by kernel_rfl) (by kernel_rfl) (by kernel_rfl) hS ?_ ?_
              rotate_left 1
              · go_simp; with_reducible rfl
              refine keepSkip (i := 27) (a' := ?_) rfl (by kernel_rfl) (by kernel_rfl) (by kernel_rfl) (by kernel_rfl) (by kernel_rfl) (by kernel_rfl) hS ?_ ?_
              rotate_left 1
              · go_simp; with_reducible rfl
              refine keepSkip (i := 28) (a' := ?_) rfl (by kernel_rfl) (by kernel_rfl) (by kernel_rfl) (by kernel_rfl) (by kernel_rfl) (by kernel_rfl) hS ?_ ?_
              rotate_left 1
              · go_simp; with_reducible rfl
              refine keepSkip (i := 29) (a' := ?_) rfl (by kernel_rfl) (by kernel_rfl) (by kernel_rfl) (by kernel_rfl) (by kernel_rfl) (by kernel_rfl) hS ?_ ?_
              rotate_left 1
              · go_simp; with_reducible rfl
              refine keepSkip (i := 30) (a' := ?_) rfl (by kernel_rfl) (by kernel_rfl) (by kernel_rfl) (by kernel_rfl) (by kernel_rfl) (by kernel_rfl) hS ?_ ?_
              rotate_left 1
              · go_simp; with_reducible rfl
              refine keepSkip (i := 31) (a' := ?_) rfl (by kernel_rfl) (by kernel_rfl) (by kernel_rfl) (by kernel_rfl) (by kernel_rfl) (by kernel_rfl) hS ?_ ?_
              rotate_left 1
              · go_simp; with_reducible rfl
              refine keepSkip (i := 32) (a' := ?_) rfl (by kernel_rfl) (by kernel_rfl) (by kernel_rfl) (by kernel_rfl) (by kernel_rfl) (by kernel_rfl) hS ?_ ?_
              rotate_left 1
              · go_simp; with_reducible rfl
              refine keepReady (rs := [33]) (by kernel_rfl) (by simp) ?_
              refine AllK.cons rfl (fun K hK => ?_) AllK.nil
              go_simp
              try dsimp only
              refine hK _ _ (fun _ => hS) ?_
              clear hK K
              try simp only [Act.put, List.setIfInBounds_toArray, List.set_cons_zero, List.set_cons_succ]
              refine keepDone (by kernel_rfl) ?_ _
              go_wp2_with fail
              go_ret
              refine ⟨_, rfl, ?_, F5.drew⟩
              rw [HN.out]
              exact World.ownsRow_nil _ _ _ _
            · rw [show decide (n2 ≠ 0) = true by simp [hz]] at hg1
              rw [HUU.out hz] at hu1 hG
              go_wp2_with fail
              refine (hg1 _).mono ?_
              rintro e w5 ⟨rfl, f5⟩
              have F5 : Fr [] w w5 := fr.drew.trans f5
              have d1 : w5.drew.cell? ⟨g', 1 + n, none⟩ = some (str p1) := cell_fr f5 hc1 (by simp)
              have d0 : w5.drew.cell? ⟨w2.heap.size, 0, none⟩ = some (.int .i64 t) := cell_fr f5 hS0 (by simp)
              go_upto_region 15 with fail
              by_cases e1 : n2 = t
              · have e1' : ((n2 : Int) != (t : Int)) = false := by simp [bne, e1]
                by_cases e2 : (tx data n : Int) < im.length - 17
                · have e2' : decide ((im.length : Int) - 17 ≤ tx data n) = false := by simp; omega
                  by_cases hn0 : n = 0
                  ·
                    have hgd : tgood im t data n = true := by rw [hG, decide_eq_true hn0, decide_eq_true e1, decide_eq_true e2]; rfl
                    have hz0 : n ≤ 0 := by omega
                    have hz1 : decide (0 < n) = false := by simp; omega
                    have hall : (List.range (n + 1)).all (tgood im t data) = true := by
                      rw [List.range_succ, List.all_append]
                      simp only [List.all_cons, List.all_nil, Bool.and_true, Bool.and_eq_true]
                      exact ⟨ha.out, hgd⟩
                    have HA := Lib.hid hall
                    have hts : natv (txs data (n + 1)) = natv (txs data n) ++ [.int .i64 (tx data n)] := by rw [txs_succ, natv_snoc]
                    have HS := Lib.hid hts
                    have htb : pwv (bare (txs data (n + 1))) = pwv (bare (txs data n)) ++ [.int .i64 (tx data n), .string ⟨#[]⟩] := by rw [txs_succ, bare, List.map_append, pwv, List.flatMap_append]; rfl
                    have HB := Lib.hid htb
                    clear hall hts htb hgd hG hz
                    clear hn0 e1 e2
                    refine wp_region_keep (fun w' => w'.cell? ⟨w2.heap.size, 0, none⟩ = some (.int .i64 t) ∧ w'.cell? ⟨g', 1 + n, none⟩ = some (str p1)) 100 (by kernel_rfl) ?_
                    have hS := And.intro d0 d1
                    refine keepTake (i := 0) (v := ?_) (a' := ?_) rfl (by kernel_rfl) (by kernel_rfl) (by kernel_rfl) (by kernel_rfl) (by kernel_rfl) (by kernel_rfl) (fun w hSw => ?_) hS ?_ ?_
                    rotate_left 2
                    · (try dsimp only at hSw); (try (have hSa := hSw.1; have hSb := hSw.2)); (try (have hSc := hSb.1; have hSd := hSb.2)); go_simp; with_reducible rfl
                    · go_simp; with_reducible rfl
                    refine keepTake (i := 1) (v := ?_) (a' := ?_) rfl (by kernel_rfl) (by kernel_rfl) (by kernel_rfl) (by kernel_rfl) (by kernel_rfl) (by kernel_rfl) (fun w hSw => ?_) hS ?_ ?_
                    rotate_left 2
                    · (try dsimp only at hSw); (try (have hSa := hSw.1; have hSb := hSw.2)); (try (have hSc := hSb.1; have hSd := hSb.2)); go_simp; with_reducible rfl
                    · go_simp; with_reducible rfl
                    refine keepTake (i := 2) (v := ?_) (a' := ?_) rfl (by kernel_rfl) (by kernel_rfl) (by kernel_rfl) (by kernel_rfl) (by kernel_rfl) (by kernel_rfl) (fun w hSw => ?_) hS ?_ ?_
                    rotate_left 2
                    · (try dsimp only at hSw); (try (have hSa := hSw.1; have hSb := hSw.2)); (try (have hSc := hSb.1; have hSd := hSb.2)); go_simp; with_reducible rfl
                    · go_simp; with_reducible rfl
                    refine keepTake (i := 3) (v := ?_) (a' := ?_) rfl (by kernel_rfl) (by kernel_rfl) (by kernel_rfl) (by kernel_rfl) (by kernel_rfl) (by kernel_rfl) (fun w hSw => ?_) hS ?_ ?_
                    rotate_left 2
                    · (try dsimp only at hSw); (try (have hSa := hSw.1; have hSb := hSw.2)); (try (have hSc := hSb.1; have hSd := hSb.2)); go_simp; with_reducible rfl
                    · go_simp; with_reducible rfl
                    refine keepTake (i := 4) (v := ?_) (a' := ?_) rfl (by kernel_rfl) (by kernel_rfl) (by kernel_rfl) (by kernel_rfl) (by kernel_rfl) (by kernel_rfl) (fun w hSw => ?_) hS ?_ ?_
                    rotate_left 2
                    · (try dsimp only at hSw); (try (have hSa := hSw.1; have hSb := hSw.2)); (try (have hSc := hSb.1; have hSd := hSb.2)); go_simp; with_reducible rfl
                    · go_simp; with_reducible rfl
                    refine keepTake (i := 5) (v := ?_) (a' := ?_) rfl (by kernel_rfl) (by kernel_rfl) (by kernel_rfl) (by kernel_rfl) (by kernel_rfl) (by kernel_rfl) (fun w hSw => ?_) hS ?_ ?_
                    rotate_left 2
                    · (try dsimp only at hSw); (try (have hSa := hSw.1; have hSb := hSw.2)); (try (have hSc := hSb.1; have hSd := hSb.2)); go_simp; with_reducible rfl
                    · go_simp; with_reducible rfl
                    refine keepTake (i := 6) (v := ?_) (a' := ?_) rfl (by kernel_rfl) (by kernel_rfl) (by kernel_rfl) (by kernel_rfl) (by kernel_rfl) (by kernel_rfl) (fun w hSw => ?_) hS ?_ ?_
                    rotate_left 2
                    · (try dsimp only at hSw); (try (have hSa := hSw.1; have hSb := hSw.2)); (try (have hSc := hSb.1; have hSd := hSb.2)); go_simp; with_reducible rfl
                    · go_simp; with_reducible rfl
                    refine keepTake (i := 7) (v := ?_) (a' := ?_) rfl (by kernel_rfl) (by kernel_rfl) (by kernel_rfl) (by kernel_rfl) (by kernel_rfl) (by kernel_rfl) (fun w hSw => ?_) hS ?_ ?_
                    rotate_left 2
                    · (try dsimp only at hSw); (try (have hSa := hSw.1; have hSb := hSw.2)); (try (have hSc := hSb.1; have hSd := hSb.2)); go_simp; with_reducible rfl
                    · go_simp; with_reducible rfl
                    refine keepTake (i := 10) (v := ?_) (a' := ?_) rfl (by kernel_rfl) (by kernel_rfl) (by kernel_rfl) (by kernel_rfl) (by kernel_rfl) (by kernel_rfl) (fun w hSw => ?_) hS ?_ ?_
                    rotate_left 2
                    · (try dsimp only at hSw); (try (have hSa := hSw.1; have hSb := hSw.2)); (try (have hSc := hSb.1; have hSd := hSb.2)); go_simp; with_reducible rfl
                    · go_simp; with_reducible rfl
                    refine keepTake (i := 11) (v := ?_) (a' := ?_) rfl (by kernel_rfl) (by kernel_rfl) (by kernel_rfl) (by kernel_rfl) (by kernel_rfl) (by kernel_rfl) (fun w hSw => ?_) hS ?_ ?_
                    rotate_left 2
                    · (try dsimp only at hSw); (try (have hSa := hSw.1; have hSb := hSw.2)); (try (have hSc := hSb.1; have hSd := hSb.2)); go_simp; with_reducible rfl
                    · go_simp; with_reducible rfl
                    refine keepReady (rs := [8]) (by kernel_rfl) (by simp) ?_
                    refine AllK.cons rfl (fun K hK => ?_) AllK.nil
                    go_simp
                    refine (hu1 _).mono ?_
                    rintro e w6 ⟨rfl, f6⟩
                    have hfl := unF0
                    have hS := And.intro (cell_fr f6 d0 (by simp)) (cell_fr f6 d1 (by simp))
                    try dsimp only
                    refine hK _ _ (fun _ => hS) ?_
                    clear hK K
                    try simp only [Act.put, List.setIfInBounds_toArray, List.set_cons_zero, List.set_cons_succ]
                    refine keepTake (i := 9) (v := ?_) (a' := ?_) rfl (by kernel_rfl) (by kernel_rfl) (by kernel_rfl) (by kernel_rfl) (by kernel_rfl) (by kernel_rfl) (fun w hSw => ?_) hS ?_ ?_
                    rotate_left 2
                    · (try dsimp only at hSw); (try (have hSa := hSw.1; have hSb := hSw.2)); (try (have hSc := hSb.1; have hSd := hSb.2)); go_simp; with_reducible rfl
                    · go_simp; with_reducible rfl
                    refine keepTake (i := 12) (v := ?_) (a' := ?_) rfl (by kernel_rfl) (by kernel_rfl) (by kernel_rfl) (by kernel_rfl) (by kernel_rfl) (by kernel_rfl) (fun w hSw => ?_) hS ?_ ?_
                    rotate_left 2
                    · (try dsimp only at hSw); (try (have hSa := hSw.1; have hSb := hSw.2)); (try (have hSc := hSb.1; have hSd := hSb.2)); go_simp; with_reducible rfl
                    · go_simp; with_reducible rfl
                    refine keepTake (i := 13) (v := ?_) (a' := ?_) rfl (by kernel_rfl) (by kernel_rfl) (by kernel_rfl) (by kernel_rfl) (by kernel_rfl) (by kernel_rfl) (fun w hSw => ?_) hS ?_ ?_
                    rotate_left 2
                    · (try dsimp only at hSw); (try (have hSa := hSw.1; have hSb := hSw.2)); (try (have hSc := hSb.1; have hSd := hSb.2)); go_simp; with_reducible rfl
                    · go_simp; with_reducible rfl
                    refine keepTake (i := 14) (v := ?_) (a' := ?_) rfl (by kernel_rfl) (by kernel_rfl) (by kernel_rfl) (by kernel_rfl) (by kernel_rfl) (by kernel_rfl) (fun w hSw => ?_) hS ?_ ?_
                    rotate_left 2
                    · (try dsimp only at hSw); (try (have hSa := hSw.1; have hSb := hSw.2)); (try (have hSc := hSb.1; have hSd := hSb.2)); go_simp; with_reducible rfl
                    · go_simp; with_reducible rfl
                    refine keepTake (i := 15) (v := ?_) (a' := ?_) rfl (by kernel_rfl) (by kernel_rfl) (by kernel_rfl) (by kernel_rfl) (by kernel_rfl) (by kernel_rfl) (fun w hSw => ?_) hS ?_ ?_
                    rotate_left 2
                    · (try dsimp only at hSw); (try (have hSa := hSw.1; have hSb := hSw.2)); (try (have hSc := hSb.1; have hSd := hSb.2)); go_simp; with_reducible rfl
                    · go_simp; with_reducible rfl
                    refine keepTake (i := 16) (v := ?_) (a' := ?_) rfl (by kernel_rfl) (by kernel_rfl) (by kernel_rfl) (by kernel_rfl) (by kernel_rfl) (by kernel_rfl) (fun w hSw => ?_) hS ?_ ?_
                    rotate_left 2
                    · (try dsimp only at hSw); (try (have hSa := hSw.1; have hSb := hSw.2)); (try (have hSc := hSb.1; have hSd := hSb.2)); go_simp; with_reducible rfl
                    · go_simp; with_reducible rfl
                    refine keepTake (i := 17) (v := ?_) (a' := ?_) rfl (by kernel_rfl) (by kernel_rfl) (by kernel_rfl) (by kernel_rfl) (by kernel_rfl) (by kernel_rfl) (fun w hSw => ?_) hS ?_ ?_
                    rotate_left 2
                    · (try dsimp only at hSw); (try (have hSa := hSw.1; have hSb := hSw.2)); (try (have hSc := hSb.1; have hSd := hSb.2)); go_simp; with_reducible rfl
                    · go_simp; with_reducible rfl
                    refine keepTake (i := 18) (v := ?_) (a' := ?_) rfl (by kernel_rfl) (by kernel_rfl) (by kernel_rfl) (by kernel_rfl) (by kernel_rfl) (by kernel_rfl) (fun w hSw => ?_) hS ?_ ?_
                    rotate_left 2
                    · (try dsimp only at hSw); (try (have hSa := hSw.1; have hSb := hSw.2)); (try (have hSc := hSb.1; have hSd := hSb.2)); go_simp; with_reducible rfl
                    · go_simp; with_reducible rfl
                    refine keepTake (i := 19) (v := ?_) (a' := ?_) rfl (by kernel_rfl) (by kernel_rfl) (by kernel_rfl) (by kernel_rfl) (by kernel_rfl) (by kernel_rfl) (fun w hSw => ?_) hS ?_ ?_
                    rotate_left 2
                    · (try dsimp only at hSw); (try (have hSa := hSw.1; have hSb := hSw.2)); (try (have hSc := hSb.1; have hSd := hSb.2)); go_simp; with_reducible rfl
                    · go_simp; with_reducible rfl
                    refine keepTake (i := 20) (v := ?_) (a' := ?_) rfl (by kernel_rfl) (by kernel_rfl) (by kernel_rfl) (by kernel_rfl) (by kernel_rfl) (by kernel_rfl) (fun w hSw => ?_) hS ?_ ?_
                    rotate_left 2
                    · (try dsimp only at hSw); (try (have hSa := hSw.1; have hSb := hSw.2)); (try (have hSc := hSb.1; have hSd := hSb.2)); go_simp; with_reducible rfl
                    · go_simp; with_reducible rfl
                    refine keepTake (i := 21) (v := ?_) (a' := ?_) rfl (by kernel_rfl) (by kernel_rfl) (by kernel_rfl) (by kernel_rfl) (by kernel_rfl) (by kernel_rfl) (fun w hSw => ?_) hS ?_ ?_
                    rotate_left 2
                    · (try dsimp only at hSw); (try (have hSa := hSw.1; have hSb := hSw.2)); (try (have hSc := hSb.1; have hSd := hSb.2)); go_simp; with_reducible rfl
                    · go_simp; with_reducible rfl
                    refine keepTake (i := 22) (v := ?_) (a' := ?_) rfl (by kernel_rfl) (by kernel_rfl) (by kernel_rfl) (by kernel_rfl) (by kernel_rfl) (by kernel_rfl) (fun w hSw => ?_) hS ?_ ?_
                    rotate_left 2
                    · (try dsimp only at hSw); (try (have hSa := hSw.1; have hSb := hSw.2)); (try (have hSc := hSb.1; have hSd := hSb.2)); go_simp; with_reducible rfl
                    · go_simp; with_reducible rfl
                    refine keepTake (i := 23) (v := ?_) (a' := ?_) rfl (by kernel_rfl) (by kernel_rfl) (by kernel_rfl) (by kernel_rfl) (by kernel_rfl) (by kernel_rfl) (fun w hSw => ?_) hS ?_ ?_
                    rotate_left 2
                    · (try dsimp only at hSw); (try (have hSa := hSw.1; have hSb := hSw.2)); (try (have hSc := hSb.1; have hSd := hSb.2)); go_simp; with_reducible rfl
                    · go_simp; with_reducible rfl
                    refine keepTake (i := 24) (v := ?_) (a' := ?_) rfl (by kernel_rfl) (by kernel_rfl) (by kernel_rfl) (by kernel_rfl) (by kernel_rfl) (by kernel_rfl) (fun w hSw => ?_) hS ?_ ?_
                    rotate_left 2
                    · (try dsimp only at hSw); (try (have hSa := hSw.1; have hSb := hSw.2)); (try (have hSc := hSb.1; have hSd := hSb.2)); go_simp; with_reducible rfl
                    · go_simp; with_reducible rfl
                    refine keepSkip (i := 25) (a' := ?_) rfl (by kernel_rfl) (by kernel_rfl) (by kernel_rfl) (by kernel_rfl) (by kernel_rfl) (by kernel_rfl) hS ?_ ?_
                    rotate_left 1
                    · go_simp; with_reducible rfl
                    refine keepSkip (i := 26) (a' := ?_) rfl (by kernel_rfl) (by kernel_rfl) (by kernel_rfl) (by kernel_rfl) (by kernel_rfl) (by kernel_rfl) hS ?_ ?_
                    rotate_left 1
                    · go_simp; with_reducible rfl
                    refine keepSkip (i := 27) (a' := ?_) rfl (by kernel_rfl) (by kernel_rfl) (by kernel_rfl) (by kernel_rfl) (by kernel_rfl) (by kernel_rfl) hS ?_ ?_
                    rotate_left 1
                    · go_simp; with_reducible rfl
                    refine keepSkip (i := 28) (a' := ?_) rfl (by kernel_rfl) (by kernel_rfl) (by kernel_rfl) (by kernel_rfl) (by kernel_rfl) (by kernel_rfl) hS ?_ ?_
                    rotate_left 1
                    · go_simp; with_reducible rfl
                    refine keepSkip (i := 29) (a' := ?_) rfl (by kernel_rfl) (by kernel_rfl) (by kernel_rfl) (by kernel_rfl) (by kernel_rfl) (by kernel_rfl) hS ?_ ?_
                    rotate_left 1
                    · go_simp; with_reducible rfl
                    refine keepSkip (i := 30) (a' := ?_) rfl (by kernel_rfl) (by kernel_rfl) (by kernel_rfl) (by kernel_rfl) (by kernel_rfl) (by kernel_rfl) hS ?_ ?_
                    rotate_left 1
                    · go_simp; with_reducible rfl
                    refine keepSkip (i := 31) (a' := ?_) rfl (by kernel_rfl) (by kernel_rfl) (by kernel_rfl) (by kernel_rfl) (by kernel_rfl) (by kernel_rfl) hS ?_ ?_
                    rotate_left 1
                    · go_simp; with_reducible rfl
                    refine keepTake (i := 32) (v := ?_) (a' := ?_) rfl (by kernel_rfl) (by kernel_rfl) (by kernel_rfl) (by kernel_rfl) (by kernel_rfl) (by kernel_rfl) (fun w hSw => ?_) hS ?_ ?_
                    rotate_left 2
                    · (try dsimp only at hSw); (try (have hSa := hSw.1; have hSb := hSw.2)); (try (have hSc := hSb.1; have hSd := hSb.2)); go_simp; with_reducible rfl
                    · go_simp; with_reducible rfl
                    refine keepReady (rs := [33]) (by kernel_rfl) (by simp) ?_
                    refine AllK.cons rfl (fun K hK => ?_) AllK.nil
                    go_simp
                    try dsimp only
                    refine hK _ _ (fun _ => hS) ?_
                    clear hK K
                    try simp only [Act.put, List.setIfInBounds_toArray, List.set_cons_zero, List.set_cons_succ]
                    refine keepDone (by kernel_rfl) ?_ _
                    clear hS
                    have F6 : Fr [] w w6 := F5.trans (((Fr.refl [] w5).drew).trans f6)
                    have f06 : Fr [] wr w6 := (((Fr.refl [] wr).drew).trans f5).trans (((Fr.refl [] w5).drew).trans f6)
                    have R6 := ownsRow_fr' R f06 (by simp)
                    have L6 := ownsRow_fr' L f06 (by simp)
                    have gr6 := f06.heap gr (by simp)
                    go_wp2_with (first | (with_reducible refine wpL_stop (o := ⟨_, .alloc 177, _, _, _, none⟩) ?_) | (with_reducible refine wpL_stop (o := ⟨_, .load 177 _, _, _, _, none⟩) ?_) | (with_reducible refine wpL_stop (o := ⟨_, .store 177 _ _, _, _, _, none⟩) ?_) | (with_reducible refine wpL_stop (o := ⟨_, .lookup _ _ _ _, _, _, _, none⟩) ?_) | (with_reducible refine wpL_stop (o := ⟨_, .box 177 _, _, _, _, none⟩) ?_) | (with_reducible refine wpL_stop (o := ⟨_, .next _ _, _, _, _, none⟩) ?_) | (with_reducible refine wpL_stop (o := ⟨_, .range _ _, _, _, _, none⟩) ?_) | (with_reducible refine wpL_stop (o := ⟨_, .mapUpdate _ _ _ _, _, _, _, none⟩) ?_) | (with_reducible refine wpL_stop (o := ⟨_, .convert 175 9 _, _, _, _, none⟩) ?_) | (with_reducible refine wpL_stop (o := ⟨_, .convert 9 175 _, _, _, _, none⟩) ?_) | (with_reducible refine wpL_stop (o := ⟨_, .call { callee := .builtin .copy, args := _, argTypes := _ }, _, _, _, none⟩) ?_) | (with_reducible refine wpL_stop (o := ⟨_, .call { callee := .builtin .append, args := _, argTypes := _ }, _, _, _, none⟩) ?_) | (with_reducible refine wpL_stop (o := ⟨_, .call { callee := .builtin .clear, args := _, argTypes := _ }, _, _, _, none⟩) ?_) | (with_reducible refine wpL_stop (o := ⟨_, .makeSlice _ _ _, _, _, _, none⟩) ?_) | (with_reducible refine wpL_stop (o := ⟨_, .makeMap _ _, _, _, _, none⟩) ?_) | (with_reducible refine wpL_stop (o := ⟨_, .entry _, _, _, _, none⟩) ?_) | (with_reducible refine wpL_stop (o := ⟨_, .call { callee := .builtin .max, args := _, argTypes := _ }, _, _, _, none⟩) ?_) | (with_reducible refine wpL_stop (o := ⟨_, .call { callee := .builtin .min, args := _, argTypes := _ }, _, _, _, none⟩) ?_) | (with_reducible refine wpL_stop (o := ⟨_, .slice 177 _ none (some _) none, _, _, _, none⟩) ?_) | (with_reducible refine wpL_stop (o := ⟨_, .binOp .add 9 _ _ _, _, _, _, none⟩) ?_) | (with_reducible refine wpL_stop (o := ⟨_, .slice 9 _ _ _ _, _, _, _, none⟩) ?_))
                    have f7 : Fr [] w6 (w6.alloc (.cells #[.int .i64 (tx data n)] 3)) := (Fr.refl [] w6).alloc _
                    have hg7 := heap_alloc_new w6 (.cells #[.int .i64 (tx data n)] 3)
                    have R7 := ownsRow_fr' R6 f7 (by simp)
                    have L7 := ownsRow_fr' L6 f7 (by simp)
                    have gr7 := f7.heap gr6 (by simp)
                    generalize w6.alloc (.cells #[.int .i64 (tx data n)] 3) = w7 at f7 hg7 R7 L7 gr7 ⊢
                    have s7 := lt_of_heap gr7
                    refine unhold (wpL_append_at rfl _ _ 47 rfl (w2.heap.size + 1) 3 _ 8 Tryz.underlying47 intInfo rfl (by decide) u6 n (natv (txs data n)) (by rfl) R7 w6.heap.size 1 [.int .i64 (tx data n)] rfl _ _ _ hg7 (by intro j u hj; simpa using hj) (by simp [Value.oneCell']) (by simp; omega) s7 ?_)
                    intro v8 w8 hown8 hgr8 hat8
                    have F8 : Fr [] w w8 := (F6.trans f7).grown hgr8 (fun k hk => .inr (by have := (R7.lt k hk).1; omega))
                    have L8 := row_beside2 L7 hgr8 HNE.out
                    have hne8 : ∀ k, v8.ownBlock = some k → u7.ownBlock ≠ some k := by
                      intro k hk he
                      rcases hat8 with h9 | h9
                      · exact HNE.out k (h9 ▸ hk) he
                      · have := (L7.lt k he).2
                        rw [h9] at hk
                        cases hk
                        omega
                    have gr8 : w8.heap[w2.heap.size]? = some (.cells #[.int .i64 t, str data, .bool true] 172 (0, 0)) := by
                      rw [hgr8.block _ s7 (fun e => by have := (R7.lt _ e.symm).1; omega)]
                      exact gr7
                    clear hat8 hgr8 R7 L7 gr7 hg7 R6 L6 gr6
                    go_wp2_with (first | (with_reducible refine wpL_stop (o := ⟨_, .alloc 177, _, _, _, none⟩) ?_) | (with_reducible refine wpL_stop (o := ⟨_, .load 177 _, _, _, _, none⟩) ?_) | (with_reducible refine wpL_stop (o := ⟨_, .store 177 _ _, _, _, _, none⟩) ?_) | (with_reducible refine wpL_stop (o := ⟨_, .lookup _ _ _ _, _, _, _, none⟩) ?_) | (with_reducible refine wpL_stop (o := ⟨_, .box 177 _, _, _, _, none⟩) ?_) | (with_reducible refine wpL_stop (o := ⟨_, .next _ _, _, _, _, none⟩) ?_) | (with_reducible refine wpL_stop (o := ⟨_, .range _ _, _, _, _, none⟩) ?_) | (with_reducible refine wpL_stop (o := ⟨_, .mapUpdate _ _ _ _, _, _, _, none⟩) ?_) | (with_reducible refine wpL_stop (o := ⟨_, .convert 175 9 _, _, _, _, none⟩) ?_) | (with_reducible refine wpL_stop (o := ⟨_, .convert 9 175 _, _, _, _, none⟩) ?_) | (with_reducible refine wpL_stop (o := ⟨_, .call { callee := .builtin .copy, args := _, argTypes := _ }, _, _, _, none⟩) ?_) | (with_reducible refine wpL_stop (o := ⟨_, .call { callee := .builtin .append, args := _, argTypes := _ }, _, _, _, none⟩) ?_) | (with_reducible refine wpL_stop (o := ⟨_, .call { callee := .builtin .clear, args := _, argTypes := _ }, _, _, _, none⟩) ?_) | (with_reducible refine wpL_stop (o := ⟨_, .makeSlice _ _ _, _, _, _, none⟩) ?_) | (with_reducible refine wpL_stop (o := ⟨_, .makeMap _ _, _, _, _, none⟩) ?_) | (with_reducible refine wpL_stop (o := ⟨_, .entry _, _, _, _, none⟩) ?_) | (with_reducible refine wpL_stop (o := ⟨_, .call { callee := .builtin .max, args := _, argTypes := _ }, _, _, _, none⟩) ?_) | (with_reducible refine wpL_stop (o := ⟨_, .call { callee := .builtin .min, args := _, argTypes := _ }, _, _, _, none⟩) ?_) | (with_reducible refine wpL_stop (o := ⟨_, .slice 177 _ none (some _) none, _, _, _, none⟩) ?_) | (with_reducible refine wpL_stop (o := ⟨_, .binOp .add 9 _ _ _, _, _, _, none⟩) ?_) | (with_reducible refine wpL_stop (o := ⟨_, .slice 9 _ _ _ _, _, _, _, none⟩) ?_))
                    have f9 : Fr [] w8 (w8.alloc (.cells #[.int .i64 (tx data n), .string ⟨#[]⟩] 92)) := (Fr.refl [] w8).alloc _
                    have hg9 := heap_alloc_new w8 (.cells #[.int .i64 (tx data n), .string ⟨#[]⟩] 92)
                    have R9 := ownsRow_fr' hown8 f9 (by simp)
                    have L9 := ownsRow_fr' L8 f9 (by simp)
                    have gr9 := f9.heap gr8 (by simp)
                    generalize w8.alloc (.cells #[.int .i64 (tx data n), .string ⟨#[]⟩] 92) = w9 at f9 hg9 R9 L9 gr9 ⊢
                    have s9 := lt_of_heap gr9
                    refine unhold (wpL_append_n rfl _ _ 94 rfl (w2.heap.size + 1) 92 _ 2 24 Tryz.underlying94 pwInfo rfl (by decide) (by decide) u7 n (pwv (bare (txs data n))) (by rfl) L9 w8.heap.size 1 1 [.int .i64 (tx data n), .string ⟨#[]⟩] rfl rfl _ _ _ hg9 (by intro j u hj; simpa using hj) (by simp [Value.oneCell']) (by omega) s9 ?_)
                    intro v10 w10 hown10 hgr10 hat10
                    have F10 : Fr [] w w10 := (F8.trans f9).grown hgr10 (fun k hk => .inr (by have := (L9.lt k hk).1; omega))
                    have hne9 : ∀ k, u7.ownBlock = some k → v8.ownBlock ≠ some k := fun k h1 h2 => hne8 k h2 h1
                    have R10 := row_beside2 R9 hgr10 hne9
                    have hne10 : ∀ k, v8.ownBlock = some k → v10.ownBlock ≠ some k := by
                      intro k hk he
                      rcases hat10 with h9 | h9
                      · exact hne8 k hk (h9 ▸ he)
                      · have := (R9.lt k hk).2
                        rw [h9] at he
                        cases he
                        omega
                    have gr10 : w10.heap[w2.heap.size]? = some (.cells #[.int .i64 t, str data, .bool true] 172 (0, 0)) := by
                      rw [hgr10.block _ s9 (fun e => by have := (L9.lt _ e.symm).1; omega)]
                      exact gr9
                    clear hat10 hgr10 R9 L9 gr9 hg9 L8 gr8
                    go_wp2_with (first | (with_reducible refine wpL_stop (o := ⟨_, .alloc 177, _, _, _, none⟩) ?_) | (with_reducible refine wpL_stop (o := ⟨_, .load 177 _, _, _, _, none⟩) ?_) | (with_reducible refine wpL_stop (o := ⟨_, .store 177 _ _, _, _, _, none⟩) ?_) | (with_reducible refine wpL_stop (o := ⟨_, .lookup _ _ _ _, _, _, _, none⟩) ?_) | (with_reducible refine wpL_stop (o := ⟨_, .box 177 _, _, _, _, none⟩) ?_) | (with_reducible refine wpL_stop (o := ⟨_, .next _ _, _, _, _, none⟩) ?_) | (with_reducible refine wpL_stop (o := ⟨_, .range _ _, _, _, _, none⟩) ?_) | (with_reducible refine wpL_stop (o := ⟨_, .mapUpdate _ _ _ _, _, _, _, none⟩) ?_) | (with_reducible refine wpL_stop (o := ⟨_, .convert 175 9 _, _, _, _, none⟩) ?_) | (with_reducible refine wpL_stop (o := ⟨_, .convert 9 175 _, _, _, _, none⟩) ?_) | (with_reducible refine wpL_stop (o := ⟨_, .call { callee := .builtin .copy, args := _, argTypes := _ }, _, _, _, none⟩) ?_) | (with_reducible refine wpL_stop (o := ⟨_, .call { callee := .builtin .append, args := _, argTypes := _ }, _, _, _, none⟩) ?_) | (with_reducible refine wpL_stop (o := ⟨_, .call { callee := .builtin .clear, args := _, argTypes := _ }, _, _, _, none⟩) ?_) | (with_reducible refine wpL_stop (o := ⟨_, .makeSlice _ _ _, _, _, _, none⟩) ?_) | (with_reducible refine wpL_stop (o := ⟨_, .makeMap _ _, _, _, _, none⟩) ?_) | (with_reducible refine wpL_stop (o := ⟨_, .entry _, _, _, _, none⟩) ?_) | (with_reducible refine wpL_stop (o := ⟨_, .call { callee := .builtin .max, args := _, argTypes := _ }, _, _, _, none⟩) ?_) | (with_reducible refine wpL_stop (o := ⟨_, .call { callee := .builtin .min, args := _, argTypes := _ }, _, _, _, none⟩) ?_) | (with_reducible refine wpL_stop (o := ⟨_, .slice 177 _ none (some _) none, _, _, _, none⟩) ?_) | (with_reducible refine wpL_stop (o := ⟨_, .binOp .add 9 _ _ _, _, _, _, none⟩) ?_) | (with_reducible refine wpL_stop (o := ⟨_, .slice 9 _ _ _ _, _, _, _, none⟩) ?_))
                    go_roundg (gk - 1)
                    case measure => have := hkq.out; omega
                    case rel =>
                      refine ⟨n + 1, by go_num, by omega, by have := hkq.out; unfold Hid; omega, HA, gr10, ?_, ?_, hne10, F10⟩
                      · rw [HS.out]
                        exact R10
                      · rw [HB.out]
                        exact hown10
                  · have hm0 : 0 < n := by omega
                    obtain ⟨rp, rc, rfl⟩ := ownsRow_len R
                    obtain ⟨g2, rfl, _, hc2⟩ := own_cell_fr (S := []) R (Fr.refl [] wr) (by simp) (j := n - 1) (v := .int .i64 (tx data (n - 1))) (txs_get data n (n - 1) (by omega))
                    have j1 : IntKind.i64.wrap ((n : Int) - 1) = n - 1 := by rw [IntKind.wrap_i64]; omega
                    have j2 : 0 ≤ (n : Int) - 1 := by omega
                    have j3 : (n : Int) - 1 < n := by omega
                    have j5 : 1 ≤ (n : Int) := by omega
                    have j4 : ((n : Int) - 1).toNat = n - 1 := by omega
                    have d2 : w5.drew.cell? ⟨g2, n - 1, none⟩ = some (.int .i64 (tx data (n - 1))) := cell_fr f5 hc2 (by simp)
                    refine wp_region_keep (fun w' => w'.cell? ⟨w2.heap.size, 0, none⟩ = some (.int .i64 t) ∧ w'.cell? ⟨g', 1 + n, none⟩ = some (str p1) ∧ w'.cell? ⟨g2, n - 1, none⟩ = some (.int .i64 (tx data (n - 1)))) 100 (by kernel_rfl) ?_
                    have hS := And.intro d0 (And.intro d1 d2)
                    by_cases e3 : tx data (n - 1) < tx data n
                    ·
                      have e3' : decide ((tx data n : Int) ≤ (tx data (n - 1) : Int)) = false := by simp; omega
                      have hgd : tgood im t data n = true := by rw [hG]; simp [e1, e2, e3]
                      have hall : (List.range (n + 1)).all (tgood im t data) = true := by
                        rw [List.range_succ, List.all_append]
                        simp only [List.all_cons, List.all_nil, Bool.and_true, Bool.and_eq_true]
                        exact ⟨ha.out, hgd⟩
                      have HA := Lib.hid hall
                      have hts : natv (txs data (n + 1)) = natv (txs data n) ++ [.int .i64 (tx data n)] := by rw [txs_succ, natv_snoc]
                      have HS := Lib.hid hts
                      have htb : pwv (bare (txs data (n + 1))) = pwv (bare (txs data n)) ++ [.int .i64 (tx data n), .string ⟨#[]⟩] := by rw [txs_succ, bare, List.map_append, pwv, List.flatMap_append]; rfl
                      have HB := Lib.hid htb
                      clear hall hts htb hgd hG hz
                      clear e1 e2
                      refine keepTake (i := 0) (v := ?_) (a' := ?_) rfl (by kernel_rfl) (by kernel_rfl) (by kernel_rfl) (by kernel_rfl) (by kernel_rfl) (by kernel_rfl) (fun w hSw => ?_) hS ?_ ?_
                      rotate_left 2
                      · (try dsimp only at hSw); (try (have hSa := hSw.1; have hSb := hSw.2)); (try (have hSc := hSb.1; have hSd := hSb.2)); go_simp; with_reducible rfl
                      · go_simp; with_reducible rfl
                      refine keepTake (i := 1) (v := ?_) (a' := ?_) rfl (by kernel_rfl) (by kernel_rfl) (by kernel_rfl) (by kernel_rfl) (by kernel_rfl) (by kernel_rfl) (fun w hSw => ?_) hS ?_ ?_
                      rotate_left 2
                      · (try dsimp only at hSw); (try (have hSa := hSw.1; have hSb := hSw.2)); (try (have hSc := hSb.1; have hSd := hSb.2)); go_simp; with_reducible rfl
                      · go_simp; with_reducible rfl
                      refine keepTake (i := 2) (v := ?_) (a' := ?_) rfl (by kernel_rfl) (by kernel_rfl) (by kernel_rfl) (by kernel_rfl) (by kernel_rfl) (by kernel_rfl) (fun w hSw => ?_) hS ?_ ?_
                      rotate_left 2
                      · (try dsimp only at hSw); (try (have hSa := hSw.1; have hSb := hSw.2)); (try (have hSc := hSb.1; have hSd := hSb.2)); go_simp; with_reducible rfl
                      · go_simp; with_reducible rfl
                      refine keepTake (i := 3) (v := ?_) (a' := ?_) rfl (by kernel_rfl) (by kernel_rfl) (by kernel_rfl) (by kernel_rfl) (by kernel_rfl) (by kernel_rfl) (fun w hSw => ?_) hS ?_ ?_
                      rotate_left 2
                      · (try dsimp only at hSw); (try (have hSa := hSw.1; have hSb := hSw.2)); (try (have hSc := hSb.1; have hSd := hSb.2)); go_simp; with_reducible rfl
                      · go_simp; with_reducible rfl
                      refine keepTake (i := 4) (v := ?_) (a' := ?_) rfl (by kernel_rfl) (by kernel_rfl) (by kernel_rfl) (by kernel_rfl) (by kernel_rfl) (by kernel_rfl) (fun w hSw => ?_) hS ?_ ?_
                      rotate_left 2
                      · (try dsimp only at hSw); (try (have hSa := hSw.1; have hSb := hSw.2)); (try (have hSc := hSb.1; have hSd := hSb.2)); go_simp; with_reducible rfl
                      · go_simp; with_reducible rfl
                      refine keepTake (i := 5) (v := ?_) (a' := ?_) rfl (by kernel_rfl) (by kernel_rfl) (by kernel_rfl) (by kernel_rfl) (by kernel_rfl) (by kernel_rfl) (fun w hSw => ?_) hS ?_ ?_
                      rotate_left 2
                      · (try dsimp only at hSw); (try (have hSa := hSw.1; have hSb := hSw.2)); (try (have hSc := hSb.1; have hSd := hSb.2)); go_simp; with_reducible rfl
                      · go_simp; with_reducible rfl
                      refine keepTake (i := 6) (v := ?_) (a' := ?_) rfl (by kernel_rfl) (by kernel_rfl) (by kernel_rfl) (by kernel_rfl) (by kernel_rfl) (by kernel_rfl) (fun w hSw => ?_) hS ?_ ?_
                      rotate_left 2
                      · (try dsimp only at hSw); (try (have hSa := hSw.1; have hSb := hSw.2)); (try (have hSc := hSb.1; have hSd := hSb.2)); go_simp; with_reducible rfl
                      · go_simp; with_reducible rfl
                      refine keepTake (i := 7) (v := ?_) (a' := ?_) rfl (by kernel_rfl) (by kernel_rfl) (by kernel_rfl) (by kernel_rfl) (by kernel_rfl) (by kernel_rfl) (fun w hSw => ?_) hS ?_ ?_
                      rotate_left 2
                      · (try dsimp only at hSw); (try (have hSa := hSw.1; have hSb := hSw.2)); (try (have hSc := hSb.1; have hSd := hSb.2)); go_simp; with_reducible rfl
                      · go_simp; with_reducible rfl
                      refine keepTake (i := 10) (v := ?_) (a' := ?_) rfl (by kernel_rfl) (by kernel_rfl) (by kernel_rfl) (by kernel_rfl) (by kernel_rfl) (by kernel_rfl) (fun w hSw => ?_) hS ?_ ?_
                      rotate_left 2
                      · (try dsimp only at hSw); (try (have hSa := hSw.1; have hSb := hSw.2)); (try (have hSc := hSb.1; have hSd := hSb.2)); go_simp; with_reducible rfl
                      · go_simp; with_reducible rfl
                      refine keepTake (i := 11) (v := ?_) (a' := ?_) rfl (by kernel_rfl) (by kernel_rfl) (by kernel_rfl) (by kernel_rfl) (by kernel_rfl) (by kernel_rfl) (fun w hSw => ?_) hS ?_ ?_
                      rotate_left 2
                      · (try dsimp only at hSw); (try (have hSa := hSw.1; have hSb := hSw.2)); (try (have hSc := hSb.1; have hSd := hSb.2)); go_simp; with_reducible rfl
                      · go_simp; with_reducible rfl
                      refine keepReady (rs := [8]) (by kernel_rfl) (by simp) ?_
                      refine AllK.cons rfl (fun K hK => ?_) AllK.nil
                      go_simp
                      refine (hu1 _).mono ?_
                      rintro e w6 ⟨rfl, f6⟩
                      have hfl := unF0
                      have hS := And.intro (cell_fr f6 d0 (by simp)) (And.intro (cell_fr f6 d1 (by simp)) (cell_fr f6 d2 (by simp)))
                      try dsimp only
                      refine hK _ _ (fun _ => hS) ?_
                      clear hK K
                      try simp only [Act.put, List.setIfInBounds_toArray, List.set_cons_zero, List.set_cons_succ]
                      refine keepTake (i := 9) (v := ?_) (a' := ?_) rfl (by kernel_rfl) (by kernel_rfl) (by kernel_rfl) (by kernel_rfl) (by kernel_rfl) (by kernel_rfl) (fun w hSw => ?_) hS ?_ ?_
                      rotate_left 2
                      · (try dsimp only at hSw); (try (have hSa := hSw.1; have hSb := hSw.2)); (try (have hSc := hSb.1; have hSd := hSb.2)); go_simp; with_reducible rfl
                      · go_simp; with_reducible rfl
                      refine keepTake (i := 12) (v := ?_) (a' := ?_) rfl (by kernel_rfl) (by kernel_rfl) (by kernel_rfl) (by kernel_rfl) (by kernel_rfl) (by kernel_rfl) (fun w hSw => ?_) hS ?_ ?_
                      rotate_left 2
                      · (try dsimp only at hSw); (try (have hSa := hSw.1; have hSb := hSw.2)); (try (have hSc := hSb.1; have hSd := hSb.2)); go_simp; with_reducible rfl
                      · go_simp; with_reducible rfl
                      refine keepTake (i := 13) (v := ?_) (a' := ?_) rfl (by kernel_rfl) (by kernel_rfl) (by kernel_rfl) (by kernel_rfl) (by kernel_rfl) (by kernel_rfl) (fun w hSw => ?_) hS ?_ ?_
                      rotate_left 2
                      · (try dsimp only at hSw); (try (have hSa := hSw.1; have hSb := hSw.2)); (try (have hSc := hSb.1; have hSd := hSb.2)); go_simp; with_reducible rfl
                      · go_simp; with_reducible rfl
                      refine keepTake (i := 14) (v := ?_) (a' := ?_) rfl (by kernel_rfl) (by kernel_rfl) (by kernel_rfl) (by kernel_rfl) (by kernel_rfl) (by kernel_rfl) (fun w hSw => ?_) hS ?_ ?_
                      rotate_left 2
                      · (try dsimp only at hSw); (try (have hSa := hSw.1; have hSb := hSw.2)); (try (have hSc := hSb.1; have hSd := hSb.2)); go_simp; with_reducible rfl
                      · go_simp; with_reducible rfl
                      refine keepTake (i := 15) (v := ?_) (a' := ?_) rfl (by kernel_rfl) (by kernel_rfl) (by kernel_rfl) (by kernel_rfl) (by kernel_rfl) (by kernel_rfl) (fun w hSw => ?_) hS ?_ ?_
                      rotate_left 2
                      · (try dsimp only at hSw); (try (have hSa := hSw.1; have hSb := hSw.2)); (try (have hSc := hSb.1; have hSd := hSb.2)); go_simp; with_reducible rfl
                      · go_simp; with_reducible rfl
                      refine keepTake (i := 16) (v := ?_) (a' := ?_) rfl (by kernel_rfl) (by kernel_rfl) (by kernel_rfl) (by kernel_rfl) (by kernel_rfl) (by kernel_rfl) (fun w hSw => ?_) hS ?_ ?_
                      rotate_left 2
                      · (try dsimp only at hSw); (try (have hSa := hSw.1; have hSb := hSw.2)); (try (have hSc := hSb.1; have hSd := hSb.2)); go_simp; with_reducible rfl
                      · go_simp; with_reducible rfl
                      refine keepTake (i := 17) (v := ?_) (a' := ?_) rfl (by kernel_rfl) (by kernel_rfl) (by kernel_rfl) (by kernel_rfl) (by kernel_rfl) (by kernel_rfl) (fun w hSw => ?_) hS ?_ ?_
                      rotate_left 2
                      · (try dsimp only at hSw); (try (have hSa := hSw.1; have hSb := hSw.2)); (try (have hSc := hSb.1; have hSd := hSb.2)); go_simp; with_reducible rfl
                      · go_simp; with_reducible rfl
                      refine keepTake (i := 18) (v := ?_) (a' := ?_) rfl (by kernel_rfl) (by kernel_rfl) (by kernel_rfl) (by kernel_rfl) (by kernel_rfl) (by kernel_rfl) (fun w hSw => ?_) hS ?_ ?_
                      rotate_left 2
                      · (try dsimp only at hSw); (try (have hSa := hSw.1; have hSb := hSw.2)); (try (have hSc := hSb.1; have hSd := hSb.2)); go_simp; with_reducible rfl
                      · go_simp; with_reducible rfl
                      refine keepTake (i := 19) (v := ?_) (a' := ?_) rfl (by kernel_rfl) (by kernel_rfl) (by kernel_rfl) (by kernel_rfl) (by kernel_rfl) (by kernel_rfl) (fun w hSw => ?_) hS ?_ ?_
                      rotate_left 2
                      · (try dsimp only at hSw); (try (have hSa := hSw.1; have hSb := hSw.2)); (try (have hSc := hSb.1; have hSd := hSb.2)); go_simp; with_reducible rfl
                      · go_simp; with_reducible rfl
                      refine keepTake (i := 20) (v := ?_) (a' := ?_) rfl (by kernel_rfl) (by kernel_rfl) (by kernel_rfl) (by kernel_rfl) (by kernel_rfl) (by kernel_rfl) (fun w hSw => ?_) hS ?_ ?_
                      rotate_left 2
                      · (try dsimp only at hSw); (try (have hSa := hSw.1; have hSb := hSw.2)); (try (have hSc := hSb.1; have hSd := hSb.2)); go_simp; with_reducible rfl
                      · go_simp; with_reducible rfl
                      refine keepTake (i := 21) (v := ?_) (a' := ?_) rfl (by kernel_rfl) (by kernel_rfl) (by kernel_rfl) (by kernel_rfl) (by kernel_rfl) (by kernel_rfl) (fun w hSw => ?_) hS ?_ ?_
                      rotate_left 2
                      · (try dsimp only at hSw); (try (have hSa := hSw.1; have hSb := hSw.2)); (try (have hSc := hSb.1; have hSd := hSb.2)); go_simp; with_reducible rfl
                      · go_simp; with_reducible rfl
                      refine keepTake (i := 22) (v := ?_) (a' := ?_) rfl (by kernel_rfl) (by kernel_rfl) (by kernel_rfl) (by kernel_rfl) (by kernel_rfl) (by kernel_rfl) (fun w hSw => ?_) hS ?_ ?_
                      rotate_left 2
                      · (try dsimp only at hSw); (try (have hSa := hSw.1; have hSb := hSw.2)); (try (have hSc := hSb.1; have hSd := hSb.2)); go_simp; with_reducible rfl
                      · go_simp; with_reducible rfl
                      refine keepTake (i := 23) (v := ?_) (a' := ?_) rfl (by kernel_rfl) (by kernel_rfl) (by kernel_rfl) (by kernel_rfl) (by kernel_rfl) (by kernel_rfl) (fun w hSw => ?_) hS ?_ ?_
                      rotate_left 2
                      · (try dsimp only at hSw); (try (have hSa := hSw.1; have hSb := hSw.2)); (try (have hSc := hSb.1; have hSd := hSb.2)); go_simp; with_reducible rfl
                      · go_simp; with_reducible rfl
                      refine keepTake (i := 24) (v := ?_) (a' := ?_) rfl (by kernel_rfl) (by kernel_rfl) (by kernel_rfl) (by kernel_rfl) (by kernel_rfl) (by kernel_rfl) (fun w hSw => ?_) hS ?_ ?_
                      rotate_left 2
                      · (try dsimp only at hSw); (try (have hSa := hSw.1; have hSb := hSw.2)); (try (have hSc := hSb.1; have hSd := hSb.2)); go_simp; with_reducible rfl
                      · go_simp; with_reducible rfl
                      refine keepTake (i := 25) (v := ?_) (a' := ?_) rfl (by kernel_rfl) (by kernel_rfl) (by kernel_rfl) (by kernel_rfl) (by kernel_rfl) (by kernel_rfl) (fun w hSw => ?_) hS ?_ ?_
                      rotate_left 2
                      · (try dsimp only at hSw); (try (have hSa := hSw.1; have hSb := hSw.2)); (try (have hSc := hSb.1; have hSd := hSb.2)); go_simp; with_reducible rfl
                      · go_simp; with_reducible rfl
                      refine keepTake (i := 26) (v := ?_) (a' := ?_) rfl (by kernel_rfl) (by kernel_rfl) (by kernel_rfl) (by kernel_rfl) (by kernel_rfl) (by kernel_rfl) (fun w hSw => ?_) hS ?_ ?_
                      rotate_left 2
                      · (try dsimp only at hSw); (try (have hSa := hSw.1; have hSb := hSw.2)); (try (have hSc := hSb.1; have hSd := hSb.2)); go_simp; with_reducible rfl
                      · go_simp; with_reducible rfl
                      refine keepTake (i := 27) (v := ?_) (a' := ?_) rfl (by kernel_rfl) (by kernel_rfl) (by kernel_rfl) (by kernel_rfl) (by kernel_rfl) (by kernel_rfl) (fun w hSw => ?_) hS ?_ ?_
                      rotate_left 2
                      · (try dsimp only at hSw); (try (have hSa := hSw.1; have hSb := hSw.2)); (try (have hSc := hSb.1; have hSd := hSb.2)); go_simp; with_reducible rfl
                      · go_simp; with_reducible rfl
                      refine keepTake (i := 28) (v := ?_) (a' := ?_) rfl (by kernel_rfl) (by kernel_rfl) (by kernel_rfl) (by kernel_rfl) (by kernel_rfl) (by kernel_rfl) (fun w hSw => ?_) hS ?_ ?_
                      rotate_left 2
                      · (try dsimp only at hSw); (try (have hSa := hSw.1; have hSb := hSw.2)); (try (have hSc := hSb.1; have hSd := hSb.2)); go_simp; with_reducible rfl
                      · go_simp; with_reducible rfl
                      refine keepTake (i := 29) (v := ?_) (a' := ?_) rfl (by kernel_rfl) (by kernel_rfl) (by kernel_rfl) (by kernel_rfl) (by kernel_rfl) (by kernel_rfl) (fun w hSw => ?_) hS ?_ ?_
                      rotate_left 2
                      · (try dsimp only at hSw); (try (have hSa := hSw.1; have hSb := hSw.2)); (try (have hSc := hSb.1; have hSd := hSb.2)); go_simp; with_reducible rfl
                      · go_simp; with_reducible rfl
                      refine keepTake (i := 30) (v := ?_) (a' := ?_) rfl (by kernel_rfl) (by kernel_rfl) (by kernel_rfl) (by kernel_rfl) (by kernel_rfl) (by kernel_rfl) (fun w hSw => ?_) hS ?_ ?_
                      rotate_left 2
                      · (try dsimp only at hSw); (try (have hSa := hSw.1; have hSb := hSw.2)); (try (have hSc := hSb.1; have hSd := hSb.2)); go_simp; with_reducible rfl
                      · go_simp; with_reducible rfl
                      refine keepTake (i := 31) (v := ?_) (a' := ?_) rfl (by kernel_rfl) (by kernel_rfl) (by kernel_rfl) (by kernel_rfl) (by kernel_rfl) (by kernel_rfl) (fun w hSw => ?_) hS ?_ ?_
                      rotate_left 2
                      · (try dsimp only at hSw); (try (have hSa := hSw.1; have hSb := hSw.2)); (try (have hSc := hSb.1; have hSd := hSb.2)); go_simp; with_reducible rfl
                      · go_simp; with_reducible rfl
                      refine keepTake (i := 32) (v := ?_) (a' := ?_) rfl (by kernel_rfl) (by kernel_rfl) (by kernel_rfl) (by kernel_rfl) (by kernel_rfl) (by kernel_rfl) (fun w hSw => ?_) hS ?_ ?_
                      rotate_left 2
                      · (try dsimp only at hSw); (try (have hSa := hSw.1; have hSb := hSw.2)); (try (have hSc := hSb.1; have hSd := hSb.2)); go_simp; with_reducible rfl
                      · go_simp; with_reducible rfl
                      refine keepReady (rs := [33]) (by kernel_rfl) (by simp) ?_
                      refine AllK.cons rfl (fun K hK => ?_) AllK.nil
                      go_simp
                      try dsimp only
                      refine hK _ _ (fun _ => hS) ?_
                      clear hK K
                      try simp only [Act.put, List.setIfInBounds_toArray, List.set_cons_zero, List.set_cons_succ]
                      refine keepDone (by kernel_rfl) ?_ _
                      clear hS
                      have F6 : Fr [] w w6 := F5.trans (((Fr.refl [] w5).drew).trans f6)
                      have f06 : Fr [] wr w6 := (((Fr.refl [] wr).drew).trans f5).trans (((Fr.refl [] w5).drew).trans f6)
                      have R6 := ownsRow_fr' R f06 (by simp)
                      have L6 := ownsRow_fr' L f06 (by simp)
                      have gr6 := f06.heap gr (by simp)
                      go_wp2_with (first | (with_reducible refine wpL_stop (o := ⟨_, .alloc 177, _, _, _, none⟩) ?_) | (with_reducible refine wpL_stop (o := ⟨_, .load 177 _, _, _, _, none⟩) ?_) | (with_reducible refine wpL_stop (o := ⟨_, .store 177 _ _, _, _, _, none⟩) ?_) | (with_reducible refine wpL_stop (o := ⟨_, .lookup _ _ _ _, _, _, _, none⟩) ?_) | (with_reducible refine wpL_stop (o := ⟨_, .box 177 _, _, _, _, none⟩) ?_) | (with_reducible refine wpL_stop (o := ⟨_, .next _ _, _, _, _, none⟩) ?_) | (with_reducible refine wpL_stop (o := ⟨_, .range _ _, _, _, _, none⟩) ?_) | (with_reducible refine wpL_stop (o := ⟨_, .mapUpdate _ _ _ _, _, _, _, none⟩) ?_) | (with_reducible refine wpL_stop (o := ⟨_, .convert 175 9 _, _, _, _, none⟩) ?_) | (with_reducible refine wpL_stop (o := ⟨_, .convert 9 175 _, _, _, _, none⟩) ?_) | (with_reducible refine wpL_stop (o := ⟨_, .call { callee := .builtin .copy, args := _, argTypes := _ }, _, _, _, none⟩) ?_) | (with_reducible refine wpL_stop (o := ⟨_, .call { callee := .builtin .append, args := _, argTypes := _ }, _, _, _, none⟩) ?_) | (with_reducible refine wpL_stop (o := ⟨_, .call { callee := .builtin .clear, args := _, argTypes := _ }, _, _, _, none⟩) ?_) | (with_reducible refine wpL_stop (o := ⟨_, .makeSlice _ _ _, _, _, _, none⟩) ?_) | (with_reducible refine wpL_stop (o := ⟨_, .makeMap _ _, _, _, _, none⟩) ?_) | (with_reducible refine wpL_stop (o := ⟨_, .entry _, _, _, _, none⟩) ?_) | (with_reducible refine wpL_stop (o := ⟨_, .call { callee := .builtin .max, args := _, argTypes := _ }, _, _, _, none⟩) ?_) | (with_reducible refine wpL_stop (o := ⟨_, .call { callee := .builtin .min, args := _, argTypes := _ }, _, _, _, none⟩) ?_) | (with_reducible refine wpL_stop (o := ⟨_, .slice 177 _ none (some _) none, _, _, _, none⟩) ?_) | (with_reducible refine wpL_stop (o := ⟨_, .binOp .add 9 _ _ _, _, _, _, none⟩) ?_) | (with_reducible refine wpL_stop (o := ⟨_, .slice 9 _ _ _ _, _, _, _, none⟩) ?_))
                      have f7 : Fr [] w6 (w6.alloc (.cells #[.int .i64 (tx data n)] 3)) := (Fr.refl [] w6).alloc _
                      have hg7 := heap_alloc_new w6 (.cells #[.int .i64 (tx data n)] 3)
                      have R7 := ownsRow_fr' R6 f7 (by simp)
                      have L7 := ownsRow_fr' L6 f7 (by simp)
                      have gr7 := f7.heap gr6 (by simp)
                      generalize w6.alloc (.cells #[.int .i64 (tx data n)] 3) = w7 at f7 hg7 R7 L7 gr7 ⊢
                      have s7 := lt_of_heap gr7
                      refine unhold (wpL_append_at rfl _ _ 47 rfl (w2.heap.size + 1) 3 _ 8 Tryz.underlying47 intInfo rfl (by decide) (.slice (some ⟨g2, 0, none⟩) n rc) n (natv (txs data n)) (by rfl) R7 w6.heap.size 1 [.int .i64 (tx data n)] rfl _ _ _ hg7 (by intro j u hj; simpa using hj) (by simp [Value.oneCell']) (by simp; omega) s7 ?_)
                      intro v8 w8 hown8 hgr8 hat8
                      have F8 : Fr [] w w8 := (F6.trans f7).grown hgr8 (fun k hk => .inr (by have := (R7.lt k hk).1; omega))
                      have L8 := row_beside2 L7 hgr8 HNE.out
                      have hne8 : ∀ k, v8.ownBlock = some k → u7.ownBlock ≠ some k := by
                        intro k hk he
                        rcases hat8 with h9 | h9
                        · exact HNE.out k (h9 ▸ hk) he
                        · have := (L7.lt k he).2
                          rw [h9] at hk
                          cases hk
                          omega
                      have gr8 : w8.heap[w2.heap.size]? = some (.cells #[.int .i64 t, str data, .bool true] 172 (0, 0)) := by
                        rw [hgr8.block _ s7 (fun e => by have := (R7.lt _ e.symm).1; omega)]
                        exact gr7
                      clear hat8 hgr8 R7 L7 gr7 hg7 R6 L6 gr6
                      go_wp2_with (first | (with_reducible refine wpL_stop (o := ⟨_, .alloc 177, _, _, _, none⟩) ?_) | (with_reducible refine wpL_stop (o := ⟨_, .load 177 _, _, _, _, none⟩) ?_) | (with_reducible refine wpL_stop (o := ⟨_, .store 177 _ _, _, _, _, none⟩) ?_) | (with_reducible refine wpL_stop (o := ⟨_, .lookup _ _ _ _, _, _, _, none⟩) ?_) | (with_reducible refine wpL_stop (o := ⟨_, .box 177 _, _, _, _, none⟩) ?_) | (with_reducible refine wpL_stop (o := ⟨_, .next _ _, _, _, _, none⟩) ?_) | (with_reducible refine wpL_stop (o := ⟨_, .range _ _, _, _, _, none⟩) ?_) | (with_reducible refine wpL_stop (o := ⟨_, .mapUpdate _ _ _ _, _, _, _, none⟩) ?_) | (with_reducible refine wpL_stop (o := ⟨_, .convert 175 9 _, _, _, _, none⟩) ?_) | (with_reducible refine wpL_stop (o := ⟨_, .convert 9 175 _, _, _, _, none⟩) ?_) | (with_reducible refine wpL_stop (o := ⟨_, .call { callee := .builtin .copy, args := _, argTypes := _ }, _, _, _, none⟩) ?_) | (with_reducible refine wpL_stop (o := ⟨_, .call { callee := .builtin .append, args := _, argTypes := _ }, _, _, _, none⟩) ?_) | (with_reducible refine wpL_stop (o := ⟨_, .call { callee := .builtin .clear, args := _, argTypes := _ }, _, _, _, none⟩) ?_) | (with_reducible refine wpL_stop (o := ⟨_, .makeSlice _ _ _, _, _, _, none⟩) ?_) | (with_reducible refine wpL_stop (o := ⟨_, .makeMap _ _, _, _, _, none⟩) ?_) | (with_reducible refine wpL_stop (o := ⟨_, .entry _, _, _, _, none⟩) ?_) | (with_reducible refine wpL_stop (o := ⟨_, .call { callee := .builtin .max, args := _, argTypes := _ }, _, _, _, none⟩) ?_) | (with_reducible refine wpL_stop (o := ⟨_, .call { callee := .builtin .min, args := _, argTypes := _ }, _, _, _, none⟩) ?_) | (with_reducible refine wpL_stop (o := ⟨_, .slice 177 _ none (some _) none, _, _, _, none⟩) ?_) | (with_reducible refine wpL_stop (o := ⟨_, .binOp .add 9 _ _ _, _, _, _, none⟩) ?_) | (with_reducible refine wpL_stop (o := ⟨_, .slice 9 _ _ _ _, _, _, _, none⟩) ?_))
                      have f9 : Fr [] w8 (w8.alloc (.cells #[.int .i64 (tx data n), .string ⟨#[]⟩] 92)) := (Fr.refl [] w8).alloc _
                      have hg9 := heap_alloc_new w8 (.cells #[.int .i64 (tx data n), .string ⟨#[]⟩] 92)
                      have R9 := ownsRow_fr' hown8 f9 (by simp)
                      have L9 := ownsRow_fr' L8 f9 (by simp)
                      have gr9 := f9.heap gr8 (by simp)
                      generalize w8.alloc (.cells #[.int .i64 (tx data n), .string ⟨#[]⟩] 92) = w9 at f9 hg9 R9 L9 gr9 ⊢
                      have s9 := lt_of_heap gr9
                      refine unhold (wpL_append_n rfl _ _ 94 rfl (w2.heap.size + 1) 92 _ 2 24 Tryz.underlying94 pwInfo rfl (by decide) (by decide) u7 n (pwv (bare (txs data n))) (by rfl) L9 w8.heap.size 1 1 [.int .i64 (tx data n), .string ⟨#[]⟩] rfl rfl _ _ _ hg9 (by intro j u hj; simpa using hj) (by simp [Value.oneCell']) (by omega) s9 ?_)
                      intro v10 w10 hown10 hgr10 hat10
                      have F10 : Fr [] w w10 := (F8.trans f9).grown hgr10 (fun k hk => .inr (by have := (L9.lt k hk).1; omega))
                      have hne9 : ∀ k, u7.ownBlock = some k → v8.ownBlock ≠ some k := fun k h1 h2 => hne8 k h2 h1
                      have R10 := row_beside2 R9 hgr10 hne9
                      have hne10 : ∀ k, v8.ownBlock = some k → v10.ownBlock ≠ some k := by
                        intro k hk he
                        rcases hat10 with h9 | h9
                        · exact hne8 k hk (h9 ▸ he)
                        · have := (R9.lt k hk).2
                          rw [h9] at he
                          cases he
                          omega
                      have gr10 : w10.heap[w2.heap.size]? = some (.cells #[.int .i64 t, str data, .bool true] 172 (0, 0)) := by
                        rw [hgr10.block _ s9 (fun e => by have := (L9.lt _ e.symm).1; omega)]
                        exact gr9
                      clear hat10 hgr10 R9 L9 gr9 hg9 L8 gr8
                      go_wp2_with (first | (with_reducible refine wpL_stop (o := ⟨_, .alloc 177, _, _, _, none⟩) ?_) | (with_reducible refine wpL_stop (o := ⟨_, .load 177 _, _, _, _, none⟩) ?_) | (with_reducible refine wpL_stop (o := ⟨_, .store 177 _ _, _, _, _, none⟩) ?_) | (with_reducible refine wpL_stop (o := ⟨_, .lookup _ _ _ _, _, _, _, none⟩) ?_) | (with_reducible refine wpL_stop (o := ⟨_, .box 177 _, _, _, _, none⟩) ?_) | (with_reducible refine wpL_stop (o := ⟨_, .next _ _, _, _, _, none⟩) ?_) | (with_reducible refine wpL_stop (o := ⟨_, .range _ _, _, _, _, none⟩) ?_) | (with_reducible refine wpL_stop (o := ⟨_, .mapUpdate _ _ _ _, _, _, _, none⟩) ?_) | (with_reducible refine wpL_stop (o := ⟨_, .convert 175 9 _, _, _, _, none⟩) ?_) | (with_reducible refine wpL_stop (o := ⟨_, .convert 9 175 _, _, _, _, none⟩) ?_) | (with_reducible refine wpL_stop (o := ⟨_, .call { callee := .builtin .copy, args := _, argTypes := _ }, _, _, _, none⟩) ?_) | (with_reducible refine wpL_stop (o := ⟨_, .call { callee := .builtin .append, args := _, argTypes := _ }, _, _, _, none⟩) ?_) | (with_reducible refine wpL_stop (o := ⟨_, .call { callee := .builtin .clear, args := _, argTypes := _ }, _, _, _, none⟩) ?_) | (with_reducible refine wpL_stop (o := ⟨_, .makeSlice _ _ _, _, _, _, none⟩) ?_) | (with_reducible refine wpL_stop (o := ⟨_, .makeMap _ _, _, _, _, none⟩) ?_) | (with_reducible refine wpL_stop (o := ⟨_, .entry _, _, _, _, none⟩) ?_) | (with_reducible refine wpL_stop (o := ⟨_, .call { callee := .builtin .max, args := _, argTypes := _ }, _, _, _, none⟩) ?_) | (with_reducible refine wpL_stop (o := ⟨_, .call { callee := .builtin .min, args := _, argTypes := _ }, _, _, _, none⟩) ?_) | (with_reducible refine wpL_stop (o := ⟨_, .slice 177 _ none (some _) none, _, _, _, none⟩) ?_) | (with_reducible refine wpL_stop (o := ⟨_, .binOp .add 9 _ _ _, _, _, _, none⟩) ?_) | (with_reducible refine wpL_stop (o := ⟨_, .slice 9 _ _ _ _, _, _, _, none⟩) ?_))
                      go_roundg (gk - 1)
                      case measure => have := hkq.out; omega
                      case rel =>
                        refine ⟨n + 1, by go_num, by omega, by have := hkq.out; unfold Hid; omega, HA, gr10, ?_, ?_, hne10, F10⟩
                        · rw [HS.out]
                          exact R10
                        · rw [HB.out]
                          exact hown10
                    ·
                      have e3' : tx data n ≤ tx data (n - 1) := by omega
                      have hb0 : tgood im t data n = false := by rw [hG]; simp [e3, show ¬ n = 0 by omega]
                      have HN := Lib.hid (NIL.out hb0)
                      clear hb0 hG hz e1 e2 e3
                      refine keepTake (i := 0) (v := ?_) (a' := ?_) rfl (by kernel_rfl) (by kernel_rfl) (by kernel_rfl) (by kernel_rfl) (by kernel_rfl) (by kernel_rfl) (fun w hSw => ?_) hS ?_ ?_
                      rotate_left 2
                      · (try dsimp only at hSw); (try (have hSa := hSw.1; have hSb := hSw.2)); (try (have hSc := hSb.1; have hSd := hSb.2)); go_simp; with_reducible rfl
                      · go_simp; with_reducible rfl
                      refine keepTake (i := 1) (v := ?_) (a' := ?_) rfl (by kernel_rfl) (by kernel_rfl) (by kernel_rfl) (by kernel_rfl) (by kernel_rfl) (by kernel_rfl) (fun w hSw => ?_) hS ?_ ?_
                      rotate_left 2
                      · (try dsimp only at hSw); (try (have hSa := hSw.1; have hSb := hSw.2)); (try (have hSc := hSb.1; have hSd := hSb.2)); go_simp; with_reducible rfl
                      · go_simp; with_reducible rfl
                      refine keepTake (i := 2) (v := ?_) (a' := ?_) rfl (by kernel_rfl) (by kernel_rfl) (by kernel_rfl) (by kernel_rfl) (by kernel_rfl) (by kernel_rfl) (fun w hSw => ?_) hS ?_ ?_
                      rotate_left 2
                      · (try dsimp only at hSw); (try (have hSa := hSw.1; have hSb := hSw.2)); (try (have hSc := hSb.1; have hSd := hSb.2)); go_simp; with_reducible rfl
                      · go_simp; with_reducible rfl
                      refine keepTake (i := 3) (v := ?_) (a' := ?_) rfl (by kernel_rfl) (by kernel_rfl) (by kernel_rfl) (by kernel_rfl) (by kernel_rfl) (by kernel_rfl) (fun w hSw => ?_) hS ?_ ?_
                      rotate_left 2
                      · (try dsimp only at hSw); (try (have hSa := hSw.1; have hSb := hSw.2)); (try (have hSc := hSb.1; have hSd := hSb.2)); go_simp; with_reducible rfl
                      · go_simp; with_reducible rfl
                      refine keepTake (i := 4) (v := ?_) (a' := ?_) rfl (by kernel_rfl) (by kernel_rfl) (by kernel_rfl) (by kernel_rfl) (by kernel_rfl) (by kernel_rfl) (fun w hSw => ?_) hS ?_ ?_
                      rotate_left 2
                      · (try dsimp only at hSw); (try (have hSa := hSw.1; have hSb := hSw.2)); (try (have hSc := hSb.1; have hSd := hSb.2)); go_simp; with_reducible rfl
                      · go_simp; with_reducible rfl
                      refine keepTake (i := 5) (v := ?_) (a' := ?_) rfl (by kernel_rfl) (by kernel_rfl) (by kernel_rfl) (by kernel_rfl) (by kernel_rfl) (by kernel_rfl) (fun w hSw => ?_) hS ?_ ?_
                      rotate_left 2
                      · (try dsimp only at hSw); (try (have hSa := hSw.1; have hSb := hSw.2)); (try (have hSc := hSb.1; have hSd := hSb.2)); go_simp; with_reducible rfl
                      · go_simp; with_reducible rfl
                      refine keepTake (i := 6) (v := ?_) (a' := ?_) rfl (by kernel_rfl) (by kernel_rfl) (by kernel_rfl) (by kernel_rfl) (by kernel_rfl) (by kernel_rfl) (fun w hSw => ?_) hS ?_ ?_
                      rotate_left 2
                      · (try dsimp only at hSw); (try (have hSa := hSw.1; have hSb := hSw.2)); (try (have hSc := hSb.1; have hSd := hSb.2)); go_simp; with_reducible rfl
                      · go_simp; with_reducible rfl
                      refine keepTake (i := 7) (v := ?_) (a' := ?_) rfl (by kernel_rfl) (by kernel_rfl) (by kernel_rfl) (by kernel_rfl) (by kernel_rfl) (by kernel_rfl) (fun w hSw => ?_) hS ?_ ?_
                      rotate_left 2
                      · (try dsimp only at hSw); (try (have hSa := hSw.1; have hSb := hSw.2)); (try (have hSc := hSb.1; have hSd := hSb.2)); go_simp; with_reducible rfl
                      · go_simp; with_reducible rfl
                      refine keepTake (i := 10) (v := ?_) (a' := ?_) rfl (by kernel_rfl) (by kernel_rfl) (by kernel_rfl) (by kernel_rfl) (by kernel_rfl) (by kernel_rfl) (fun w hSw => ?_) hS ?_ ?_
                      rotate_left 2
                      · (try dsimp only at hSw); (try (have hSa := hSw.1; have hSb := hSw.2)); (try (have hSc := hSb.1; have hSd := hSb.2)); go_simp; with_reducible rfl
                      · go_simp; with_reducible rfl
                      refine keepTake (i := 11) (v := ?_) (a' := ?_) rfl (by kernel_rfl) (by kernel_rfl) (by kernel_rfl) (by kernel_rfl) (by kernel_rfl) (by kernel_rfl) (fun w hSw => ?_) hS ?_ ?_
                      rotate_left 2
                      · (try dsimp only at hSw); (try (have hSa := hSw.1; have hSb := hSw.2)); (try (have hSc := hSb.1; have hSd := hSb.2)); go_simp; with_reducible rfl
                      · go_simp; with_reducible rfl
                      refine keepReady (rs := [8]) (by kernel_rfl) (by simp) ?_
                      refine AllK.cons rfl (fun K hK => ?_) AllK.nil
                      go_simp
                      refine (hu1 _).mono ?_
                      rintro e w6 ⟨rfl, f6⟩
                      have hfl := unF0
                      have hS := And.intro (cell_fr f6 d0 (by simp)) (And.intro (cell_fr f6 d1 (by simp)) (cell_fr f6 d2 (by simp)))
                      have F6 : Fr [] w w6 := F5.trans (((Fr.refl [] w5).drew).trans f6)
                      try dsimp only
                      refine hK _ _ (fun _ => hS) ?_
                      clear hK K
                      try simp only [Act.put, List.setIfInBounds_toArray, List.set_cons_zero, List.set_cons_succ]
                      refine keepTake (i := 9) (v := ?_) (a' := ?_) rfl (by kernel_rfl) (by kernel_rfl) (by kernel_rfl) (by kernel_rfl) (by kernel_rfl) (by kernel_rfl) (fun w hSw => ?_) hS ?_ ?_
                      rotate_left 2
                      · (try dsimp only at hSw); (try (have hSa := hSw.1; have hSb := hSw.2)); (try (have hSc := hSb.1; have hSd := hSb.2)); go_simp; with_reducible rfl
                      · go_simp; with_reducible rfl
                      refine keepTake (i := 12) (v := ?_) (a' := ?_) rfl (by kernel_rfl) (by kernel_rfl) (by kernel_rfl) (by kernel_rfl) (by kernel_rfl) (by kernel_rfl) (fun w hSw => ?_) hS ?_ ?_
                      rotate_left 2
                      · (try dsimp only at hSw); (try (have hSa := hSw.1; have hSb := hSw.2)); (try (have hSc := hSb.1; have hSd := hSb.2)); go_simp; with_reducible rfl
                      · go_simp; with_reducible rfl
                      refine keepTake (i := 13) (v := ?_) (a' := ?_) rfl (by kernel_rfl) (by kernel_rfl) (by kernel_rfl) (by kernel_rfl) (by kernel_rfl) (by kernel_rfl) (fun w hSw => ?_) hS ?_ ?_
                      rotate_left 2
                      · (try dsimp only at hSw); (try (have hSa := hSw.1; have hSb := hSw.2)); (try (have hSc := hSb.1; have hSd := hSb.2)); go_simp; with_reducible rfl
                      · go_simp; with_reducible rfl
                      refine keepTake (i := 14) (v := ?_) (a' := ?_) rfl (by kernel_rfl) (by kernel_rfl) (by kernel_rfl) (by kernel_rfl) (by kernel_rfl) (by kernel_rfl) (fun w hSw => ?_) hS ?_ ?_
                      rotate_left 2
                      · (try dsimp only at hSw); (try (have hSa := hSw.1; have hSb := hSw.2)); (try (have hSc := hSb.1; have hSd := hSb.2)); go_simp; with_reducible rfl
                      · go_simp; with_reducible rfl
                      refine keepTake (i := 15) (v := ?_) (a' := ?_) rfl (by kernel_rfl) (by kernel_rfl) (by kernel_rfl) (by kernel_rfl) (by kernel_rfl) (by kernel_rfl) (fun w hSw => ?_) hS ?_ ?_
                      rotate_left 2
                      · (try dsimp only at hSw); (try (have hSa := hSw.1; have hSb := hSw.2)); (try (have hSc := hSb.1; have hSd := hSb.2)); go_simp; with_reducible rfl
                      · go_simp; with_reducible rfl
                      refine keepTake (i := 16) (v := ?_) (a' := ?_) rfl (by kernel_rfl) (by kernel_rfl) (by kernel_rfl) (by kernel_rfl) (by kernel_rfl) (by kernel_rfl) (fun w hSw => ?_) hS ?_ ?_
                      rotate_left 2
                      · (try dsimp only at hSw); (try (have hSa := hSw.1; have hSb := hSw.2)); (try (have hSc := hSb.1; have hSd := hSb.2)); go_simp; with_reducible rfl
                      · go_simp; with_reducible rfl
                      refine keepTake (i := 17) (v := ?_) (a' := ?_) rfl (by kernel_rfl) (by kernel_rfl) (by kernel_rfl) (by kernel_rfl) (by kernel_rfl) (by kernel_rfl) (fun w hSw => ?_) hS ?_ ?_
                      rotate_left 2
                      · (try dsimp only at hSw); (try (have hSa := hSw.1; have hSb := hSw.2)); (try (have hSc := hSb.1; have hSd := hSb.2)); go_simp; with_reducible rfl
                      · go_simp; with_reducible rfl
                      refine keepTake (i := 18) (v := ?_) (a' := ?_) rfl (by kernel_rfl) (by kernel_rfl) (by kernel_rfl) (by kernel_rfl) (by kernel_rfl) (by kernel_rfl) (fun w hSw => ?_) hS ?_ ?_
                      rotate_left 2
                      · (try dsimp only at hSw); (try (have hSa := hSw.1; have hSb := hSw.2)); (try (have hSc := hSb.1; have hSd := hSb.2)); go_simp; with_reducible rfl
                      · go_simp; with_reducible rfl
                      refine keepTake (i := 19) (v := ?_) (a' := ?_) rfl (by kernel_rfl) (by kernel_rfl) (by kernel_rfl) (by kernel_rfl) (by kernel_rfl) (by kernel_rfl) (fun w hSw => ?_) hS ?_ ?_
                      rotate_left 2
                      · (try dsimp only at hSw); (try (have hSa := hSw.1; have hSb := hSw.2)); (try (have hSc := hSb.1; have hSd := hSb.2)); go_simp; with_reducible rfl
                      · go_simp; with_reducible rfl
                      refine keepTake (i := 20) (v := ?_) (a' := ?_) rfl (by kernel_rfl) (by kernel_rfl) (by kernel_rfl) (by kernel_rfl) (by kernel_rfl) (by kernel_rfl) (fun w hSw => ?_) hS ?_ ?_
                      rotate_left 2
                      · (try dsimp only at hSw); (try (have hSa := hSw.1; have hSb := hSw.2)); (try (have hSc := hSb.1; have hSd := hSb.2)); go_simp; with_reducible rfl
                      · go_simp; with_reducible rfl
                      refine keepTake (i := 21) (v := ?_) (a' := ?_) rfl (by kernel_rfl) (by kernel_rfl) (by kernel_rfl) (by kernel_rfl) (by kernel_rfl) (by kernel_rfl) (fun w hSw => ?_) hS ?_ ?_
                      rotate_left 2
                      · (try dsimp only at hSw); (try (have hSa := hSw.1; have hSb := hSw.2)); (try (have hSc := hSb.1; have hSd := hSb.2)); go_simp; with_reducible rfl
                      · go_simp; with_reducible rfl
                      refine keepTake (i := 22) (v := ?_) (a' := ?_) rfl (by kernel_rfl) (by kernel_rfl) (by kernel_rfl) (by kernel_rfl) (by kernel_rfl) (by kernel_rfl) (fun w hSw => ?_) hS ?_ ?_
                      rotate_left 2
                      · (try dsimp only at hSw); (try (have hSa := hSw.1; have hSb := hSw.2)); (try (have hSc := hSb.1; have hSd := hSb.2)); go_simp; with_reducible rfl
                      · go_simp; with_reducible rfl
                      refine keepTake (i := 23) (v := ?_) (a' := ?_) rfl (by kernel_rfl) (by kernel_rfl) (by kernel_rfl) (by kernel_rfl) (by kernel_rfl) (by kernel_rfl) (fun w hSw => ?_) hS ?_ ?_
                      rotate_left 2
                      · (try dsimp only at hSw); (try (have hSa := hSw.1; have hSb := hSw.2)); (try (have hSc := hSb.1; have hSd := hSb.2)); go_simp; with_reducible rfl
                      · go_simp; with_reducible rfl
                      refine keepTake (i := 24) (v := ?_) (a' := ?_) rfl (by kernel_rfl) (by kernel_rfl) (by kernel_rfl) (by kernel_rfl) (by kernel_rfl) (by kernel_rfl) (fun w hSw => ?_) hS ?_ ?_
                      rotate_left 2
                      · (try dsimp only at hSw); (try (have hSa := hSw.1; have hSb := hSw.2)); (try (have hSc := hSb.1; have hSd := hSb.2)); go_simp; with_reducible rfl
                      · go_simp; with_reducible rfl
                      refine keepTake (i := 25) (v := ?_) (a' := ?_) rfl (by kernel_rfl) (by kernel_rfl) (by kernel_rfl) (by kernel_rfl) (by kernel_rfl) (by kernel_rfl) (fun w hSw => ?_) hS ?_ ?_
                      rotate_left 2
                      · (try dsimp only at hSw); (try (have hSa := hSw.1; have hSb := hSw.2)); (try (have hSc := hSb.1; have hSd := hSb.2)); go_simp; with_reducible rfl
                      · go_simp; with_reducible rfl
                      refine keepTake (i := 26) (v := ?_) (a' := ?_) rfl (by kernel_rfl) (by kernel_rfl) (by kernel_rfl) (by kernel_rfl) (by kernel_rfl) (by kernel_rfl) (fun w hSw => ?_) hS ?_ ?_
                      rotate_left 2
                      · (try dsimp only at hSw); (try (have hSa := hSw.1; have hSb := hSw.2)); (try (have hSc := hSb.1; have hSd := hSb.2)); go_simp; with_reducible rfl
                      · go_simp; with_reducible rfl
                      refine keepTake (i := 27) (v := ?_) (a' := ?_) rfl (by kernel_rfl) (by kernel_rfl) (by kernel_rfl) (by kernel_rfl) (by kernel_rfl) (by kernel_rfl) (fun w hSw => ?_) hS ?_ ?_
                      rotate_left 2
                      · (try dsimp only at hSw); (try (have hSa := hSw.1; have hSb := hSw.2)); (try (have hSc := hSb.1; have hSd := hSb.2)); go_simp; with_reducible rfl
                      · go_simp; with_reducible rfl
                      refine keepTake (i := 28) (v := ?_) (a' := ?_) rfl (by kernel_rfl) (by kernel_rfl) (by kernel_rfl) (by kernel_rfl) (by kernel_rfl) (by kernel_rfl) (fun w hSw => ?_) hS ?_ ?_
                      rotate_left 2
                      · (try dsimp only at hSw); (try (have hSa := hSw.1; have hSb := hSw.2)); (try (have hSc := hSb.1; have hSd := hSb.2)); go_simp; with_reducible rfl
                      · go_simp; with_reducible rfl
                      refine keepTake (i := 29) (v := ?_) (a' := ?_) rfl (by kernel_rfl) (by kernel_rfl) (by kernel_rfl) (by kernel_rfl) (by kernel_rfl) (by kernel_rfl) (fun w hSw => ?_) hS ?_ ?_
                      rotate_left 2
                      · (try dsimp only at hSw); (try (have hSa := hSw.1; have hSb := hSw.2)); (try (have hSc := hSb.1; have hSd := hSb.2)); go_simp; with_reducible rfl
                      · go_simp; with_reducible rfl
                      refine keepTake (i := 30) (v := ?_) (a' := ?_) rfl (by kernel_rfl) (by kernel_rfl) (by kernel_rfl) (by kernel_rfl) (by kernel_rfl) (by kernel_rfl) (fun w hSw => ?_) hS ?_ ?_
                      rotate_left 2
                      · (try dsimp only at hSw); (try (have hSa := hSw.1; have hSb := hSw.2)); (try (have hSc := hSb.1; have hSd := hSb.2)); go_simp; with_reducible rfl
                      · go_simp; with_reducible rfl
                      refine keepTake (i := 31) (v := ?_) (a' := ?_) rfl (by kernel_rfl) (by kernel_rfl) (by kernel_rfl) (by kernel_rfl) (by kernel_rfl) (by kernel_rfl) (fun w hSw => ?_) hS ?_ ?_
                      rotate_left 2
                      · (try dsimp only at hSw); (try (have hSa := hSw.1; have hSb := hSw.2)); (try (have hSc := hSb.1; have hSd := hSb.2)); go_simp; with_reducible rfl
                      · go_simp; with_reducible rfl
                      refine keepTake (i := 32) (v := ?_) (a' := ?_) rfl (by kernel_rfl) (by kernel_rfl) (by kernel_rfl) (by kernel_rfl) (by kernel_rfl) (by kernel_rfl) (fun w hSw => ?_) hS ?_ ?_
                      rotate_left 2
                      · (try dsimp only at hSw); (try (have hSa := hSw.1; have hSb := hSw.2)); (try (have hSc := hSb.1; have hSd := hSb.2)); go_simp; with_reducible rfl
                      · go_simp; with_reducible rfl
                      refine keepReady (rs := [33]) (by kernel_rfl) (by simp) ?_
                      refine AllK.cons rfl (fun K hK => ?_) AllK.nil
                      go_simp
                      try dsimp only
                      refine hK _ _ (fun _ => hS) ?_
                      clear hK K
                      try simp only [Act.put, List.setIfInBounds_toArray, List.set_cons_zero, List.set_cons_succ]
                      refine keepDone (by kernel_rfl) ?_ _
                      go_wp2_with fail
                      go_ret
                      refine ⟨_, rfl, ?_, F6⟩
                      rw [HN.out]
                      exact World.ownsRow_nil _ _ _ _
                ·
                  have e2' : decide ((im.length : Int) - 17 ≤ tx data n) = true := by simp; omega
                  have hb0 : tgood im t data n = false := by rw [hG]; simp [e2]
                  have HN := Lib.hid (NIL.out hb0)
                  clear hb0 hG hz e1 e2
                  refine wp_region_keep (fun w' => w'.cell? ⟨w2.heap.size, 0, none⟩ = some (.int .i64 t) ∧ w'.cell? ⟨g', 1 + n, none⟩ = some (str p1)) 100 (by kernel_rfl) ?_
                  have hS := And.intro d0 d1
                  refine keepTake (i := 0) (v := ?_) (a' := ?_) rfl (by kernel_rfl) (by kernel_rfl) (by kernel_rfl) (by kernel_rfl) (by kernel_rfl) (by kernel_rfl) (fun w hSw => ?_) hS ?_ ?_
                  rotate_left 2
                  · (try dsimp only at hSw); (try (have hSa := hSw.1; have hSb := hSw.2)); (try (have hSc := hSb.1; have hSd := hSb.2)); go_simp; with_reducible rfl
                  · go_simp; with_reducible rfl
                  refine keepTake (i := 1) (v := ?_) (a' := ?_) rfl (by kernel_rfl) (by kernel_rfl) (by kernel_rfl) (by kernel_rfl) (by kernel_rfl) (by kernel_rfl) (fun w hSw => ?_) hS ?_ ?_
                  rotate_left 2
                  · (try dsimp only at hSw); (try (have hSa := hSw.1; have hSb := hSw.2)); (try (have hSc := hSb.1; have hSd := hSb.2)); go_simp; with_reducible rfl
                  · go_simp; with_reducible rfl
                  refine keepTake (i := 2) (v := ?_) (a' := ?_) rfl (by kernel_rfl) (by kernel_rfl) (by kernel_rfl) (by kernel_rfl) (by kernel_rfl) (by kernel_rfl) (fun w hSw => ?_) hS ?_ ?_
                  rotate_left 2
                  · (try dsimp only at hSw); (try (have hSa := hSw.1; have hSb := hSw.2)); (try (have hSc := hSb.1; have hSd := hSb.2)); go_simp; with_reducible rfl
                  · go_simp; with_reducible rfl
                  refine keepTake (i := 3) (v := ?_) (a' := ?_) rfl (by kernel_rfl) (by kernel_rfl) (by kernel_rfl) (by kernel_rfl) (by kernel_rfl) (by kernel_rfl) (fun w hSw => ?_) hS ?_ ?_
                  rotate_left 2
                  · (try dsimp only at hSw); (try (have hSa := hSw.1; have hSb := hSw.2)); (try (have hSc := hSb.1; have hSd := hSb.2)); go_simp; with_reducible rfl
                  · go_simp; with_reducible rfl
                  refine keepTake (i := 4) (v := ?_) (a' := ?_) rfl (by kernel_rfl) (by kernel_rfl) (by kernel_rfl) (by kernel_rfl) (by kernel_rfl) (by kernel_rfl) (fun w hSw => ?_) hS ?_ ?_
                  rotate_left 2
                  · (try dsimp only at hSw); (try (have hSa := hSw.1; have hSb := hSw.2)); (try (have hSc := hSb.1; have hSd := hSb.2)); go_simp; with_reducible rfl
                  · go_simp; with_reducible rfl
                  refine keepTake (i := 5) (v := ?_) (a' := ?_) rfl (by kernel_rfl) (by kernel_rfl) (by kernel_rfl) (by kernel_rfl) (by kernel_rfl) (by kernel_rfl) (fun w hSw => ?_) hS ?_ ?_
                  rotate_left 2
                  · (try dsimp only at hSw); (try (have hSa := hSw.1; have hSb := hSw.2)); (try (have hSc := hSb.1; have hSd := hSb.2)); go_simp; with_reducible rfl
                  · go_simp; with_reducible rfl
                  refine keepTake (i := 6) (v := ?_) (a' := ?_) rfl (by kernel_rfl) (by kernel_rfl) (by kernel_rfl) (by kernel_rfl) (by kernel_rfl) (by kernel_rfl) (fun w hSw => ?_) hS ?_ ?_
                  rotate_left 2
                  · (try dsimp only at hSw); (try (have hSa := hSw.1; have hSb := hSw.2)); (try (have hSc := hSb.1; have hSd := hSb.2)); go_simp; with_reducible rfl
                  · go_simp; with_reducible rfl
                  refine keepTake (i := 7) (v := ?_) (a' := ?_) rfl (by kernel_rfl) (by kernel_rfl) (by kernel_rfl) (by kernel_rfl) (by kernel_rfl) (by kernel_rfl) (fun w hSw => ?_) hS ?_ ?_
                  rotate_left 2
                  · (try dsimp only at hSw); (try (have hSa := hSw.1; have hSb := hSw.2)); (try (have hSc := hSb.1; have hSd := hSb.2)); go_simp; with_reducible rfl
                  · go_simp; with_reducible rfl
                  refine keepTake (i := 10) (v := ?_) (a' := ?_) rfl (by kernel_rfl) (by kernel_rfl) (by kernel_rfl) (by kernel_rfl) (by kernel_rfl) (by kernel_rfl) (fun w hSw => ?_) hS ?_ ?_
                  rotate_left 2
                  · (try dsimp only at hSw); (try (have hSa := hSw.1; have hSb := hSw.2)); (try (have hSc := hSb.1; have hSd := hSb.2)); go_simp; with_reducible rfl
                  · go_simp; with_reducible rfl
                  refine keepTake (i := 11) (v := ?_) (a' := ?_) rfl (by kernel_rfl) (by kernel_rfl) (by kernel_rfl) (by kernel_rfl) (by kernel_rfl) (by kernel_rfl) (fun w hSw => ?_) hS ?_ ?_
                  rotate_left 2
                  · (try dsimp only at hSw); (try (have hSa := hSw.1; have hSb := hSw.2)); (try (have hSc := hSb.1; have hSd := hSb.2)); go_simp; with_reducible rfl
                  · go_simp; with_reducible rfl
                  refine keepReady (rs := [8]) (by kernel_rfl) (by simp) ?_
                  refine AllK.cons rfl (fun K hK => ?_) AllK.nil
                  go_simp
                  refine (hu1 _).mono ?_
                  rintro e w6 ⟨rfl, f6⟩
                  have hfl := unF0
                  have F6 : Fr [] w w6 := F5.trans (((Fr.refl [] w5).drew).trans f6)
                  have hS := And.intro (cell_fr f6 d0 (by simp)) (cell_fr f6 d1 (by simp))
                  try dsimp only
                  refine hK _ _ (fun _ => hS) ?_
                  clear hK K
                  try simp only [Act.put, List.setIfInBounds_toArray, List.set_cons_zero, List.set_cons_succ]
                  refine keepTake (i := 9) (v := ?_) (a' := ?_) rfl (by kernel_rfl) (by kernel_rfl) (by kernel_rfl) (by kernel_rfl) (by kernel_rfl) (by kernel_rfl) (fun w hSw => ?_) hS ?_ ?_
                  rotate_left 2
                  · (try dsimp only at hSw); (try (have hSa := hSw.1; have hSb := hSw.2)); (try (have hSc := hSb.1; have hSd := hSb.2)); go_simp; with_reducible rfl
                  · go_simp; with_reducible rfl
                  refine keepTake (i := 12) (v := ?_) (a' := ?_) rfl (by kernel_rfl) (by kernel_rfl) (by kernel_rfl) (by kernel_rfl) (by kernel_rfl) (by kernel_rfl) (fun w hSw => ?_) hS ?_ ?_
                  rotate_left 2
                  · (try dsimp only at hSw); (try (have hSa := hSw.1; have hSb := hSw.2)); (try (have hSc := hSb.1; have hSd := hSb.2)); go_simp; with_reducible rfl
                  · go_simp; with_reducible rfl
                  refine keepTake (i := 13) (v := ?_) (a' := ?_) rfl (by kernel_rfl) (by kernel_rfl) (by kernel_rfl) (by kernel_rfl) (by kernel_rfl) (by kernel_rfl) (fun w hSw => ?_) hS ?_ ?_
                  rotate_left 2
                  · (try dsimp only at hSw); (try (have hSa := hSw.1; have hSb := hSw.2)); (try (have hSc := hSb.1; have hSd := hSb.2)); go_simp; with_reducible rfl
                  · go_simp; with_reducible rfl
                  refine keepTake (i := 14) (v := ?_) (a' := ?_) rfl (by kernel_rfl) (by kernel_rfl) (by kernel_rfl) (by kernel_rfl) (by kernel_rfl) (by kernel_rfl) (fun w hSw => ?_) hS ?_ ?_
                  rotate_left 2
                  · (try dsimp only at hSw); (try (have hSa := hSw.1; have hSb := hSw.2)); (try (have hSc := hSb.1; have hSd := hSb.2)); go_simp; with_reducible rfl
                  · go_simp; with_reducible rfl
                  refine keepTake (i := 15) (v := ?_) (a' := ?_) rfl (by kernel_rfl) (by kernel_rfl) (by kernel_rfl) (by kernel_rfl) (by kernel_rfl) (by kernel_rfl) (fun w hSw => ?_) hS ?_ ?_
                  rotate_left 2
                  · (try dsimp only at hSw); (try (have hSa := hSw.1; have hSb := hSw.2)); (try (have hSc := hSb.1; have hSd := hSb.2)); go_simp; with_reducible rfl
                  · go_simp; with_reducible rfl
                  refine keepTake (i := 16) (v := ?_) (a' := ?_) rfl (by kernel_rfl) (by kernel_rfl) (by kernel_rfl) (by kernel_rfl) (by kernel_rfl) (by kernel_rfl) (fun w hSw => ?_) hS ?_ ?_
                  rotate_left 2
                  · (try dsimp only at hSw); (try (have hSa := hSw.1; have hSb := hSw.2)); (try (have hSc := hSb.1; have hSd := hSb.2)); go_simp; with_reducible rfl
                  · go_simp; with_reducible rfl
                  refine keepTake (i := 17) (v := ?_) (a' := ?_) rfl (by kernel_rfl) (by kernel_rfl) (by kernel_rfl) (by kernel_rfl) (by kernel_rfl) (by kernel_rfl) (fun w hSw => ?_) hS ?_ ?_
                  rotate_left 2
                  · (try dsimp only at hSw); (try (have hSa := hSw.1; have hSb := hSw.2)); (try (have hSc := hSb.1; have hSd := hSb.2)); go_simp; with_reducible rfl
                  · go_simp; with_reducible rfl
                  refine keepTake (i := 18) (v := ?_) (a' := ?_) rfl (by kernel_rfl) (by kernel_rfl) (by kernel_rfl) (by kernel_rfl) (by kernel_rfl) (by kernel_rfl) (fun w hSw => ?_) hS ?_ ?_
                  rotate_left 2
                  · (try dsimp only at hSw); (try (have hSa := hSw.1; have hSb := hSw.2)); (try (have hSc := hSb.1; have hSd := hSb.2)); go_simp; with_reducible rfl
                  · go_simp; with_reducible rfl
                  refine keepTake (i := 19) (v := ?_) (a' := ?_) rfl (by kernel_rfl) (by kernel_rfl) (by kernel_rfl) (by kernel_rfl) (by kernel_rfl) (by kernel_rfl) (fun w hSw => ?_) hS ?_ ?_
                  rotate_left 2
                  · (try dsimp only at hSw); (try (have hSa := hSw.1; have hSb := hSw.2)); (try (have hSc := hSb.1; have hSd := hSb.2)); go_simp; with_reducible rfl
                  · go_simp; with_reducible rfl
                  refine keepTake (i := 20) (v := ?_) (a' := ?_) rfl (by kernel_rfl) (by kernel_rfl) (by kernel_rfl) (by kernel_rfl) (by kernel_rfl) (by kernel_rfl) (fun w hSw => ?_) hS ?_ ?_
                  rotate_left 2
                  · (try dsimp only at hSw); (try (have hSa := hSw.1; have hSb := hSw.2)); (try (have hSc := hSb.1; have hSd := hSb.2)); go_simp; with_reducible rfl
                  · go_simp; with_reducible rfl
                  refine keepTake (i := 21) (v := ?_) (a' := ?_) rfl (by kernel_rfl) (by kernel_rfl) (by kernel_rfl) (by kernel_rfl) (by kernel_rfl) (by kernel_rfl) (fun w hSw => ?_) hS ?_ ?_
                  rotate_left 2
                  · (try dsimp only at hSw); (try (have hSa := hSw.1; have hSb := hSw.2)); (try (have hSc := hSb.1; have hSd := hSb.2)); go_simp; with_reducible rfl
                  · go_simp; with_reducible rfl
                  refine keepSkip (i := 22) (a' := ?_) rfl (by kernel_rfl) (by kernel_rfl) (by kernel_rfl) (by kernel_rfl) (by kernel_rfl) (by kernel_rfl) hS ?_ ?_
                  rotate_left 1
                  · go_simp; with_reducible rfl
                  refine keepSkip (i := 23) (a' := ?_) rfl (by kernel_rfl) (by kernel_rfl) (by kernel_rfl) (by kernel_rfl) (by kernel_rfl) (by kernel_rfl) hS ?_ ?_
                  rotate_left 1
                  · go_simp; with_reducible rfl
                  refine keepSkip (i := 24) (a' := ?_) rfl (by kernel_rfl) (by kernel_rfl) (by kernel_rfl) (by kernel_rfl) (by kernel_rfl) (by kernel_rfl) hS ?_ ?_
                  rotate_left 1
                  · go_simp; with_reducible rfl
                  refine keepSkip (i := 25) (a' := ?_) rfl (by kernel_rfl) (by kernel_rfl) (by kernel_rfl) (by kernel_rfl) (by kernel_rfl) (by kernel_rfl) hS ?_ ?_
                  rotate_left 1
                  · go_simp; with_reducible rfl
                  refine keepSkip (i := 26) (a' := ?_) rfl (by kernel_rfl) (by kernel_rfl) (by kernel_rfl) (by kernel_rfl) (by kernel_rfl) (by kernel_rfl) hS ?_ ?_
                  rotate_left 1
                  · go_simp; with_reducible rfl
                  refine keepSkip (i := 27) (a' := ?_) rfl (by kernel_rfl) (by kernel_rfl) (by kernel_rfl) (by kernel_rfl) (by kernel_rfl) (by kernel_rfl) hS ?_ ?_
                  rotate_left 1
                  · go_simp; with_reducible rfl
                  refine keepSkip (i := 28) (a' := ?_) rfl (by kernel_rfl) (by kernel_rfl) (by kernel_rfl) (by kernel_rfl) (by kernel_rfl) (by kernel_rfl) hS ?_ ?_
                  rotate_left 1
                  · go_simp; with_reducible rfl
                  refine keepSkip (i := 29) (a' := ?_) rfl (by kernel_rfl) (by kernel_rfl) (by kernel_rfl) (by kernel_rfl) (by kernel_rfl) (by kernel_rfl) hS ?_ ?_
                  rotate_left 1
                  · go_simp; with_reducible rfl
                  refine keepSkip (i := 30) (a' := ?_) rfl (by kernel_rfl) (by kernel_rfl) (by kernel_rfl) (by kernel_rfl) (by kernel_rfl) (by kernel_rfl) hS ?_ ?_
                  rotate_left 1
                  · go_simp; with_reducible rfl
                  refine keepSkip (i := 31) (a' := ?_) rfl (by kernel_rfl) (by kernel_rfl) (by kernel_rfl) (by kernel_rfl) (by kernel_rfl) (by kernel_rfl) hS ?_ ?_
                  rotate_left 1
                  · go_simp; with_reducible rfl
                  refine keepSkip (i := 32) (a' := ?_) rfl (by kernel_rfl) (by kernel_rfl) (by kernel_rfl) (by kernel_rfl) (by kernel_rfl) (by kernel_rfl) hS ?_ ?_
                  rotate_left 1
                  · go_simp; with_reducible rfl
                  refine keepReady (rs := [33]) (by kernel_rfl) (by simp) ?_
                  refine AllK.cons rfl (fun K hK => ?_) AllK.nil
                  go_simp
                  try dsimp only
                  refine hK _ _ (fun _ => hS) ?_
                  clear hK K
                  try simp only [Act.put, List.setIfInBounds_toArray, List.set_cons_zero, List.set_cons_succ]
                  refine keepDone (by kernel_rfl) ?_ _
                  go_wp2_with fail
                  go_ret
                  refine ⟨_, rfl, ?_, F6⟩
                  rw [HN.out]
                  exact World.ownsRow_nil _ _ _ _
              ·
                have e1' : ((n2 : Int) != (t : Int)) = true := by simp [bne]; omega
                have hb0 : tgood im t data n = false := by rw [hG]; simp [e1]
                have HN := Lib.hid (NIL.out hb0)
                clear hb0 hG hz e1
                refine wp_region_keep (fun w' => w'.cell? ⟨w2.heap.size, 0, none⟩ = some (.int .i64 t) ∧ w'.cell? ⟨g', 1 + n, none⟩ = some (str p1)) 100 (by kernel_rfl) ?_
                have hS := And.intro d0 d1
                refine keepTake (i := 0) (v := ?_) (a' := ?_) rfl (by kernel_rfl) (by kernel_rfl) (by kernel_rfl) (by kernel_rfl) (by kernel_rfl) (by kernel_rfl) (fun w hSw => ?_) hS ?_ ?_
                rotate_left 2
                · (try dsimp only at hSw); (try (have hSa := hSw.1; have hSb := hSw.2)); (try (have hSc := hSb.1; have hSd := hSb.2)); go_simp; with_reducible rfl
                · go_simp; with_reducible rfl
                refine keepTake (i := 1) (v := ?_) (a' := ?_) rfl (by kernel_rfl) (by kernel_rfl) (by kernel_rfl) (by kernel_rfl) (by kernel_rfl) (by kernel_rfl) (fun w hSw => ?_) hS ?_ ?_
                rotate_left 2
                · (try dsimp only at hSw); (try (have hSa := hSw.1; have hSb := hSw.2)); (try (have hSc := hSb.1; have hSd := hSb.2)); go_simp; with_reducible rfl
                · go_simp; with_reducible rfl
                refine keepTake (i := 2) (v := ?_) (a' := ?_) rfl (by kernel_rfl) (by kernel_rfl) (by kernel_rfl) (by kernel_rfl) (by kernel_rfl) (by kernel_rfl) (fun w hSw => ?_) hS ?_ ?_
                rotate_left 2
                · (try dsimp only at hSw); (try (have hSa := hSw.1; have hSb := hSw.2)); (try (have hSc := hSb.1; have hSd := hSb.2)); go_simp; with_reducible rfl
                · go_simp; with_reducible rfl
                refine keepTake (i := 3) (v := ?_) (a' := ?_) rfl (by kernel_rfl) (by kernel_rfl) (by kernel_rfl) (by kernel_rfl) (by kernel_rfl) (by kernel_rfl) (fun w hSw => ?_) hS ?_ ?_
                rotate_left 2
                · (try dsimp only at hSw); (try (have hSa := hSw.1; have hSb := hSw.2)); (try (have hSc := hSb.1; have hSd := hSb.2)); go_simp; with_reducible rfl
                · go_simp; with_reducible rfl
                refine keepTake (i := 4) (v := ?_) (a' := ?_) rfl (by kernel_rfl) (by kernel_rfl) (by kernel_rfl) (by kernel_rfl) (by kernel_rfl) (by kernel_rfl) (fun w hSw => ?_) hS ?_ ?_
                rotate_left 2
                · (try dsimp only at hSw); (try (have hSa := hSw.1; have hSb := hSw.2)); (try (have hSc := hSb.1; have hSd := hSb.2)); go_simp; with_reducible rfl
                · go_simp; with_reducible rfl
                refine keepTake (i := 5) (v := ?_) (a' := ?_) rfl (by kernel_rfl) (by kernel_rfl) (by kernel_rfl) (by kernel_rfl) (by kernel_rfl) (by kernel_rfl) (fun w hSw => ?_) hS ?_ ?_
                rotate_left 2
                · (try dsimp only at hSw); (try (have hSa := hSw.1; have hSb := hSw.2)); (try (have hSc := hSb.1; have hSd := hSb.2)); go_simp; with_reducible rfl
                · go_simp; with_reducible rfl
                refine keepTake (i := 6) (v := ?_) (a' := ?_) rfl (by kernel_rfl) (by kernel_rfl) (by kernel_rfl) (by kernel_rfl) (by kernel_rfl) (by kernel_rfl) (fun w hSw => ?_) hS ?_ ?_
                rotate_left 2
                · (try dsimp only at hSw); (try (have hSa := hSw.1; have hSb := hSw.2)); (try (have hSc := hSb.1; have hSd := hSb.2)); go_simp; with_reducible rfl
                · go_simp; with_reducible rfl
                refine keepTake (i := 7) (v := ?_) (a' := ?_) rfl (by kernel_rfl) (by kernel_rfl) (by kernel_rfl) (by kernel_rfl) (by kernel_rfl) (by kernel_rfl) (fun w hSw => ?_) hS ?_ ?_
                rotate_left 2
                · (try dsimp only at hSw); (try (have hSa := hSw.1; have hSb := hSw.2)); (try (have hSc := hSb.1; have hSd := hSb.2)); go_simp; with_reducible rfl
                · go_simp; with_reducible rfl
                refine keepTake (i := 10) (v := ?_) (a' := ?_) rfl (by kernel_rfl) (by kernel_rfl) (by kernel_rfl) (by kernel_rfl) (by kernel_rfl) (by kernel_rfl) (fun w hSw => ?_) hS ?_ ?_
                rotate_left 2
                · (try dsimp only at hSw); (try (have hSa := hSw.1; have hSb := hSw.2)); (try (have hSc := hSb.1; have hSd := hSb.2)); go_simp; with_reducible rfl
                · go_simp; with_reducible rfl
                refine keepTake (i := 11) (v := ?_) (a' := ?_) rfl (by kernel_rfl) (by kernel_rfl) (by kernel_rfl) (by kernel_rfl) (by kernel_rfl) (by kernel_rfl) (fun w hSw => ?_) hS ?_ ?_
                rotate_left 2
                · (try dsimp only at hSw); (try (have hSa := hSw.1; have hSb := hSw.2)); (try (have hSc := hSb.1; have hSd := hSb.2)); go_simp; with_reducible rfl
                · go_simp; with_reducible rfl
                refine keepReady (rs := [8]) (by kernel_rfl) (by simp) ?_
                refine AllK.cons rfl (fun K hK => ?_) AllK.nil
                go_simp
                refine (hu1 _).mono ?_
                rintro e w6 ⟨rfl, f6⟩
                have hfl := unF0
                have hS := And.intro (cell_fr f6 d0 (by simp)) (cell_fr f6 d1 (by simp))
                have F6 : Fr [] w w6 := F5.trans (((Fr.refl [] w5).drew).trans f6)
                try dsimp only
                refine hK _ _ (fun _ => hS) ?_
                clear hK K
                try simp only [Act.put, List.setIfInBounds_toArray, List.set_cons_zero, List.set_cons_succ]
                refine keepTake (i := 9) (v := ?_) (a' := ?_) rfl (by kernel_rfl) (by kernel_rfl) (by kernel_rfl) (by kernel_rfl) (by kernel_rfl) (by kernel_rfl) (fun w hSw => ?_) hS ?_ ?_
                rotate_left 2
                · (try dsimp only at hSw); (try (have hSa := hSw.1; have hSb := hSw.2)); (try (have hSc := hSb.1; have hSd := hSb.2)); go_simp; with_reducible rfl
                · go_simp; with_reducible rfl
                refine keepTake (i := 12) (v := ?_) (a' := ?_) rfl (by kernel_rfl) (by kernel_rfl) (by kernel_rfl) (by kernel_rfl) (by kernel_rfl) (by kernel_rfl) (fun w hSw => ?_) hS ?_ ?_
                rotate_left 2
                · (try dsimp only at hSw); (try (have hSa := hSw.1; have hSb := hSw.2)); (try (have hSc := hSb.1; have hSd := hSb.2)); go_simp; with_reducible rfl
                · go_simp; with_reducible rfl
                refine keepTake (i := 13) (v := ?_) (a' := ?_) rfl (by kernel_rfl) (by kernel_rfl) (by kernel_rfl) (by kernel_rfl) (by kernel_rfl) (by kernel_rfl) (fun w hSw => ?_) hS ?_ ?_
                rotate_left 2
                · (try dsimp only at hSw); (try (have hSa := hSw.1; have hSb := hSw.2)); (try (have hSc := hSb.1; have hSd := hSb.2)); go_simp; with_reducible rfl
                · go_simp; with_reducible rfl
                refine keepTake (i := 14) (v := ?_) (a' := ?_) rfl (by kernel_rfl) (by kernel_rfl) (by kernel_rfl) (by kernel_rfl) (by kernel_rfl) (by kernel_rfl) (fun w hSw => ?_) hS ?_ ?_
                rotate_left 2
                · (try dsimp only at hSw); (try (have hSa := hSw.1; have hSb := hSw.2)); (try (have hSc := hSb.1; have hSd := hSb.2)); go_simp; with_reducible rfl
                · go_simp; with_reducible rfl
                refine keepSkip (i := 15) (a' := ?_) rfl (by kernel_rfl) (by kernel_rfl) (by kernel_rfl) (by kernel_rfl) (by kernel_rfl) (by kernel_rfl) hS ?_ ?_
                rotate_left 1
                · go_simp; with_reducible rfl
                refine keepSkip (i := 16) (a' := ?_) rfl (by kernel_rfl) (by kernel_rfl) (by kernel_rfl) (by kernel_rfl) (by kernel_rfl) (by kernel_rfl) hS ?_ ?_
                rotate_left 1
                · go_simp; with_reducible rfl
                refine keepSkip (i := 17) (a' := ?_) rfl (by kernel_rfl) (by kernel_rfl) (by kernel_rfl) (by kernel_rfl) (by kernel_rfl) (by kernel_rfl) hS ?_ ?_
                rotate_left 1
                · go_simp; with_reducible rfl
                refine keepSkip (i := 18) (a' := ?_) rfl (by kernel_rfl) (by kernel_rfl) (by kernel_rfl) (by kernel_rfl) (by kernel_rfl) (by kernel_rfl) hS ?_ ?_
                rotate_left 1
                · go_simp; with_reducible rfl
                refine keepSkip (i := 19) (a' := ?_) rfl (by kernel_rfl) (by kernel_rfl) (by kernel_rfl) (by kernel_rfl) (by kernel_rfl) (by kernel_rfl) hS ?_ ?_
                rotate_left 1
                · go_simp; with_reducible rfl
                refine keepTake (i := 20) (v := ?_) (a' := ?_) rfl (by kernel_rfl) (by kernel_rfl) (by kernel_rfl) (by kernel_rfl) (by kernel_rfl) (by kernel_rfl) (fun w hSw => ?_) hS ?_ ?_
                rotate_left 2
                · (try dsimp only at hSw); (try (have hSa := hSw.1; have hSb := hSw.2)); (try (have hSc := hSb.1; have hSd := hSb.2)); go_simp; with_reducible rfl
                · go_simp; with_reducible rfl
                refine keepTake (i := 21) (v := ?_) (a' := ?_) rfl (by kernel_rfl) (by kernel_rfl) (by kernel_rfl) (by kernel_rfl) (by kernel_rfl) (by kernel_rfl) (fun w hSw => ?_) hS ?_ ?_
                rotate_left 2
                · (try dsimp only at hSw); (try (have hSa := hSw.1; have hSb := hSw.2)); (try (have hSc := hSb.1; have hSd := hSb.2)); go_simp; with_reducible rfl
                · go_simp; with_reducible rfl
                refine keepSkip (i := 22) (a' := ?_) rfl (by kernel_rfl) (by kernel_rfl) (by kernel_rfl) (by kernel_rfl) (by kernel_rfl) (by kernel_rfl) hS ?_ ?_
                rotate_left 1
                · go_simp; with_reducible rfl
                refine keepSkip (i := 23) (a' := ?_) rfl (by kernel_rfl) (by kernel_rfl) (by kernel_rfl) (by kernel_rfl) (by kernel_rfl) (by kernel_rfl) hS ?_ ?_
                rotate_left 1
                · go_simp; with_reducible rfl
                refine keepSkip (i := 24) (a' := ?_) rfl (by kernel_rfl) (by kernel_rfl) (by kernel_rfl) (by kernel_rfl) (by kernel_rfl) (by kernel_rfl) hS ?_ ?_
                rotate_left 1
                · go_simp; with_reducible rfl
                refine keepSkip (i := 25) (a' := ?_) rfl (by kernel_rfl) (by kernel_rfl) (by kernel_rfl) (by kernel_rfl) (by kernel_rfl) (by kernel_rfl) hS ?_ ?_
                rotate_left 1
                · go_simp; with_reducible rfl
                refine keepSkip (i := 26) (a' := ?_) rfl (by kernel_rfl) (by kernel_rfl) (by kernel_rfl) (by kernel_rfl) (by kernel_rfl) (by kernel_rfl) hS ?_ ?_
                rotate_left 1
                · go_simp; with_reducible rfl
                refine keepSkip (i := 27) (a' := ?_) rfl (by kernel_rfl) (by kernel_rfl) (by kernel_rfl) (by kernel_rfl) (by kernel_rfl) (by kernel_rfl) hS ?_ ?_
                rotate_left 1
                · go_simp; with_reducible rfl
                refine keepSkip (i := 28) (a' := ?_) rfl (by kernel_rfl) (by kernel_rfl) (by kernel_rfl) (by kernel_rfl) (by kernel_rfl) (by kernel_rfl) hS ?_ ?_
                rotate_left 1
                · go_simp; with_reducible rfl
                refine keepSkip (i := 29) (a' := ?_) rfl (by kernel_rfl) (by kernel_rfl) (by kernel_rfl) (by kernel_rfl) (by kernel_rfl) (by kernel_rfl) hS ?_ ?_
                rotate_left 1
                · go_simp; with_reducible rfl
                refine keepSkip (i := 30) (a' := ?_) rfl (by kernel_rfl) (by kernel_rfl) (by kernel_rfl) (by kernel_rfl) (by kernel_rfl) (by kernel_rfl) hS ?_ ?_
                rotate_left 1
                · go_simp; with_reducible rfl
                refine keepSkip (i := 31) (a' := ?_) rfl (by kernel_rfl) (by kernel_rfl) (by kernel_rfl) (by kernel_rfl) (by kernel_rfl) (by kernel_rfl) hS ?_ ?_
                rotate_left 1
                · go_simp; with_reducible rfl
                refine keepSkip (i := 32) (a' := ?_) rfl (by kernel_rfl) (by kernel_rfl) (by kernel_rfl) (by kernel_rfl) (by kernel_rfl) (by kernel_rfl) hS ?_ ?_
                rotate_left 1
                · go_simp; with_reducible rfl
                refine keepReady (rs := [33]) (by kernel_rfl) (by simp) ?_
                refine AllK.cons rfl (fun K hK => ?_) AllK.nil
                go_simp
                try dsimp only
                refine hK _ _ (fun _ => hS) ?_
                clear hK K
                try simp only [Act.put, List.setIfInBounds_toArray, List.set_cons_zero, List.set_cons_succ]
                refine keepDone (by kernel_rfl) ?_ _
                go_wp2_with fail
                go_ret
                refine ⟨_, rfl, ?_, F6⟩
                rw [HN.out]
                exact World.ownsRow_nil _ _ _ _
          ·
            obtain rfl : n = k := by omega
            have hlt' : decide ((n : Int) < (n : Int)) = false := by simp
            have LP : PwAt wr u7 (bare (txs data n)) := by
              have h := ownsRow_low L (Nat.zero_le _)
              have e : (bare (txs data n)).length = n := by simp [bare, txs]
              unfold PwAt
              rw [e]
              exact h
            have hpg : pgs (bare (txs data n)) = txs data n := by simp [pgs, bare, Function.comp_def]
            have hfw : (bare (txs data n)).length ≤ 16 := by simp [bare, txs]; omega
            have hnn : ∀ x ∈ bare (txs data n), 0 ≤ x.1 := by intro x hx; simp only [bare, List.mem_map] at hx; obtain ⟨y, _, rfl⟩ := hx; exact Int.natCast_nonneg _
            have hh := rHead_calls (LP.fr ((Fr.refl [] wr).drew) (by simp)) hfw hnn
            rw [hpg] at hh
            have c1 : wr.cell? ⟨w2.heap.size, 1, none⟩ = some (str data) := blk_cell gr 1 rfl
            clear hnn
            generalize hR : record (txs data n) = rc at hh
            rw [hR] at HT
            have HR := Lib.hid hR
            clear hR
            have hS : wr.drew.cell? ⟨w2.heap.size, 1, none⟩ = some (str data) := c1
            go_upto_region 19 with fail
            refine wp_region_keep (fun w' => w'.cell? ⟨w2.heap.size, 1, none⟩ = some (str data)) 100 (by kernel_rfl) ?_
            refine keepTake (i := 0) (v := ?_) (a' := ?_) rfl (by kernel_rfl) (by kernel_rfl) (by kernel_rfl) (by kernel_rfl) (by kernel_rfl) (by kernel_rfl) (fun w hSw => ?_) hS ?_ ?_
            rotate_left 2
            · (try dsimp only at hSw); (try (have hSa := hSw.1; have hSb := hSw.2)); (try (have hSc := hSb.1; have hSd := hSb.2)); go_simp; with_reducible rfl
            · go_simp; with_reducible rfl
            refine keepTake (i := 2) (v := ?_) (a' := ?_) rfl (by kernel_rfl) (by kernel_rfl) (by kernel_rfl) (by kernel_rfl) (by kernel_rfl) (by kernel_rfl) (fun w hSw => ?_) hS ?_ ?_
            rotate_left 2
            · (try dsimp only at hSw); (try (have hSa := hSw.1; have hSb := hSw.2)); (try (have hSc := hSb.1; have hSd := hSb.2)); go_simp; with_reducible rfl
            · go_simp; with_reducible rfl
            refine keepTake (i := 3) (v := ?_) (a' := ?_) rfl (by kernel_rfl) (by kernel_rfl) (by kernel_rfl) (by kernel_rfl) (by kernel_rfl) (by kernel_rfl) (fun w hSw => ?_) hS ?_ ?_
            rotate_left 2
            · (try dsimp only at hSw); (try (have hSa := hSw.1; have hSb := hSw.2)); (try (have hSc := hSb.1; have hSd := hSb.2)); go_simp; with_reducible rfl
            · go_simp; with_reducible rfl
            refine keepReady (rs := [1]) (by kernel_rfl) (by simp) ?_
            refine AllK.cons rfl (fun K hK => ?_) AllK.nil
            go_simp
            refine hh.mono ?_
            rintro e w6 ⟨rfl, f6⟩
            have hfl := unF0
            have hS := cell_fr f6 hS (by simp)
            have F6 : Fr [] w w6 := fr.trans (((Fr.refl [] wr).drew).trans f6)
            have R6 := ownsRow_fr' R (((Fr.refl [] wr).drew).trans f6) (by simp)
            try dsimp only
            refine hK _ _ (fun _ => hS) ?_
            clear hK K
            try simp only [Act.put, List.setIfInBounds_toArray, List.set_cons_zero, List.set_cons_succ]
            by_cases hrd : rc = data
            · refine keepTake (i := 4) (v := .bool false) rfl (by kernel_rfl) (by kernel_rfl) (by kernel_rfl) (by kernel_rfl) (by kernel_rfl) (by kernel_rfl) (fun w hSw => run_strNe _ _ _ _ rfl rc data rfl rfl false (by simpa using hrd)) hS rfl ?_
              try simp only [Act.put, List.setIfInBounds_toArray, List.set_cons_zero, List.set_cons_succ]
              have HN : Hid (txs data n = T) := by unfold Hid; rw [← HT.out, if_pos ⟨ha.out, hrd⟩]
              clear hrd
              refine keepDone (by kernel_rfl) ?_ _
              go_wp2_with fail
              go_ret
              refine ⟨_, rfl, ?_, F6⟩
              rw [← HN.out, txs_length]
              exact ownsRow_low R6 (by omega)
            · refine keepTake (i := 4) (v := .bool true) rfl (by kernel_rfl) (by kernel_rfl) (by kernel_rfl) (by kernel_rfl) (by kernel_rfl) (by kernel_rfl) (fun w hSw => run_strNe _ _ _ _ rfl rc data rfl rfl true (by simpa using hrd)) hS rfl ?_
              try simp only [Act.put, List.setIfInBounds_toArray, List.set_cons_zero, List.set_cons_succ]
              have HN : Hid (T = []) := by unfold Hid; rw [← HT.out, if_neg (by simp [hrd])]
              clear hrd
              refine keepDone (by kernel_rfl) ?_ _
              go_wp2_with fail
              go_ret
              refine ⟨_, rfl, ?_, F6⟩
              rw [HN.out]
              exact World.ownsRow_nil _ _ _ _
end
end Go.Proofs.YtpoagpaglocpeaaGreat
