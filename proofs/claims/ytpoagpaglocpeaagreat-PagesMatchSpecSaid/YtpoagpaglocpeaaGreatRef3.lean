/- The specification's disk: settling, flushing. -/
import Derived.Test.YtpoagpaglocpeaaGreatRef2
namespace Go.Proofs.YtpoagpaglocpeaaGreat
set_option linter.unusedSimpArgs false
set_option linter.unusedVariables false
set_option linter.unnecessarySimpa false
open Go.RowKit M

section
variable {w : World} {L : RL} {d : Disk}

set_option maxRecDepth 100000 in
theorem rdSettle_calls (h : RDiskAt w L d) (i : Nat) (q : Pg) (hq : d.pg[i]? = some q) (p : Int) : Calls Tryz.prog 117 #[Rp L, .int .i64 i, .int .i64 p] w fun e w' =>
    e = .returned (.tuple #[]) ∧ RDiskAt w' L { d with pg := d.pg.set i (q.tear (clamp p)) } ∧ Fr [L.pb] w w' := by
  obtain ⟨p0, p1, p2⟩ := h.pc hq
  have c0 := h.c0
  have hi := (List.getElem?_eq_some_iff.1 hq).1
  have hi' : (i : Int) < d.pg.length := by omega
  have hqo := h.ok.olds q (List.mem_of_getElem? hq)
  have hqn := h.ok.news q (List.mem_of_getElem? hq)
  cases hb : q.new with
  | none =>
    have e : d.pg.set i (q.tear (clamp p)) = d.pg := by
      have : q.tear (clamp p) = q := by simp [Pg.tear, hb]
      rw [this]
      exact set_same hq
    rw [e]
    have HB := Lib.hid hb
    rw [hb, Option.isSome_none] at p2
    clear e hb
    go_enter Tryz.func117, Tryz.ntmps117
    go_wp2
    refine bodyPost_ret (results_none rfl _ _ _) rfl ?_
    exact ⟨rfl, h, Fr.refl _ _⟩
  | some b =>
    have hb8 := hqn b hb
    rw [hb] at p1 p2
    rw [tear_old hb]
    have hcl := clamp_eq p
    have hle := clamp_le p
    have f0 := h.fp (i * 3)
    have f1 := h.fp (i * 3 + 1)
    have f2 := h.fp (i * 3 + 2)
    generalize clamp p = k at hcl hle ⊢
    have HC := Lib.hid hcl
    have HO := Lib.hid hqo
    have HB8 := Lib.hid hb8
    clear hb hcl hqo hb8 hqn
    go_enter Tryz.func117, Tryz.ntmps117
    go_wp2_with (first | (with_reducible refine wpL_stop (o := ⟨_, .alloc 177, _, _, _, none⟩) ?_) | (with_reducible refine wpL_stop (o := ⟨_, .load 177 _, _, _, _, none⟩) ?_) | (with_reducible refine wpL_stop (o := ⟨_, .store 177 _ _, _, _, _, none⟩) ?_) | (with_reducible refine wpL_stop (o := ⟨_, .lookup _ _ _ _, _, _, _, none⟩) ?_) | (with_reducible refine wpL_stop (o := ⟨_, .box 177 _, _, _, _, none⟩) ?_) | (with_reducible refine wpL_stop (o := ⟨_, .next _ _, _, _, _, none⟩) ?_) | (with_reducible refine wpL_stop (o := ⟨_, .range _ _, _, _, _, none⟩) ?_) | (with_reducible refine wpL_stop (o := ⟨_, .mapUpdate _ _ _ _, _, _, _, none⟩) ?_) | (with_reducible refine wpL_stop (o := ⟨_, .convert 175 9 _, _, _, _, none⟩) ?_) | (with_reducible refine wpL_stop (o := ⟨_, .convert 9 175 _, _, _, _, none⟩) ?_) | (with_reducible refine wpL_stop (o := ⟨_, .call { callee := .builtin .copy, args := _, argTypes := _ }, _, _, _, none⟩) ?_) | (with_reducible refine wpL_stop (o := ⟨_, .call { callee := .builtin .append, args := _, argTypes := _ }, _, _, _, none⟩) ?_) | (with_reducible refine wpL_stop (o := ⟨_, .call { callee := .builtin .clear, args := _, argTypes := _ }, _, _, _, none⟩) ?_) | (with_reducible refine wpL_stop (o := ⟨_, .makeSlice _ _ _, _, _, _, none⟩) ?_) | (with_reducible refine wpL_stop (o := ⟨_, .makeMap _ _, _, _, _, none⟩) ?_) | (with_reducible refine wpL_stop (o := ⟨_, .entry _, _, _, _, none⟩) ?_) | (with_reducible refine wpL_stop (o := ⟨_, .call { callee := .builtin .max, args := _, argTypes := _ }, _, _, _, none⟩) ?_) | (with_reducible refine wpL_stop (o := ⟨_, .call { callee := .builtin .min, args := _, argTypes := _ }, _, _, _, none⟩) ?_) | (with_reducible refine wpL_stop (o := ⟨_, .slice 177 _ none (some _) none, _, _, _, none⟩) ?_) | (with_reducible refine wpL_stop (o := ⟨_, .binOp .add 9 _ _ _, _, _, _, none⟩) ?_) | (with_reducible refine wpL_stop (o := ⟨_, .slice 9 _ _ _ _, _, _, _, none⟩) ?_))
    refine unhold (wpL_max rfl _ _ _ _ rfl p 0 rfl rfl ?_)
    go_wp2_with (first | (with_reducible refine wpL_stop (o := ⟨_, .alloc 177, _, _, _, none⟩) ?_) | (with_reducible refine wpL_stop (o := ⟨_, .load 177 _, _, _, _, none⟩) ?_) | (with_reducible refine wpL_stop (o := ⟨_, .store 177 _ _, _, _, _, none⟩) ?_) | (with_reducible refine wpL_stop (o := ⟨_, .lookup _ _ _ _, _, _, _, none⟩) ?_) | (with_reducible refine wpL_stop (o := ⟨_, .box 177 _, _, _, _, none⟩) ?_) | (with_reducible refine wpL_stop (o := ⟨_, .next _ _, _, _, _, none⟩) ?_) | (with_reducible refine wpL_stop (o := ⟨_, .range _ _, _, _, _, none⟩) ?_) | (with_reducible refine wpL_stop (o := ⟨_, .mapUpdate _ _ _ _, _, _, _, none⟩) ?_) | (with_reducible refine wpL_stop (o := ⟨_, .convert 175 9 _, _, _, _, none⟩) ?_) | (with_reducible refine wpL_stop (o := ⟨_, .convert 9 175 _, _, _, _, none⟩) ?_) | (with_reducible refine wpL_stop (o := ⟨_, .call { callee := .builtin .copy, args := _, argTypes := _ }, _, _, _, none⟩) ?_) | (with_reducible refine wpL_stop (o := ⟨_, .call { callee := .builtin .append, args := _, argTypes := _ }, _, _, _, none⟩) ?_) | (with_reducible refine wpL_stop (o := ⟨_, .call { callee := .builtin .clear, args := _, argTypes := _ }, _, _, _, none⟩) ?_) | (with_reducible refine wpL_stop (o := ⟨_, .makeSlice _ _ _, _, _, _, none⟩) ?_) | (with_reducible refine wpL_stop (o := ⟨_, .makeMap _ _, _, _, _, none⟩) ?_) | (with_reducible refine wpL_stop (o := ⟨_, .entry _, _, _, _, none⟩) ?_) | (with_reducible refine wpL_stop (o := ⟨_, .call { callee := .builtin .max, args := _, argTypes := _ }, _, _, _, none⟩) ?_) | (with_reducible refine wpL_stop (o := ⟨_, .call { callee := .builtin .min, args := _, argTypes := _ }, _, _, _, none⟩) ?_) | (with_reducible refine wpL_stop (o := ⟨_, .slice 177 _ none (some _) none, _, _, _, none⟩) ?_) | (with_reducible refine wpL_stop (o := ⟨_, .binOp .add 9 _ _ _, _, _, _, none⟩) ?_) | (with_reducible refine wpL_stop (o := ⟨_, .slice 9 _ _ _ _, _, _, _, none⟩) ?_))
    refine unhold (wpL_min rfl _ _ _ _ rfl (max p 0) 128 rfl rfl ?_)
    rw [← HC.out]
    go_wp2_with (first | (with_reducible refine wpL_stop (o := ⟨_, .alloc 177, _, _, _, none⟩) ?_) | (with_reducible refine wpL_stop (o := ⟨_, .load 177 _, _, _, _, none⟩) ?_) | (with_reducible refine wpL_stop (o := ⟨_, .store 177 _ _, _, _, _, none⟩) ?_) | (with_reducible refine wpL_stop (o := ⟨_, .lookup _ _ _ _, _, _, _, none⟩) ?_) | (with_reducible refine wpL_stop (o := ⟨_, .box 177 _, _, _, _, none⟩) ?_) | (with_reducible refine wpL_stop (o := ⟨_, .next _ _, _, _, _, none⟩) ?_) | (with_reducible refine wpL_stop (o := ⟨_, .range _ _, _, _, _, none⟩) ?_) | (with_reducible refine wpL_stop (o := ⟨_, .mapUpdate _ _ _ _, _, _, _, none⟩) ?_) | (with_reducible refine wpL_stop (o := ⟨_, .convert 175 9 _, _, _, _, none⟩) ?_) | (with_reducible refine wpL_stop (o := ⟨_, .convert 9 175 _, _, _, _, none⟩) ?_) | (with_reducible refine wpL_stop (o := ⟨_, .call { callee := .builtin .copy, args := _, argTypes := _ }, _, _, _, none⟩) ?_) | (with_reducible refine wpL_stop (o := ⟨_, .call { callee := .builtin .append, args := _, argTypes := _ }, _, _, _, none⟩) ?_) | (with_reducible refine wpL_stop (o := ⟨_, .call { callee := .builtin .clear, args := _, argTypes := _ }, _, _, _, none⟩) ?_) | (with_reducible refine wpL_stop (o := ⟨_, .makeSlice _ _ _, _, _, _, none⟩) ?_) | (with_reducible refine wpL_stop (o := ⟨_, .makeMap _ _, _, _, _, none⟩) ?_) | (with_reducible refine wpL_stop (o := ⟨_, .entry _, _, _, _, none⟩) ?_) | (with_reducible refine wpL_stop (o := ⟨_, .call { callee := .builtin .max, args := _, argTypes := _ }, _, _, _, none⟩) ?_) | (with_reducible refine wpL_stop (o := ⟨_, .call { callee := .builtin .min, args := _, argTypes := _ }, _, _, _, none⟩) ?_) | (with_reducible refine wpL_stop (o := ⟨_, .slice 177 _ none (some _) none, _, _, _, none⟩) ?_) | (with_reducible refine wpL_stop (o := ⟨_, .binOp .add 9 _ _ _, _, _, _, none⟩) ?_) | (with_reducible refine wpL_stop (o := ⟨_, .slice 9 _ _ _ _, _, _, _, none⟩) ?_))
    refine wp_region_still_tail 28 (by kernel_rfl) (by kernel_rfl) ?_
    simp only [List.take_succ_cons, List.take_zero, List.drop_succ_cons, List.drop_zero]
    iterate 14 still_step
    refine wpStill_val rfl (run_strTo _ _ _ rfl Tryz.underlying9 b rfl k rfl (by have := HB8.out; omega)) ?_
    iterate 9 still_step
    refine wpStill_val rfl (run_strFrom _ _ _ rfl Tryz.underlying9 q.old rfl k rfl (by have := HO.out; omega)) ?_
    refine wpStill_val rfl (run_cat _ _ _ _ rfl (b.take k) (q.old.drop k) rfl rfl (by have := HO.out; have := HB8.out; simp; omega)) ?_
    iterate 2 still_step
    refine wpStill_nil ?_
    have hl : (b.take k ++ q.old.drop k).length = 128 := by have := HO.out; have := HB8.out; simp; omega
    have hW : ∀ W : World, W.heap = (((w.setCell ⟨L.pb, i * 3, none⟩ (str (b.take k ++ q.old.drop k))).setCell ⟨L.pb, i * 3 + 1, none⟩ (.string ⟨#[]⟩)).setCell ⟨L.pb, i * 3 + 2, none⟩ (.bool false)).heap → W.os = w.os → W.tape = w.tape → W.output = w.output → RDiskAt W L { d with pg := d.pg.set i ⟨b.take k ++ q.old.drop k, none⟩ } ∧ Fr [L.pb] w W := by
      intro W e1 e2 e3 e4
      have hf0 : Fr [L.pb] w (((w.setCell ⟨L.pb, i * 3, none⟩ (str (b.take k ++ q.old.drop k))).setCell ⟨L.pb, i * 3 + 1, none⟩ (.string ⟨#[]⟩)).setCell ⟨L.pb, i * 3 + 2, none⟩ (.bool false)) := (((Fr.refl _ _).setCell (.inl (by simp)) _).setCell (.inl (by simp)) _).setCell (.inl (by simp)) _
      have hf : Fr [L.pb] w W := ⟨e2, e3, e4, by rw [e1]; exact hf0.size, fun k hk hn => by rw [e1]; exact hf0.block k hk hn⟩
      refine ⟨h.put hi _ hl (by intro b hb; cases hb) hf ?_, hf⟩
      intro cur hm hsz
      have g1 := heap_setCell_same' w L.pb (i * 3) cur _ (str (b.take k ++ q.old.drop k)) hm
      have g2 := heap_setCell_same' _ L.pb (i * 3 + 1) _ _ (.string ⟨#[]⟩) g1
      have g3 := heap_setCell_same' _ L.pb (i * 3 + 2) _ _ (.bool false) g2
      refine ⟨_, by rw [e1]; exact g3, ?_, ?_⟩
      · intro j hj
        rw [set_other _ _ _ _ (by omega), set_other _ _ _ _ (by omega), set_other _ _ _ _ (by omega)]
      · intro j v hj hv
        match j, hj with
        | 0, _ =>
          rw [set_other _ _ _ _ (by omega), set_other _ _ _ _ (by omega), Nat.add_zero, set_same' _ _ _ (by omega)]
          exact hv
        | 1, _ =>
          rw [set_other _ _ _ _ (by omega), set_same' _ _ _ (by rw [Array.size_setIfInBounds]; omega)]
          exact hv
        | 2, _ =>
          rw [set_same' _ _ _ (by rw [Array.size_setIfInBounds, Array.size_setIfInBounds]; omega)]
          exact hv
    go_wp2
    go_end0
    exact ⟨rfl, (hW _ (by rfl) (by rfl) (by rfl) (by rfl)).1, (hW _ (by rfl) (by rfl) (by rfl) (by rfl)).2⟩

theorem flush_tear (q : Pg) (ho : q.old.length = 128) (hn : ∀ b, q.new = some b → b.length = 128) : q.tear (clamp 128) = Pg.flush q := by
  have hc : clamp 128 = 128 := by decide
  unfold Pg.tear Pg.flush Pg.now
  rw [hc]
  cases hb : q.new with
  | none => cases q; simp only at hb; subst hb; rfl
  | some b =>
    have := hn b hb
    simp only [Option.getD_some]
    rw [List.take_of_length_le (by omega), List.drop_eq_nil_of_le (by omega), List.append_nil]

set_option maxRecDepth 100000 in
theorem rdFlush_calls (h : RDiskAt w L d) : Calls Tryz.prog 152 #[Rp L] w fun e w' => e = .returned (.int .i64 (d.flush).1) ∧ RDiskAt w' L (d.flush).2 ∧ Fr L.all w w' := by
  have c1 := h.c1
  cases hoff : d.off with
  | true =>
    have R : d.flush = (20, d) := by simp [Disk.flush, hoff]
    rw [R]
    rw [hoff] at c1
    clear R
    go_enter Tryz.func152, Tryz.ntmps152
    go_wp2
    go_ret
    exact ⟨rfl, h, Fr.refl _ _⟩
  | false =>
    rw [hoff] at c1
    have hst := rdStep_calls h
    by_cases h0 : d.step.1 = 0
    · have R : d.flush = (0, { d.step.2 with pg := d.step.2.pg.map Pg.flush }) := by simp [Disk.flush, hoff, h0, step_pg']
      rw [R]
      rw [h0] at hst
      have hpg := step_pg' d
      have few := h.ok.few
      rw [← hpg] at few
      clear R h0 hoff hpg
      generalize d.step.2 = d1 at hst few ⊢
      go_enter Tryz.func152, Tryz.ntmps152
      go_wp2_with fail
      refine hst.mono ?_
      rintro e w1 ⟨rfl, D1, f1, _⟩
      go_wp2_with fail
      go_loopg [4] d1.pg.length (fun kq i w' => ∃ n : Nat, i = .int .i64 n ∧ n ≤ d1.pg.length ∧ Hid (kq + n = d1.pg.length) ∧ RDiskAt w' L { d1 with pg := (d1.pg.take n).map Pg.flush ++ d1.pg.drop n } ∧ Fr L.all w w')
      case atStart => exact ⟨0, rfl, by omega, by simp [Hid], by simpa using D1, f1.mono (by simp [RL.all])⟩
      case round =>
        obtain ⟨n, rfl, hn, hk, D2, f2⟩ := hrel
        have hl : ((d1.pg.take n).map Pg.flush ++ d1.pg.drop n).length = d1.pg.length := by simp; omega
        have c0 := D2.c0
        rw [hl] at c0
        by_cases hlt : n < d1.pg.length
        · have hlt' : (n : Int) < (d1.pg.length : Int) := by omega
          have hg : ((d1.pg.take n).map Pg.flush ++ d1.pg.drop n)[n]? = some d1.pg[n] := by
            rw [List.getElem?_append_right (by simp; omega)]
            simp [Nat.min_eq_left hn, hlt]
          have hs := rdSettle_calls D2 n _ hg 128
          have hq := flush_tear d1.pg[n] (D1.ok.olds _ (List.getElem_mem hlt)) (D1.ok.news _ (List.getElem_mem hlt))
          have hset : ((d1.pg.take n).map Pg.flush ++ d1.pg.drop n).set n (Pg.flush d1.pg[n]) = (d1.pg.take (n + 1)).map Pg.flush ++ d1.pg.drop (n + 1) := by
            rw [List.set_append_right _ _ (by simp; omega), List.take_succ_eq_append_getElem hlt, List.map_append, List.append_assoc]
            congr 1
            simp only [List.length_map, List.length_take, Nat.min_eq_left hn, Nat.sub_self]
            rw [List.drop_eq_getElem_cons hlt]
            rfl
          simp only at hs
          rw [hq, hset] at hs
          clear hg hq hset hl
          go_wp2_with fail
          refine hs.mono ?_
          rintro e w3 ⟨rfl, D3, f3⟩
          go_wp2
          go_roundg (gk - 1)
          case measure => have := hk.out; omega
          case rel => exact ⟨n + 1, by go_num, by omega, by have := hk.out; unfold Hid; omega, D3, f2.trans (f3.mono (by simp [RL.all]))⟩
        · obtain rfl : n = d1.pg.length := by omega
          have hlt' : decide ((d1.pg.length : Int) < (d1.pg.length : Int)) = false := by simp
          rw [List.take_length, List.drop_length, List.append_nil] at D2
          go_wp2
          go_ret
          exact ⟨rfl, D2, f2⟩
    · have R : d.flush = d.step := by simp [Disk.flush, hoff, h0]
      rw [R]
      generalize d.step = x at hst h0 ⊢
      obtain ⟨e0, d1⟩ := x
      simp only at hst h0 ⊢
      have h0' : (e0 != 0) = true := by simpa using h0
      clear R h0
      go_enter Tryz.func152, Tryz.ntmps152
      go_wp2_with fail
      refine hst.mono ?_
      rintro e w1 ⟨rfl, D1, f1, _⟩
      go_wp2
      go_ret
      exact ⟨rfl, D1, f1.mono (by simp [RL.all])⟩
end
end Go.Proofs.YtpoagpaglocpeaaGreat
