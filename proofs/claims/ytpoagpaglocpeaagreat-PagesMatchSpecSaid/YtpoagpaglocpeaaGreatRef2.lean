/- The specification's disk: writing, settling a page. -/
import Derived.Test.YtpoagpaglocpeaaGreatRef1
namespace Go.Proofs.YtpoagpaglocpeaaGreat
set_option linter.unusedSimpArgs false
set_option linter.unusedVariables false
set_option linter.unnecessarySimpa false
open Go.RowKit M

section
variable {P : Program} {ops : Array Oper} {Q : Exit → Act → World → Prop} {a : Act} {w : World} {rest : List Oper} {o : Oper}
theorem run_cat (x y : Operand) (T U : TypeId) (ho : o.op = .binOp .add T x y U) (s t : Bytes) (hx : a.eval x = .string ⟨s.toArray⟩) (hy : a.eval y = .string ⟨t.toArray⟩) (hl : s.length + t.length ≤ 1000000000) :
    (execOp a.eval o).run P w = .ok (.value (.string ⟨(s ++ t).toArray⟩)) w := by
  have h1 := run_string_add_sum (P := P) (w := w) ⟨s.toArray⟩ ⟨t.toArray⟩ (by show s.toArray.size + t.toArray.size ≤ _; simp; omega)
  rw [ByteArray.mk_append_mk] at h1
  have h2 : (eqGuard .add T x y (.string ⟨s.toArray⟩) (.string ⟨t.toArray⟩)).run P w = .ok () w := by simp [eqGuard]
  unfold execOp
  simp only [ho, hx, hy, Sem.run_bind, h2, Result.andThen_ok, binOp, h1, Sem.run_pure]
end

section
variable {w : World} {L : RL} {d : Disk}

/-- One page turned. -/
theorem RDiskAt.put {w' : World} (h : RDiskAt w L d) {n : Nat} (hn : n < d.pg.length) (q : Pg) (hqo : q.old.length = 128) (hqn : ∀ b, q.new = some b → b.length = 128) (hf : Fr [L.pb] w w')
    (hc : ∀ cur, w.heap[L.pb]? = some (.cells cur 156 (0, 0)) → d.pg.length * 3 ≤ cur.size → ∃ cur', w'.heap[L.pb]? = some (.cells cur' 156 (0, 0)) ∧ (∀ j : Nat, j / 3 ≠ n → cur'[j]? = cur[j]?) ∧ ∀ (j : Nat) (v : Value), j < 3 → (rcells q)[j]? = some v → cur'[n * 3 + j]? = some v) :
    RDiskAt w' L { d with pg := d.pg.set n q } := by
  obtain ⟨cur, hm, hP⟩ := h.hp
  have hsz : d.pg.length * 3 ≤ cur.size := by
    rcases Nat.lt_or_ge (d.pg.length * 3 - 1) cur.size with hh | hh
    · omega
    · have hl := rrows_length d.pg
      have h1 : d.pg.length * 3 - 1 < (rrows d.pg).length := by rw [hl]; omega
      have := hP _ _ (List.getElem?_eq_getElem h1)
      rw [Array.getElem?_eq_none hh] at this
      cases this
  obtain ⟨cur', hm', h1, h2⟩ := hc cur hm hsz
  refine ⟨⟨by simpa using h.ok.few, ?_, ?_, h.ok.low, h.ok.high⟩, ?_, ⟨cur', hm', ?_⟩, h.ne⟩
  · intro p hp
    rcases List.mem_or_eq_of_mem_set hp with hp | rfl
    · exact h.ok.olds p hp
    · exact hqo
  · intro p hp b hb
    rcases List.mem_or_eq_of_mem_set hp with hp | rfl
    · exact h.ok.news p hp b hb
    · exact hqn b hb
  · have := hf.heap h.hb (by simpa using h.ne)
    simpa using this
  · intro j v hj
    have hjl : j < d.pg.length * 3 := by
      have := (List.getElem?_eq_some_iff.1 hj).1
      rw [rrows_length] at this
      simpa using this
    have hi : j / 3 < d.pg.length := by omega
    have hjj : j / 3 * 3 + j % 3 = j := by omega
    have hm3 : j % 3 < 3 := by omega
    by_cases e : j / 3 = n
    · have hg : (d.pg.set n q)[j / 3]? = some q := by rw [e]; simp [hn]
      have := rrows_get _ _ _ hg (j % 3) hm3
      rw [hjj, hj] at this
      have := h2 (j % 3) v hm3 this.symm
      rw [← e, hjj] at this
      exact this
    · have hg : (d.pg.set n q)[j / 3]? = some d.pg[j / 3] := by
        rw [List.getElem?_set_ne (by omega), List.getElem?_eq_getElem hi]
      have h3 := rrows_get _ _ _ hg (j % 3) hm3
      rw [hjj, hj] at h3
      have h4 := rrows_get _ _ _ (List.getElem?_eq_getElem hi) (j % 3) hm3
      rw [hjj, ← h3] at h4
      rw [h1 j e]
      exact hP j v h4

theorem now_len' (h : RDiskAt w L d) {n : Nat} (hn : n < d.pg.length) : (d.now n).length = 128 := by
  have hg : d.pg[n]? = some d.pg[n] := List.getElem?_eq_getElem hn
  have hm := List.getElem_mem hn
  simp only [Disk.now, hg, Option.getD_some, Pg.now]
  cases hb : d.pg[n].new with
  | none => exact h.ok.olds _ hm
  | some b => exact h.ok.news _ hm b hb
theorem step_pg' (d : Disk) : d.step.2.pg = d.pg := by
  unfold Disk.step
  split
  · rfl
  · split <;> rfl
theorem set_other (cur : Array Value) (i j : Nat) (v : Value) (h : j ≠ i) : (cur.setIfInBounds i v)[j]? = cur[j]? := by
  rw [Array.getElem?_setIfInBounds, if_neg (by omega)]
theorem set_same' (cur : Array Value) (i : Nat) (v : Value) (h : i < cur.size) : (cur.setIfInBounds i v)[i]? = some v := by
  simp [h]

set_option maxRecDepth 100000 in
theorem rdWrite_calls (h : RDiskAt w L d) (i : Int) (s : Bytes) (hs : s.length = 128) : Calls Tryz.prog 151 #[Rp L, .int .i64 i, .int .i64 0, str s] w fun e w' =>
    e = .returned (.int .i64 (d.write i s).1) ∧ RDiskAt w' L (d.write i s).2 ∧ Fr L.all w w' := by
  have c1 := h.c1
  have hs' : s.length ≤ 128 := by omega
  have hsn := Lib.hid hs
  cases hoff : d.off with
  | true =>
    have R : d.write i s = (20, d) := by simp [Disk.write, hoff]
    rw [R]
    rw [hoff] at c1
    clear R
    go_enter Tryz.func151, Tryz.ntmps151
    go_wp2_with (go_at_call 118; refine (rdIs_calls h i).mono ?_; rintro e w' ⟨rfl, rfl⟩)
    go_ret
    exact ⟨rfl, h, Fr.refl _ _⟩
  | false =>
    rw [hoff] at c1
    cases his : d.is i with
    | false =>
      have R : d.write i s = (1, d) := by simp [Disk.write, hoff, his]
      rw [R]
      clear R
      go_enter Tryz.func151, Tryz.ntmps151
      go_wp2_with (go_at_call 118; refine (rdIs_calls h i).mono ?_; rintro e w' ⟨rfl, rfl⟩)
      go_ret
      exact ⟨rfl, h, Fr.refl _ _⟩
    | true =>
      have hst := rdStep_calls h
      have hi := is_iff.1 his
      by_cases h0 : d.step.1 = 0
      · have R : d.write i s = (0, { d.step.2 with pg := d.pg.modify i.toNat fun p => { p with new := some s } }) := by
          simp [Disk.write, hoff, his, h0, step_pg']
        rw [R]
        rw [h0] at hst
        clear R
        obtain ⟨n, rfl⟩ := Int.eq_ofNat_of_zero_le hi.1
        have hn : n < d.pg.length := by omega
        have hpg : d.step.2.pg = d.pg := step_pg' d
        have hmod : (d.pg.modify (n : Int).toNat fun p => { p with new := some s }) = d.pg.set n { old := d.pg[n].old, new := some s } := by
          rw [Int.toNat_natCast]
          apply List.ext_getElem?
          intro j
          rw [List.getElem?_modify, List.getElem?_set]
          by_cases e : n = j
          · subst e; simp [hn]
          · simp [e]
        rw [hmod]
        have hnl : (n : Int) < d.pg.length := by omega
        have hgn : d.pg[n]? = some d.pg[n] := List.getElem?_eq_getElem hn
        generalize d.pg[n] = pgn at hgn ⊢
        clear hmod h0 hoff
        generalize d.step.2 = d1 at hst hpg ⊢
        have hpn : d1.pg[n]? = some pgn := by rw [hpg]; exact hgn
        rw [← hpg]
        have hn1 : n < d1.pg.length := by rw [hpg]; exact hn
        have hn1' : (n : Int) < d1.pg.length := by omega
        clear hpg hgn
        go_enter Tryz.func151, Tryz.ntmps151
        go_wp2_with (go_at_call 118; refine (rdIs_calls h n).mono ?_; rintro e w' ⟨rfl, rfl⟩)
        refine hst.mono ?_
        rintro e w1 ⟨rfl, D1, f1, _⟩
        obtain ⟨p0, p1, p2⟩ := D1.pc hpn
        have q0 := D1.c0
        have fz1 := D1.fp (n * 3 + 1)
        have fz2 := D1.fp (n * 3 + 2)
        have nl := now_len' D1 hn1
        have HNL := Lib.hid nl
        clear nl
        go_wp2_with (go_at_call 159; refine (rdNow_calls D1 n (by omega) (by omega)).mono ?_; rintro e w' ⟨rfl, rfl⟩)
        refine wp_region_still_tail 19 (by kernel_rfl) (by kernel_rfl) ?_
        simp only [List.take_succ_cons, List.take_zero, List.drop_succ_cons, List.drop_zero]
        iterate 7 still_step
        refine wpStill_val rfl (run_strTo _ _ _ rfl Tryz.underlying9 (d1.now n) rfl 0 rfl (by omega)) ?_
        still_step
        refine wpStill_val rfl (run_cat _ _ _ _ rfl ((d1.now n).take 0) s rfl rfl (by simp; omega)) ?_
        iterate 5 still_step
        refine wpStill_val rfl (run_strFrom _ _ _ rfl Tryz.underlying9 (d1.now n) rfl 128 rfl (by have := HNL.out; omega)) ?_
        refine wpStill_val rfl (run_cat _ _ _ _ rfl s ((d1.now n).drop 128) rfl rfl (by have := HNL.out; simp; omega)) ?_
        have hsd : s ++ (d1.now n).drop 128 = s := by rw [List.drop_eq_nil_of_le (by have := HNL.out; omega), List.append_nil]
        rw [hsd]
        clear hsd
        iterate 2 still_step
        refine wpStill_nil ?_
        have hW : RDiskAt ((w1.setCell ⟨L.pb, n * 3 + 1, none⟩ (str s)).setCell ⟨L.pb, n * 3 + 2, none⟩ (.bool true)).drew L { d1 with pg := d1.pg.set n { old := pgn.old, new := some s } } := by
          refine D1.put hn1 _ (D1.ok.olds pgn (List.mem_of_getElem? hpn)) (by intro b hb; simp only at hb; injection hb with hb; rw [← hb]; exact hs) ((((Fr.refl _ _).setCell (.inl (by simp)) _).setCell (.inl (by simp)) _).drew) ?_
          intro cur hm hsz
          have e1 := heap_setCell_same' w1 L.pb (n * 3 + 1) cur _ (str s) hm
          have e2 := heap_setCell_same' _ L.pb (n * 3 + 2) _ _ (.bool true) e1
          refine ⟨_, e2, ?_, ?_⟩
          · intro j hj
            rw [set_other _ _ _ _ (by omega), set_other _ _ _ _ (by omega)]
          · intro j v hj hv
            have hz : cur[n * 3]? = some (str pgn.old) := by
              have := p0
              rw [cell_of_row w1 L.pb _ cur _ _ hm] at this
              exact this
            match j, hj with
            | 0, _ =>
              rw [set_other _ _ _ _ (by omega), set_other _ _ _ _ (by omega)]
              simp only [rcells, List.getElem?_cons_zero] at hv
              rw [← hv]; exact hz
            | 1, _ =>
              rw [set_other _ _ _ _ (by omega), set_same' _ _ _ (by omega)]
              exact hv
            | 2, _ =>
              rw [set_same' _ _ _ (by rw [Array.size_setIfInBounds]; omega)]
              exact hv
        go_wp2
        go_ret
        exact ⟨rfl, hW, (f1.mono (by simp [RL.all])).trans ((((Fr.refl _ _).setCell (.inl (by simp [RL.all])) _).setCell (.inl (by simp [RL.all])) _).drew)⟩
      · have R : d.write i s = d.step := by simp [Disk.write, hoff, his, h0]
        rw [R]
        generalize d.step = x at hst h0 ⊢
        obtain ⟨e0, d1⟩ := x
        simp only at hst h0 ⊢
        have h0' : (e0 != 0) = true := by simpa using h0
        clear R h0
        go_enter Tryz.func151, Tryz.ntmps151
        go_wp2_with (go_at_call 118; refine (rdIs_calls h i).mono ?_; rintro e w' ⟨rfl, rfl⟩)
        refine hst.mono ?_
        rintro e w1 ⟨rfl, D1, f1, _⟩
        go_wp2
        go_ret
        exact ⟨rfl, D1, f1.mono (by simp [RL.all])⟩
end
end Go.Proofs.YtpoagpaglocpeaaGreat
