/- A step of both, of the program and of the specification: they do the same. -/
import Derived.Test.YtpoagpaglocpeaaGreatLawM
import Derived.Test.YtpoagpaglocpeaaGreatRef15
namespace Go.Proofs.YtpoagpaglocpeaaGreat
set_option linter.unusedSimpArgs false
set_option linter.unusedVariables false
set_option linter.unnecessarySimpa false
open Go.RowKit M

/-- The program's pages and the specification's, behind the law's pointer: both show one disk and one state. -/
structure Both (w : World) (W : Nat) (L : DL) (pl : PL) (LR : RL) (ql : PL) (d : Disk) (p : M.Pages) (A : World) : Prop where
  st : St w L pl d p A
  RD : RDiskAt A LR d
  Q : RPagesAt A ql LR p
  n3 : ∀ k ∈ LR.all, w.heap.size ≤ k ∧ k ∉ L.all ∧ k ∉ pl.all
  n4 : ∀ k ∈ ql.all, w.heap.size ≤ k ∧ k ∉ L.all ∧ k ∉ pl.all ∧ k ∉ LR.all
  G : A.heap[W]? = some (.cells #[Dp L, Pp pl, Rp LR, Qp ql] 43 (0, 0))
  hW : w.heap.size ≤ W ∧ W ∉ L.all ∧ W ∉ pl.all ∧ W ∉ LR.all ∧ W ∉ ql.all
  len : 18 ≤ d.pg.length
  inv : p.closed = false → d.off = false ∧ ∃ im : List Bytes, d.pg = im.map bare1
  bad : p.bad.length ≤ 4096

section
variable {w A B : World} {W : Nat} {L : DL} {pl : PL} {LR : RL} {ql : PL} {d : Disk} {p : M.Pages}

theorem Both.frS {S : List Nat} (h : Both w W L pl LR ql d p A) (f : Fr S A B) (hS : ∀ k ∈ S, w.heap.size ≤ k ∧ k ∉ L.all ∧ k ∉ pl.all ∧ k ∉ LR.all ∧ k ∉ ql.all ∧ k ≠ W) : Both w W L pl LR ql d p B :=
  ⟨h.st.frS f (fun k hk => ⟨(hS k hk).1, (hS k hk).2.1, (hS k hk).2.2.1⟩), h.RD.fr f (fun k hk hk' => (hS k hk').2.2.2.1 hk), h.Q.fr f (fun k hk hk' => (hS k hk').2.2.2.2.1 hk), h.n3, h.n4, f.heap h.G (fun hk => (hS W hk).2.2.2.2.2 rfl), h.hW, h.len, h.inv, h.bad⟩
theorem Both.fr0 (h : Both w W L pl LR ql d p A) (f : Fr [] A B) : Both w W L pl LR ql d p B := h.frS f (by simp)
theorem Both.new (h : Both w W L pl LR ql d p A) {k : Nat} (hk : A.heap.size ≤ k) : w.heap.size ≤ k ∧ k ∉ L.all ∧ k ∉ pl.all ∧ k ∉ LR.all ∧ k ∉ ql.all ∧ k ≠ W :=
  ⟨by have := h.st.fr.size; omega, fun h' => by have := h.st.D.lt k h'; omega, fun h' => by have := h.st.P.lt k h'; omega, fun h' => by have := h.RD.lt k h'; omega, fun h' => by have := h.Q.lt k h'; omega, fun e => by have := lt_of_heap h.G; omega⟩
theorem Both.c (h : Both w W L pl LR ql d p A) : A.cell? ⟨W, 0, none⟩ = some (Dp L) ∧ A.cell? ⟨W, 1, none⟩ = some (Pp pl) ∧ A.cell? ⟨W, 2, none⟩ = some (Rp LR) ∧ A.cell? ⟨W, 3, none⟩ = some (Qp ql) := ⟨blk_cell h.G 0 rfl, blk_cell h.G 1 rfl, blk_cell h.G 2 rfl, blk_cell h.G 3 rfl⟩

theorem mount_is_rest (d : Disk) (picks : List Int) : ∃ im : List Bytes, d.mount picks = rest im ∧ im.length = d.pg.length := by
  obtain ⟨im, h1, h2, _⟩ := tearAll_spec d.pg picks
  exact ⟨im, by unfold Disk.mount rest; rw [h1], h2⟩
theorem rot_bare {d : Disk} {im : List Bytes} (h : d.pg = im.map bare1) (i b : Int) : ∃ im' : List Bytes, (d.rot i b).2.pg = im'.map bare1 := by
  unfold Disk.rot
  split
  · exact ⟨im, h⟩
  · refine ⟨im.modify i.toNat fun s => flipBit s b.toNat, ?_⟩
    show d.pg.modify i.toNat (fun p => { p with old := flipBit p.old b.toNat }) = _
    rw [h]
    apply List.ext_getElem?
    intro j
    simp only [List.getElem?_modify, List.getElem?_map]
    by_cases e : i.toNat = j
    · simp only [e, if_true]
      cases im[j]? <;> rfl
    · simp only [e, if_false]
      cases im[j]? <;> rfl
theorem rot_off (d : Disk) (i b : Int) : (d.rot i b).2.off = d.off := by unfold Disk.rot; split <;> rfl
theorem rot_len (d : Disk) (i b : Int) : (d.rot i b).2.pg.length = d.pg.length := by unfold Disk.rot; split <;> simp
theorem write_len (d : Disk) (i : Int) (s : Bytes) : (d.write i s).2.pg.length = d.pg.length := by
  have hs : d.step.2.pg = d.pg := by rcases step_cases d with h | ⟨tr, h⟩ <;> rw [h]
  unfold Disk.write
  split
  · rfl
  · split
    · rfl
    · split
      · rw [hs]
      · simp
theorem flush_pgs (d : Disk) : (d.flush).2.pg.length = d.pg.length := by
  have hs : d.step.2.pg = d.pg := by rcases step_cases d with h | ⟨tr, h⟩ <;> rw [h]
  unfold Disk.flush
  split
  · rfl
  · split
    · rw [hs]
    · simp
theorem runAll_len : ∀ (sts : List Stp) (d : Disk), (runAll d sts).2.pg.length = d.pg.length
  | [], _ => rfl
  | s :: r, d => by
    have h1 : (runStep d s).2.pg.length = d.pg.length := by
      cases s with
      | put q s => exact write_len d q s
      | flush => exact flush_pgs d
    simp only [runAll]
    split
    · rw [runAll_len r, h1]
    · exact h1
theorem give_len (d : Disk) (p : M.Pages) (l : List PW) : (give d p l).2.1.pg.length = d.pg.length := by
  unfold give
  split
  · rfl
  · split <;> exact runAll_len _ _
theorem give_bad (d : Disk) (p : M.Pages) (l : List PW) : (give d p l).2.2.bad = p.bad := by
  unfold give
  split
  · rfl
  · split <;> rfl
/-- Behind a write: whoever is not closed has a disk at rest. -/
theorem give_inv {d : Disk} {p : M.Pages} {l : List PW} (hl : 18 ≤ d.pg.length) (h : p.closed = false → d.off = false ∧ ∃ im : List Bytes, d.pg = im.map bare1) (hc : (give d p l).2.2.closed = false) : (give d p l).2.1.off = false ∧ ∃ im : List Bytes, (give d p l).2.1.pg = im.map bare1 := by
  by_cases h0 : check d p l = 0
  · have hB := Bat.of_check h0
    obtain ⟨hcl, _, hnum, _, _⟩ := check_ok h0
    obtain ⟨hoff, im, him⟩ := h hcl
    have hg : give d p l = if (runAll d (steps (p.number + 1) l)).1 ≠ 0 then ((runAll d (steps (p.number + 1) l)).1, (runAll d (steps (p.number + 1) l)).2, { p with closed := true }) else (0, (runAll d (steps (p.number + 1) l)).2, { p with number := p.number + 1 }) := by unfold give; rw [if_neg (by simp [h0])]
    rw [hg] at hc ⊢
    split at hc
    · cases hc
    · rename_i hz
      rw [if_neg hz]
      have hz : (runAll d (steps (p.number + 1) l)).1 = 0 := by simpa using hz
      clear hc hg
      show (runAll d (steps (p.number + 1) l)).2.off = false ∧ ∃ im : List Bytes, (runAll d (steps (p.number + 1) l)).2.pg = im.map bare1
      have hS : steps (p.number + 1) l = (logSteps (p.number + 1) l ++ datas (p.number + 1) l) ++ [.flush] := by rw [steps_log]; simp
      rw [hS] at hz ⊢
      -- the steps ahead of the last flush came through: the power is on
      have h1 : (runAll d (logSteps (p.number + 1) l ++ datas (p.number + 1) l)).1 = 0 := by
        by_cases e : (runAll d (logSteps (p.number + 1) l ++ datas (p.number + 1) l)).1 = 0
        · exact e
        · rw [runAll_bad e] at hz; exact absurd hz e
      have on : ∀ (sts : List Stp) (d : Disk), d.off = false → (runAll d sts).1 = 0 → (runAll d sts).2.off = false := by
        intro sts
        induction sts with
        | nil => intro d h _; exact h
        | cons s r ih =>
          intro d hd h9
          simp only [runAll] at h9 ⊢
          split at h9
          · rename_i hs
            rw [if_pos hs]
            refine ih _ ?_ h9
            cases s with
            | put q s =>
              show (d.write q s).2.off = false
              have hs : (d.write q s).1 = 0 := hs
              unfold Disk.write at hs ⊢
              rw [hd] at hs ⊢
              simp only [Bool.false_eq_true, if_false] at hs ⊢
              split at hs
              · simp at hs
              · rename_i hi
                rw [if_neg hi]
                rcases step_cases d with hst | ⟨tr, hst⟩
                · rw [hst] at hs; simp at hs
                · rw [hst]; simpa using hd
            | flush =>
              show (d.flush).2.off = false
              have hs : (d.flush).1 = 0 := hs
              rcases flush_cases d hd with hst | ⟨tr, hst⟩
              · rw [hst] at hs; simp at hs
              · rw [hst]; exact hd
          · rename_i hs
            exact absurd h9 hs
      have h2 := on _ d hoff h1
      rw [runAll_snoc0 h1, runAll_one] at hz ⊢
      generalize (runAll d (logSteps (p.number + 1) l ++ datas (p.number + 1) l)).2 = d1 at h2 hz ⊢
      rcases flush_cases d1 h2 with hf | ⟨tr, hf⟩
      · rw [show runStep d1 .flush = d1.flush from rfl, hf] at hz; simp at hz
      · rw [show runStep d1 .flush = d1.flush from rfl, hf]
        refine ⟨h2, d1.pg.map Pg.now, ?_⟩
        show d1.pg.map Pg.flush = _
        rw [List.map_map]
        rfl
  · have hg : give d p l = (check d p l, d, p) := by unfold give; rw [if_pos h0]
    rw [hg] at hc ⊢
    exact h hc

theorem playS_fr {S : List Nat} {A B : World} {W bx : Nat} {x1 x3 y0 y1 y2 y3 y4 : Value} (hf : Fr S A B) (hW : W ∉ S) (hb : bx ∉ S)
    (h : A.cell? ⟨W, 1, none⟩ = some x1 ∧ A.cell? ⟨W, 3, none⟩ = some x3 ∧ A.cell? ⟨bx, 0, none⟩ = some y0 ∧ A.cell? ⟨bx, 1, none⟩ = some y1 ∧ A.cell? ⟨bx, 2, none⟩ = some y2 ∧ A.cell? ⟨bx, 3, none⟩ = some y3 ∧ A.cell? ⟨bx, 4, none⟩ = some y4) :
    B.cell? ⟨W, 1, none⟩ = some x1 ∧ B.cell? ⟨W, 3, none⟩ = some x3 ∧ B.cell? ⟨bx, 0, none⟩ = some y0 ∧ B.cell? ⟨bx, 1, none⟩ = some y1 ∧ B.cell? ⟨bx, 2, none⟩ = some y2 ∧ B.cell? ⟨bx, 3, none⟩ = some y3 ∧ B.cell? ⟨bx, 4, none⟩ = some y4 :=
  ⟨cell_fr hf h.1 hW, cell_fr hf h.2.1 hW, cell_fr hf h.2.2.1 hb, cell_fr hf h.2.2.2.1 hb, cell_fr hf h.2.2.2.2.1 hb, cell_fr hf h.2.2.2.2.2.1 hb, cell_fr hf h.2.2.2.2.2.2 hb⟩

/-- The step's own box. -/
abbrev opCells (kd : Int) (pv : Value) (b : UInt8) (nn : Int) (kv : Value) : Obj := .cells #[.int .i64 kd, pv, .int .u8 b.toNat, .int .i64 nn, kv] 49

set_option maxRecDepth 100000 in
set_option maxHeartbeats 4000000 in
theorem lPlay_write (h : Both w W L pl LR ql d p A) {N : Nat → Prop} (hN : ∀ k, N k → k < w.heap.size) {pv kv : Value} {pages : List Int} (b : UInt8) (nn : Int) (hp : IntsAt N A pv pages) :
    Calls Tryz.prog 12 #[.pointer (some ⟨W, 0, none⟩), .agg #[.int .i64 1, pv, .int .u8 b.toNat, .int .i64 nn, kv]] A fun e B =>
      e = .returned (.bool true) ∧ ∃ d' p', Both w W L pl LR ql d' p' B := by
  have G0 := heap_alloc_new A (opCells 1 pv b nn kv)
  have F0 := (Fr.refl [] A).alloc (opCells 1 pv b nn kv)
  have B0 := h.fr0 F0
  have hnew := h.new (Nat.le_refl _)
  have hp0 := hp.fr F0 (by simp)
  unfold opCells at G0 F0 B0 hp0
  go_enter Tryz.func12, Tryz.ntmps12
  go_wp2_with (with_reducible refine wpL_stop (o := ⟨_, .load 3 _, _, _, _, _⟩) ?_)
  generalize A.alloc (.cells #[.int .i64 1, pv, .int .u8 b.toNat, .int .i64 nn, kv] 49) = A1 at G0 F0 B0 hp0 ⊢
  generalize A.heap.size = bx at G0 hnew ⊢
  refine unhold ?_
  have k0 : A1.cell? ⟨bx, 0, none⟩ = some (.int .i64 1) := blk_cell G0 0 rfl
  have k1 : A1.cell? ⟨bx, 1, none⟩ = some pv := blk_cell G0 1 rfl
  have k2 : A1.cell? ⟨bx, 2, none⟩ = some (.int .u8 b.toNat) := blk_cell G0 2 rfl
  have k3 : A1.cell? ⟨bx, 3, none⟩ = some (.int .i64 nn) := blk_cell G0 3 rfl
  have k4 : A1.cell? ⟨bx, 4, none⟩ = some kv := blk_cell G0 4 rfl
  obtain ⟨_, q1, _, q3⟩ := B0.c
  go_wp2_with fail
  refine wp_region_keep (fun w' => w'.cell? ⟨W, 1, none⟩ = some (Pp pl) ∧ w'.cell? ⟨W, 3, none⟩ = some (Qp ql) ∧ w'.cell? ⟨bx, 0, none⟩ = some (.int .i64 1) ∧ w'.cell? ⟨bx, 1, none⟩ = some pv ∧ w'.cell? ⟨bx, 2, none⟩ = some (.int .u8 b.toNat) ∧ w'.cell? ⟨bx, 3, none⟩ = some (.int .i64 nn) ∧ w'.cell? ⟨bx, 4, none⟩ = some kv) 15 (by kernel_rfl) ?_
  have hS : A1.drew.cell? ⟨W, 1, none⟩ = some (Pp pl) ∧ A1.drew.cell? ⟨W, 3, none⟩ = some (Qp ql) ∧ A1.drew.cell? ⟨bx, 0, none⟩ = some (.int .i64 1) ∧ A1.drew.cell? ⟨bx, 1, none⟩ = some pv ∧ A1.drew.cell? ⟨bx, 2, none⟩ = some (.int .u8 b.toNat) ∧ A1.drew.cell? ⟨bx, 3, none⟩ = some (.int .i64 nn) ∧ A1.drew.cell? ⟨bx, 4, none⟩ = some kv := ⟨q1, q3, k0, k1, k2, k3, k4⟩
  refine keepTake (i := 0) (v := ?_) (a' := ?_) rfl (by kernel_rfl) (by kernel_rfl) (by kernel_rfl) (by kernel_rfl) (by kernel_rfl) (by kernel_rfl) (fun w hSw => ?_) hS ?_ ?_
  rotate_left 2
  · (try dsimp only at hSw); (obtain ⟨hSa, hSb, hSc, hSd, hSe, hSf⟩ := hSw); go_simp; with_reducible rfl
  · go_simp; with_reducible rfl
  refine keepTake (i := 1) (v := ?_) (a' := ?_) rfl (by kernel_rfl) (by kernel_rfl) (by kernel_rfl) (by kernel_rfl) (by kernel_rfl) (by kernel_rfl) (fun w hSw => ?_) hS ?_ ?_
  rotate_left 2
  · (try dsimp only at hSw); (obtain ⟨hSa, hSb, hSc, hSd, hSe, hSf⟩ := hSw); go_simp; with_reducible rfl
  · go_simp; with_reducible rfl
  refine keepTake (i := 2) (v := ?_) (a' := ?_) rfl (by kernel_rfl) (by kernel_rfl) (by kernel_rfl) (by kernel_rfl) (by kernel_rfl) (by kernel_rfl) (fun w hSw => ?_) hS ?_ ?_
  rotate_left 2
  · (try dsimp only at hSw); (obtain ⟨hSa, hSb, hSc, hSd, hSe, hSf⟩ := hSw); go_simp; with_reducible rfl
  · go_simp; with_reducible rfl
  refine keepTake (i := 3) (v := ?_) (a' := ?_) rfl (by kernel_rfl) (by kernel_rfl) (by kernel_rfl) (by kernel_rfl) (by kernel_rfl) (by kernel_rfl) (fun w hSw => ?_) hS ?_ ?_
  rotate_left 2
  · (try dsimp only at hSw); (obtain ⟨hSa, hSb, hSc, hSd, hSe, hSf⟩ := hSw); go_simp; with_reducible rfl
  · go_simp; with_reducible rfl
  refine keepTake (i := 4) (v := ?_) (a' := ?_) rfl (by kernel_rfl) (by kernel_rfl) (by kernel_rfl) (by kernel_rfl) (by kernel_rfl) (by kernel_rfl) (fun w hSw => ?_) hS ?_ ?_
  rotate_left 2
  · (try dsimp only at hSw); (obtain ⟨hSa, hSb, hSc, hSd, hSe, hSf⟩ := hSw); go_simp; with_reducible rfl
  · go_simp; with_reducible rfl
  refine keepTake (i := 7) (v := ?_) (a' := ?_) rfl (by kernel_rfl) (by kernel_rfl) (by kernel_rfl) (by kernel_rfl) (by kernel_rfl) (by kernel_rfl) (fun w hSw => ?_) hS ?_ ?_
  rotate_left 2
  · (try dsimp only at hSw); (obtain ⟨hSa, hSb, hSc, hSd, hSe, hSf⟩ := hSw); go_simp; with_reducible rfl
  · go_simp; with_reducible rfl
  refine keepTake (i := 8) (v := ?_) (a' := ?_) rfl (by kernel_rfl) (by kernel_rfl) (by kernel_rfl) (by kernel_rfl) (by kernel_rfl) (by kernel_rfl) (fun w hSw => ?_) hS ?_ ?_
  rotate_left 2
  · (try dsimp only at hSw); (obtain ⟨hSa, hSb, hSc, hSd, hSe, hSf⟩ := hSw); go_simp; with_reducible rfl
  · go_simp; with_reducible rfl
  refine keepTake (i := 9) (v := ?_) (a' := ?_) rfl (by kernel_rfl) (by kernel_rfl) (by kernel_rfl) (by kernel_rfl) (by kernel_rfl) (by kernel_rfl) (fun w hSw => ?_) hS ?_ ?_
  rotate_left 2
  · (try dsimp only at hSw); (obtain ⟨hSa, hSb, hSc, hSd, hSe, hSf⟩ := hSw); go_simp; with_reducible rfl
  · go_simp; with_reducible rfl
  refine keepTake (i := 10) (v := ?_) (a' := ?_) rfl (by kernel_rfl) (by kernel_rfl) (by kernel_rfl) (by kernel_rfl) (by kernel_rfl) (by kernel_rfl) (fun w hSw => ?_) hS ?_ ?_
  rotate_left 2
  · (try dsimp only at hSw); (obtain ⟨hSa, hSb, hSc, hSd, hSe, hSf⟩ := hSw); go_simp; with_reducible rfl
  · go_simp; with_reducible rfl
  refine keepTake (i := 11) (v := ?_) (a' := ?_) rfl (by kernel_rfl) (by kernel_rfl) (by kernel_rfl) (by kernel_rfl) (by kernel_rfl) (by kernel_rfl) (fun w hSw => ?_) hS ?_ ?_
  rotate_left 2
  · (try dsimp only at hSw); (obtain ⟨hSa, hSb, hSc, hSd, hSe, hSf⟩ := hSw); go_simp; with_reducible rfl
  · go_simp; with_reducible rfl
  refine keepReady (rs := [5]) (by kernel_rfl) (by simp) ?_
  refine AllK.cons rfl (fun K hK => ?_) AllK.nil
  go_simp
  refine (rBatch_calls b 1 nn (hp0.fr ((Fr.refl [] A1).drew) (by simp))).mono ?_
  rintro e w3 ⟨lv, rfl, hlv, f3⟩
  have f3' : Fr [] A1 w3 := (Fr.refl [] A1).drew.trans f3
  have hS := playS_fr f3 (by simp) (by simp) hS
  have B3 := B0.fr0 f3'
  have hp3 := hp0.fr f3' (by simp)
  have hl3 : ∀ k, lv.ownBlock = some k → A1.heap.size ≤ k := fun k hk => (hlv.lt k hk).1
  have hPl : PwAt w3 lv (batch pages b) := ownsRow_low hlv (Nat.zero_le _)
  have hbl := batch_length pages b
  have hbd := batch_data (pages := pages) (b := b)
  have hB4 := fun (w' : World) (h' : IntsAt N w' pv pages) => rBatch_calls (kv := kv) b 1 nn h'
  generalize batch pages b = l at hPl hbl hbd hB4
  have hbd' : ∀ x ∈ l, x.2.length ≤ 1000 := fun x hx => by have := hbd x hx; omega
  have hlf : l.length ≤ 100000 := by omega
  have hwr := B3.st.write hPl hbd' hlf
  clear hbl hbd
  have HNEW := fun {k : Nat} (hk : A1.heap.size ≤ k) => B0.new hk
  try dsimp only
  refine hK _ _ (fun _ => hS) ?_
  clear hK K
  try simp only [Act.put, List.setIfInBounds_toArray, List.set_cons_zero, List.set_cons_succ]
  refine keepReady (rs := [6]) (by kernel_rfl) (by simp) ?_
  refine AllK.cons rfl (fun K hK => ?_) AllK.nil
  go_simp
  refine hwr.mono ?_
  rintro e w4 ⟨rfl, T4, f4⟩
  have hWS : W ∉ pl.b :: L.all := by simp only [List.mem_cons, not_or]; exact ⟨fun e => h.hW.2.2.1 (by simp [PL.all, e]), h.hW.2.1⟩
  have hbS : bx ∉ pl.b :: L.all := by simp only [List.mem_cons, not_or]; exact ⟨fun e => hnew.2.2.1 (by simp [PL.all, e]), hnew.2.1⟩
  have hS := playS_fr f4 hWS hbS hS
  have G4 := f4.heap B3.G hWS
  have RD4 := B3.RD.fr f4 (fun k hk hk' => by rcases List.mem_cons.1 hk' with e | hk'; exact (h.n3 k hk).2.2 (by simp [PL.all, e]); exact (h.n3 k hk).2.1 hk')
  have Q4 := B3.Q.fr f4 (fun k hk hk' => by rcases List.mem_cons.1 hk' with e | hk'; exact (h.n4 k hk).2.2.1 (by simp [PL.all, e]); exact (h.n4 k hk).2.1 hk')
  have hp4 := hp3.fr f4 (fun k hk hNk => by
    have := hN k hNk
    rcases List.mem_cons.1 hk with rfl | hk
    · have := (h.st.nP pl.b (by simp [PL.all])).1; omega
    · have := h.st.nL k hk; omega)
  try dsimp only
  refine hK _ _ (fun _ => hS) ?_
  clear hK K
  try simp only [Act.put, List.setIfInBounds_toArray, List.set_cons_zero, List.set_cons_succ]
  refine keepReady (rs := [12]) (by kernel_rfl) (by simp) ?_
  refine AllK.cons rfl (fun K hK => ?_) AllK.nil
  go_simp
  refine (hB4 _ hp4).mono ?_
  rintro e w5 ⟨lv2, rfl, hlv2, f5⟩
  have hS := playS_fr f5 (by simp) (by simp) hS
  have s4 : A1.heap.size ≤ w4.heap.size := by have := f3'.size; have := f4.size; omega
  have hl5 : ∀ k, lv2.ownBlock = some k → k ∉ LR.all ∧ k ∉ ql.all := fun k hk => by
    have := HNEW (k := k) (by have := (hlv2.lt k hk).1; omega)
    exact ⟨this.2.2.2.1, this.2.2.2.2.1⟩
  have hP5 : PwAt w5 lv2 l := ownsRow_low hlv2 (Nat.zero_le _)
  have hw2 := rWrite_calls (RD4.fr0 f5) (Q4.fr0 f5) (fun k hk => (h.n4 k hk).2.2.2) hP5 hl5 hbd' hlf h.inv h.len
  have HL := Lib.hid (And.intro (give_len d p l) (And.intro (fun hc => give_inv (l := l) h.len h.inv hc) (give_bad d p l)))
  generalize give d p l = g at hw2 T4 HL
  try dsimp only
  refine hK _ _ (fun _ => hS) ?_
  clear hK K
  try simp only [Act.put, List.setIfInBounds_toArray, List.set_cons_zero, List.set_cons_succ]
  refine keepReady (rs := [13]) (by kernel_rfl) (by simp) ?_
  refine AllK.cons rfl (fun K hK => ?_) AllK.nil
  go_simp
  refine hw2.mono ?_
  rintro e w6 ⟨rfl, RD6, Q6, f6⟩
  have hWS2 : W ∉ ql.b :: LR.all := by simp only [List.mem_cons, not_or]; exact ⟨fun e => h.hW.2.2.2.2 (by simp [PL.all, e]), h.hW.2.2.2.1⟩
  have hbS2 : bx ∉ ql.b :: LR.all := by simp only [List.mem_cons, not_or]; exact ⟨fun e => hnew.2.2.2.2.1 (by simp [PL.all, e]), hnew.2.2.2.1⟩
  have hS := playS_fr f6 hWS2 hbS2 hS
  have T6 : St w L pl g.2.1 g.2.2 w6 := (T4.fr0 f5).frS f6 (fun k hk => by
    rcases List.mem_cons.1 hk with rfl | hk
    · have := h.n4 ql.b (by simp [PL.all]); exact ⟨this.1, this.2.1, this.2.2.1⟩
    · have := h.n3 k hk; exact this)
  have HF : Hid (Both w W L pl LR ql g.2.1 g.2.2 w6) := ⟨T6, RD6, Q6, h.n3, h.n4, f6.heap (f5.heap G4 (by simp)) hWS2, h.hW, by rw [HL.out.1]; exact h.len, HL.out.2.1, by rw [HL.out.2.2]; exact h.bad⟩
  obtain ⟨e0, d0, p0⟩ := g
  try dsimp only
  refine hK _ _ (fun _ => hS) ?_
  clear hK K
  try simp only [Act.put, List.setIfInBounds_toArray, List.set_cons_zero, List.set_cons_succ]
  clear hw2 hwr hB4 HNEW
  refine keepTake (i := 14) (v := ?_) (a' := ?_) rfl (by kernel_rfl) (by kernel_rfl) (by kernel_rfl) (by kernel_rfl) (by kernel_rfl) (by kernel_rfl) (fun w hSw => ?_) hS ?_ ?_
  rotate_left 2
  · (try dsimp only at hSw); (try (have hSa := hSw.1; have hSb := hSw.2)); (try (have hSc := hSb.1; have hSd := hSb.2)); go_simp; with_reducible rfl
  · go_simp; with_reducible rfl
  refine keepReady (rs := [15]) (by kernel_rfl) (by simp) ?_
  refine AllK.cons rfl (fun K hK => ?_) AllK.nil
  go_simp
  try dsimp only
  refine hK _ _ (fun h => absurd rfl h) ?_
  clear hK K
  try simp only [Act.put, List.setIfInBounds_toArray, List.set_cons_zero, List.set_cons_succ]
  refine keepDone (by kernel_rfl) ?_ _
  go_wp2_with fail
  go_ret
  exact ⟨rfl, _, _, HF.out⟩
end
end Go.Proofs.YtpoagpaglocpeaaGreat
/- The other steps of both: the power, the mount and the opening, a bit that rots. -/
namespace Go.Proofs.YtpoagpaglocpeaaGreat
set_option linter.unusedSimpArgs false
set_option linter.unusedVariables false
set_option linter.unnecessarySimpa false
open Go.RowKit M

section
variable {w A B : World} {W : Nat} {L : DL} {pl : PL} {LR : RL} {ql : PL} {d : Disk} {p : M.Pages}

/-- The disk of both has turned, by calls that name the disk's own blocks alone. -/
theorem Both.turn (h : Both w W L pl LR ql d p A) {d' : Disk} {C D : World} (T : St w L pl d' p C) (f1 : Fr L.all A C) (RD : RDiskAt D LR d') (f2 : Fr LR.all C D) (hl : d'.pg.length = d.pg.length) (hi : p.closed = false → d'.off = false ∧ ∃ im : List Bytes, d'.pg = im.map bare1) : Both w W L pl LR ql d' p D :=
  ⟨T.frS f2 h.n3, RD, (h.Q.fr f1 (fun k hk => (h.n4 k hk).2.1)).fr f2 (fun k hk => (h.n4 k hk).2.2.2), h.n3, h.n4, f2.heap (f1.heap h.G h.hW.2.1) h.hW.2.2.2.1, h.hW, by rw [hl]; exact h.len, hi, h.bad⟩

set_option maxRecDepth 100000 in
theorem lPlay_trip (h : Both w W L pl LR ql d p A) (pv kv : Value) (b : UInt8) (nn : Int) (hnn : nn ≤ 9223372036854775807) :
    Calls Tryz.prog 12 #[.pointer (some ⟨W, 0, none⟩), .agg #[.int .i64 2, pv, .int .u8 b.toNat, .int .i64 nn, kv]] A fun e B =>
      e = .returned (.bool true) ∧ ∃ d' p', Both w W L pl LR ql d' p' B := by
  have G0 := heap_alloc_new A (opCells 2 pv b nn kv)
  have F0 := (Fr.refl [] A).alloc (opCells 2 pv b nn kv)
  have B0 := h.fr0 F0
  have hnew := h.new (Nat.le_refl _)
  unfold opCells at G0 F0 B0
  go_enter Tryz.func12, Tryz.ntmps12
  go_wp2_with (with_reducible refine wpL_stop (o := ⟨_, .load 3 _, _, _, _, _⟩) ?_)
  generalize A.alloc (.cells #[.int .i64 2, pv, .int .u8 b.toNat, .int .i64 nn, kv] 49) = A1 at G0 F0 B0 ⊢
  generalize A.heap.size = bx at G0 hnew ⊢
  refine unhold ?_
  have k0 : A1.cell? ⟨bx, 0, none⟩ = some (.int .i64 2) := blk_cell G0 0 rfl
  have k1 : A1.cell? ⟨bx, 1, none⟩ = some pv := blk_cell G0 1 rfl
  have k3 : A1.cell? ⟨bx, 3, none⟩ = some (.int .i64 nn) := blk_cell G0 3 rfl
  have k4 : A1.cell? ⟨bx, 4, none⟩ = some kv := blk_cell G0 4 rfl
  obtain ⟨q0, q1, q2, q3⟩ := B0.c
  have fd1 : Fr [] A1 A1.drew := (Fr.refl [] A1).drew
  have ht1 := (B0.st.fr0 fd1).trip nn hnn
  go_wp2_with fail
  refine wp_region_still_tail 6 (by kernel_rfl) (by kernel_rfl) ?_
  simp only [List.take_succ_cons, List.take_zero, List.drop_succ_cons, List.drop_zero]
  iterate 6 still_step
  refine wpStill_nil ?_
  go_wp2_with fail
  refine ht1.mono ?_
  rintro e w3 ⟨rfl, T3, f3⟩
  clear ht1
  have f3' : Fr L.all A1 w3 := fd1.any.trans f3
  have hbL : bx ∉ L.all := hnew.2.1
  have k3' := cell_fr f3' k3 hbL
  have q2' := cell_fr f3' q2 h.hW.2.1
  have RD3 := B0.RD.fr f3' (fun k hk => (h.n3 k hk).2.1)
  have fd3 : Fr [] w3 w3.drew := (Fr.refl [] w3).drew
  have ht2 := rdTrip_calls (RD3.fr0 fd3) nn hnn
  clear k3 q2
  go_wp2_with fail
  refine wp_region_still_tail 6 (by kernel_rfl) (by kernel_rfl) ?_
  simp only [List.take_succ_cons, List.take_zero, List.drop_succ_cons, List.drop_zero]
  iterate 6 still_step
  refine wpStill_nil ?_
  go_wp2_with fail
  refine ht2.mono ?_
  rintro e w4 ⟨rfl, RD4, f4⟩
  have f4' : Fr LR.all w3 w4 := fd3.any.trans (f4.mono (by simp [RL.all]))
  have HF : Hid (Both w W L pl LR ql (d.setTrip nn) p w4) := B0.turn T3 f3' RD4 f4' rfl h.inv
  clear ht2
  go_wp2_with fail
  go_ret
  exact ⟨rfl, _, _, HF.out⟩

set_option maxRecDepth 100000 in
theorem lPlay_other (h : Both w W L pl LR ql d p A) (kd : Int) (h1 : kd ≠ 1) (h2 : kd ≠ 2) (h3 : kd ≠ 3) (h4 : kd ≠ 4) (pv kv : Value) (b : UInt8) (nn : Int) :
    Calls Tryz.prog 12 #[.pointer (some ⟨W, 0, none⟩), .agg #[.int .i64 kd, pv, .int .u8 b.toNat, .int .i64 nn, kv]] A fun e B =>
      e = .returned (.bool true) ∧ ∃ d' p', Both w W L pl LR ql d' p' B := by
  have e1 : (kd == 1) = false := by simpa using h1
  have e2 : (kd == 2) = false := by simpa using h2
  have e3 : (kd == 3) = false := by simpa using h3
  have e4 : (kd == 4) = false := by simpa using h4
  clear h1 h2 h3 h4
  have G0 := heap_alloc_new A (opCells kd pv b nn kv)
  have F0 := (Fr.refl [] A).alloc (opCells kd pv b nn kv)
  have B0 := h.fr0 F0
  have hnew := h.new (Nat.le_refl _)
  unfold opCells at G0 F0 B0
  go_enter Tryz.func12, Tryz.ntmps12
  go_wp2_with (with_reducible refine wpL_stop (o := ⟨_, .load 3 _, _, _, _, _⟩) ?_)
  generalize A.alloc (.cells #[.int .i64 kd, pv, .int .u8 b.toNat, .int .i64 nn, kv] 49) = A1 at G0 F0 B0 ⊢
  generalize A.heap.size = bx at G0 hnew ⊢
  refine unhold ?_
  have k0 : A1.cell? ⟨bx, 0, none⟩ = some (.int .i64 kd) := blk_cell G0 0 rfl
  have k1 : A1.cell? ⟨bx, 1, none⟩ = some pv := blk_cell G0 1 rfl
  have k3 : A1.cell? ⟨bx, 3, none⟩ = some (.int .i64 nn) := blk_cell G0 3 rfl
  have k4 : A1.cell? ⟨bx, 4, none⟩ = some kv := blk_cell G0 4 rfl
  obtain ⟨q0, q1, q2, q3⟩ := B0.c
  have HF := Lib.hid B0
  go_wp2_with fail
  go_ret
  exact ⟨rfl, _, _, HF.out⟩

set_option maxRecDepth 100000 in
theorem lPlay_rot0 (h : Both w W L pl LR ql d p A) (c : Nat) (P : Option Addr) (kv : Value) (b : UInt8) (nn : Int) :
    Calls Tryz.prog 12 #[.pointer (some ⟨W, 0, none⟩), .agg #[.int .i64 4, .slice P 0 c, .int .u8 b.toNat, .int .i64 nn, kv]] A fun e B =>
      e = .returned (.bool true) ∧ ∃ d' p', Both w W L pl LR ql d' p' B := by
  have G0 := heap_alloc_new A (opCells 4 (.slice P 0 c) b nn kv)
  have F0 := (Fr.refl [] A).alloc (opCells 4 (.slice P 0 c) b nn kv)
  have B0 := h.fr0 F0
  have hnew := h.new (Nat.le_refl _)
  unfold opCells at G0 F0 B0
  go_enter Tryz.func12, Tryz.ntmps12
  go_wp2_with (with_reducible refine wpL_stop (o := ⟨_, .load 3 _, _, _, _, _⟩) ?_)
  generalize A.alloc (.cells #[.int .i64 4, (.slice P 0 c), .int .u8 b.toNat, .int .i64 nn, kv] 49) = A1 at G0 F0 B0 ⊢
  generalize A.heap.size = bx at G0 hnew ⊢
  refine unhold ?_
  have k0 : A1.cell? ⟨bx, 0, none⟩ = some (.int .i64 4) := blk_cell G0 0 rfl
  have k1 : A1.cell? ⟨bx, 1, none⟩ = some (.slice P 0 c) := blk_cell G0 1 rfl
  have k3 : A1.cell? ⟨bx, 3, none⟩ = some (.int .i64 nn) := blk_cell G0 3 rfl
  have k4 : A1.cell? ⟨bx, 4, none⟩ = some kv := blk_cell G0 4 rfl
  obtain ⟨q0, q1, q2, q3⟩ := B0.c
  have HF := Lib.hid B0
  go_wp2_with fail
  go_ret
  exact ⟨rfl, _, _, HF.out⟩

set_option maxRecDepth 100000 in
set_option maxHeartbeats 4000000 in
theorem lPlay_rot (h : Both w W L pl LR ql d p A) {N : Nat → Prop} (hN : ∀ k, N k → k < w.heap.size) {pv : Value} {x : Int} {xs : List Int} (kv : Value) (b : UInt8) (nn : Int) (hp : IntsAt N A pv (x :: xs)) :
    Calls Tryz.prog 12 #[.pointer (some ⟨W, 0, none⟩), .agg #[.int .i64 4, pv, .int .u8 b.toNat, .int .i64 nn, kv]] A fun e B =>
      e = .returned (.bool true) ∧ ∃ d' p', Both w W L pl LR ql d' p' B := by
  have G0 := heap_alloc_new A (opCells 4 pv b nn kv)
  have F0 := (Fr.refl [] A).alloc (opCells 4 pv b nn kv)
  have B0 := h.fr0 F0
  have hnew := h.new (Nat.le_refl _)
  have hp0 := hp.fr F0 (by simp)
  unfold opCells at G0 F0 B0 hp0
  go_enter Tryz.func12, Tryz.ntmps12
  go_wp2_with (with_reducible refine wpL_stop (o := ⟨_, .load 3 _, _, _, _, _⟩) ?_)
  generalize A.alloc (.cells #[.int .i64 4, pv, .int .u8 b.toNat, .int .i64 nn, kv] 49) = A1 at G0 F0 B0 hp0 ⊢
  generalize A.heap.size = bx at G0 hnew ⊢
  refine unhold ?_
  have k0 : A1.cell? ⟨bx, 0, none⟩ = some (.int .i64 4) := blk_cell G0 0 rfl
  have k1 : A1.cell? ⟨bx, 1, none⟩ = some pv := blk_cell G0 1 rfl
  have k3 : A1.cell? ⟨bx, 3, none⟩ = some (.int .i64 nn) := blk_cell G0 3 rfl
  have k4 : A1.cell? ⟨bx, 4, none⟩ = some kv := blk_cell G0 4 rfl
  obtain ⟨q0, q1, q2, q3⟩ := B0.c
  obtain ⟨P, pc, rfl, hpc⟩ := id hp0
  obtain ⟨ad, rfl, hadN, hadc⟩ := hpc 0 (by simp)
  have had0 : ad.add 0 = ad := by simp [Addr.add]
  rw [had0] at hadc
  have hadc : A1.cell? ad = some (.int .i64 x) := hadc
  have hadw := hN _ hadN
  have hlen0 : (0 : Int) < ((x :: xs).length : Int) := by simp only [List.length_cons]; omega
  have hadL : ad.block ∉ L.all := fun hk => by have := h.st.nL _ hk; omega
  have hadR : ad.block ∉ LR.all := fun hk => by have := (h.n3 _ hk).1; omega
  have adfr : ∀ {S : List Nat} {X Y : World}, Fr S X Y → ad.block ∉ S → X.cell? ad = some (.int .i64 x) → Y.cell? ad = some (.int .i64 x) := fun hf hn hc => by
    rw [World.cell?_of_block (hf.block _ (World.block_lt_of_cell? _ _ hc) hn)]
    exact hc
  clear hpc
  generalize (x :: xs).length = n1 at k1 hlen0 ⊢
  go_wp2_with fail
  refine wp_region_keep (fun w' => w'.cell? ⟨W, 0, none⟩ = some (Dp L) ∧ w'.cell? ⟨W, 2, none⟩ = some (Rp LR) ∧ w'.cell? ⟨bx, 1, none⟩ = some (.slice (some ad) n1 pc) ∧ w'.cell? ⟨bx, 3, none⟩ = some (.int .i64 nn) ∧ w'.cell? ad = some (.int .i64 x)) 23 (by kernel_rfl) ?_
  have hS : A1.drew.cell? ⟨W, 0, none⟩ = some (Dp L) ∧ A1.drew.cell? ⟨W, 2, none⟩ = some (Rp LR) ∧ A1.drew.cell? ⟨bx, 1, none⟩ = some (.slice (some ad) n1 pc) ∧ A1.drew.cell? ⟨bx, 3, none⟩ = some (.int .i64 nn) ∧ A1.drew.cell? ad = some (.int .i64 x) := ⟨q0, q2, k1, k3, hadc⟩
  refine keepTake (i := 0) (v := ?_) (a' := ?_) rfl (by kernel_rfl) (by kernel_rfl) (by kernel_rfl) (by kernel_rfl) (by kernel_rfl) (by kernel_rfl) (fun w hSw => ?_) hS ?_ ?_
  rotate_left 2
  · (try dsimp only at hSw); (try (have hSa := hSw.1; have hSb := hSw.2)); (try (have hSc := hSb.1; have hSd := hSb.2)); go_simp; with_reducible rfl
  · go_simp; with_reducible rfl
  refine keepTake (i := 1) (v := ?_) (a' := ?_) rfl (by kernel_rfl) (by kernel_rfl) (by kernel_rfl) (by kernel_rfl) (by kernel_rfl) (by kernel_rfl) (fun w hSw => ?_) hS ?_ ?_
  rotate_left 2
  · (try dsimp only at hSw); (try (have hSa := hSw.1; have hSb := hSw.2)); (try (have hSc := hSb.1; have hSd := hSb.2)); go_simp; with_reducible rfl
  · go_simp; with_reducible rfl
  refine keepTake (i := 2) (v := ?_) (a' := ?_) rfl (by kernel_rfl) (by kernel_rfl) (by kernel_rfl) (by kernel_rfl) (by kernel_rfl) (by kernel_rfl) (fun w hSw => ?_) hS ?_ ?_
  rotate_left 2
  · (try dsimp only at hSw); (try (have hSa := hSw.1; have hSb := hSw.2)); (try (have hSc := hSb.1; have hSd := hSb.2)); go_simp; with_reducible rfl
  · go_simp; with_reducible rfl
  refine keepTake (i := 3) (v := ?_) (a' := ?_) rfl (by kernel_rfl) (by kernel_rfl) (by kernel_rfl) (by kernel_rfl) (by kernel_rfl) (by kernel_rfl) (fun w hSw => ?_) hS ?_ ?_
  rotate_left 2
  · (try dsimp only at hSw); (try (have hSa := hSw.1; have hSb := hSw.2)); (try (have hSc := hSb.1; have hSd := hSb.2)); go_simp; with_reducible rfl
  · go_simp; with_reducible rfl
  refine keepTake (i := 4) (v := ?_) (a' := ?_) rfl (by kernel_rfl) (by kernel_rfl) (by kernel_rfl) (by kernel_rfl) (by kernel_rfl) (by kernel_rfl) (fun w hSw => ?_) hS ?_ ?_
  rotate_left 2
  · (try dsimp only at hSw); (try (have hSa := hSw.1; have hSb := hSw.2)); (try (have hSc := hSb.1; have hSd := hSb.2)); go_simp; with_reducible rfl
  · go_simp; with_reducible rfl
  refine keepTake (i := 5) (v := ?_) (a' := ?_) rfl (by kernel_rfl) (by kernel_rfl) (by kernel_rfl) (by kernel_rfl) (by kernel_rfl) (by kernel_rfl) (fun w hSw => ?_) hS ?_ ?_
  rotate_left 2
  · (try dsimp only at hSw); (try (have hSa := hSw.1; have hSb := hSw.2)); (try (have hSc := hSb.1; have hSd := hSb.2)); go_simp; with_reducible rfl
  · go_simp; with_reducible rfl
  refine keepTake (i := 6) (v := ?_) (a' := ?_) rfl (by kernel_rfl) (by kernel_rfl) (by kernel_rfl) (by kernel_rfl) (by kernel_rfl) (by kernel_rfl) (fun w hSw => ?_) hS ?_ ?_
  rotate_left 2
  · (try dsimp only at hSw); (try (have hSa := hSw.1; have hSb := hSw.2)); (try (have hSc := hSb.1; have hSd := hSb.2)); go_simp; with_reducible rfl
  · go_simp; with_reducible rfl
  refine keepTake (i := 7) (v := ?_) (a' := ?_) rfl (by kernel_rfl) (by kernel_rfl) (by kernel_rfl) (by kernel_rfl) (by kernel_rfl) (by kernel_rfl) (fun w hSw => ?_) hS ?_ ?_
  rotate_left 2
  · (try dsimp only at hSw); (try (have hSa := hSw.1; have hSb := hSw.2)); (try (have hSc := hSb.1; have hSd := hSb.2)); go_simp; with_reducible rfl
  · go_simp; with_reducible rfl
  refine keepTake (i := 8) (v := ?_) (a' := ?_) rfl (by kernel_rfl) (by kernel_rfl) (by kernel_rfl) (by kernel_rfl) (by kernel_rfl) (by kernel_rfl) (fun w hSw => ?_) hS ?_ ?_
  rotate_left 2
  · (try dsimp only at hSw); (try (have hSa := hSw.1; have hSb := hSw.2)); (try (have hSc := hSb.1; have hSd := hSb.2)); go_simp; with_reducible rfl
  · go_simp; with_reducible rfl
  refine keepTake (i := 9) (v := ?_) (a' := ?_) rfl (by kernel_rfl) (by kernel_rfl) (by kernel_rfl) (by kernel_rfl) (by kernel_rfl) (by kernel_rfl) (fun w hSw => ?_) hS ?_ ?_
  rotate_left 2
  · (try dsimp only at hSw); (try (have hSa := hSw.1; have hSb := hSw.2)); (try (have hSc := hSb.1; have hSd := hSb.2)); go_simp; with_reducible rfl
  · go_simp; with_reducible rfl
  refine keepTake (i := 11) (v := ?_) (a' := ?_) rfl (by kernel_rfl) (by kernel_rfl) (by kernel_rfl) (by kernel_rfl) (by kernel_rfl) (by kernel_rfl) (fun w hSw => ?_) hS ?_ ?_
  rotate_left 2
  · (try dsimp only at hSw); (try (have hSa := hSw.1; have hSb := hSw.2)); (try (have hSc := hSb.1; have hSd := hSb.2)); go_simp; with_reducible rfl
  · go_simp; with_reducible rfl
  refine keepTake (i := 12) (v := ?_) (a' := ?_) rfl (by kernel_rfl) (by kernel_rfl) (by kernel_rfl) (by kernel_rfl) (by kernel_rfl) (by kernel_rfl) (fun w hSw => ?_) hS ?_ ?_
  rotate_left 2
  · (try dsimp only at hSw); (try (have hSa := hSw.1; have hSb := hSw.2)); (try (have hSc := hSb.1; have hSd := hSb.2)); go_simp; with_reducible rfl
  · go_simp; with_reducible rfl
  refine keepTake (i := 13) (v := ?_) (a' := ?_) rfl (by kernel_rfl) (by kernel_rfl) (by kernel_rfl) (by kernel_rfl) (by kernel_rfl) (by kernel_rfl) (fun w hSw => ?_) hS ?_ ?_
  rotate_left 2
  · (try dsimp only at hSw); (try (have hSa := hSw.1; have hSb := hSw.2)); (try (have hSc := hSb.1; have hSd := hSb.2)); go_simp; with_reducible rfl
  · go_simp; with_reducible rfl
  refine keepTake (i := 14) (v := ?_) (a' := ?_) rfl (by kernel_rfl) (by kernel_rfl) (by kernel_rfl) (by kernel_rfl) (by kernel_rfl) (by kernel_rfl) (fun w hSw => ?_) hS ?_ ?_
  rotate_left 2
  · (try dsimp only at hSw); (try (have hSa := hSw.1; have hSb := hSw.2)); (try (have hSc := hSb.1; have hSd := hSb.2)); go_simp; with_reducible rfl
  · go_simp; with_reducible rfl
  refine keepTake (i := 15) (v := ?_) (a' := ?_) rfl (by kernel_rfl) (by kernel_rfl) (by kernel_rfl) (by kernel_rfl) (by kernel_rfl) (by kernel_rfl) (fun w hSw => ?_) hS ?_ ?_
  rotate_left 2
  · (try dsimp only at hSw); (try (have hSa := hSw.1; have hSb := hSw.2)); (try (have hSc := hSb.1; have hSd := hSb.2)); go_simp; with_reducible rfl
  · go_simp; with_reducible rfl
  refine keepTake (i := 16) (v := ?_) (a' := ?_) rfl (by kernel_rfl) (by kernel_rfl) (by kernel_rfl) (by kernel_rfl) (by kernel_rfl) (by kernel_rfl) (fun w hSw => ?_) hS ?_ ?_
  rotate_left 2
  · (try dsimp only at hSw); (try (have hSa := hSw.1; have hSb := hSw.2)); (try (have hSc := hSb.1; have hSd := hSb.2)); go_simp; with_reducible rfl
  · go_simp; with_reducible rfl
  refine keepTake (i := 17) (v := ?_) (a' := ?_) rfl (by kernel_rfl) (by kernel_rfl) (by kernel_rfl) (by kernel_rfl) (by kernel_rfl) (by kernel_rfl) (fun w hSw => ?_) hS ?_ ?_
  rotate_left 2
  · (try dsimp only at hSw); (try (have hSa := hSw.1; have hSb := hSw.2)); (try (have hSc := hSb.1; have hSd := hSb.2)); go_simp; with_reducible rfl
  · go_simp; with_reducible rfl
  refine keepTake (i := 18) (v := ?_) (a' := ?_) rfl (by kernel_rfl) (by kernel_rfl) (by kernel_rfl) (by kernel_rfl) (by kernel_rfl) (by kernel_rfl) (fun w hSw => ?_) hS ?_ ?_
  rotate_left 2
  · (try dsimp only at hSw); (try (have hSa := hSw.1; have hSb := hSw.2)); (try (have hSc := hSb.1; have hSd := hSb.2)); go_simp; with_reducible rfl
  · go_simp; with_reducible rfl
  refine keepTake (i := 19) (v := ?_) (a' := ?_) rfl (by kernel_rfl) (by kernel_rfl) (by kernel_rfl) (by kernel_rfl) (by kernel_rfl) (by kernel_rfl) (fun w hSw => ?_) hS ?_ ?_
  rotate_left 2
  · (try dsimp only at hSw); (try (have hSa := hSw.1; have hSb := hSw.2)); (try (have hSc := hSb.1; have hSd := hSb.2)); go_simp; with_reducible rfl
  · go_simp; with_reducible rfl
  refine keepTake (i := 20) (v := ?_) (a' := ?_) rfl (by kernel_rfl) (by kernel_rfl) (by kernel_rfl) (by kernel_rfl) (by kernel_rfl) (by kernel_rfl) (fun w hSw => ?_) hS ?_ ?_
  rotate_left 2
  · (try dsimp only at hSw); (try (have hSa := hSw.1; have hSb := hSw.2)); (try (have hSc := hSb.1; have hSd := hSb.2)); go_simp; with_reducible rfl
  · go_simp; with_reducible rfl
  refine keepReady (rs := [10]) (by kernel_rfl) (by simp) ?_
  refine AllK.cons rfl (fun K hK => ?_) AllK.nil
  go_simp
  have fd1 : Fr [] A1 A1.drew := (Fr.refl [] A1).drew
  refine ((B0.st.fr0 fd1).rot x nn).mono ?_
  rintro e w3 ⟨rfl, T3, f3⟩
  have f3' : Fr L.all A1 w3 := fd1.any.trans f3
  have hS : w3.cell? ⟨W, 0, none⟩ = some (Dp L) ∧ w3.cell? ⟨W, 2, none⟩ = some (Rp LR) ∧ w3.cell? ⟨bx, 1, none⟩ = some (.slice (some ad) n1 pc) ∧ w3.cell? ⟨bx, 3, none⟩ = some (.int .i64 nn) ∧ w3.cell? ad = some (.int .i64 x) :=
    ⟨cell_fr f3' q0 h.hW.2.1, cell_fr f3' q2 h.hW.2.1, cell_fr f3' k1 hnew.2.1, cell_fr f3' k3 hnew.2.1, adfr f3' hadL hadc⟩
  have RD3 := B0.RD.fr f3' (fun k hk => (h.n3 k hk).2.1)
  have hr2 := rdRot_calls RD3 x nn
  have HL : Hid ((d.rot x nn).2.pg.length = d.pg.length ∧ (p.closed = false → (d.rot x nn).2.off = false ∧ ∃ im : List Bytes, (d.rot x nn).2.pg = im.map bare1)) :=
    ⟨rot_len d x nn, fun hc => by obtain ⟨h1, im, h2⟩ := h.inv hc; exact ⟨by rw [rot_off]; exact h1, rot_bare h2 x nn⟩⟩
  generalize d.rot x nn = g at hr2 T3 HL ⊢
  obtain ⟨e0, d0⟩ := g
  try dsimp only
  refine hK _ _ (fun _ => hS) ?_
  clear hK K
  try simp only [Act.put, List.setIfInBounds_toArray, List.set_cons_zero, List.set_cons_succ]
  refine keepReady (rs := [21]) (by kernel_rfl) (by simp) ?_
  refine AllK.cons rfl (fun K hK => ?_) AllK.nil
  go_simp
  refine hr2.mono ?_
  rintro e w4 ⟨rfl, RD4, f4⟩
  have hS : w4.cell? ⟨W, 0, none⟩ = some (Dp L) ∧ w4.cell? ⟨W, 2, none⟩ = some (Rp LR) ∧ w4.cell? ⟨bx, 1, none⟩ = some (.slice (some ad) n1 pc) ∧ w4.cell? ⟨bx, 3, none⟩ = some (.int .i64 nn) ∧ w4.cell? ad = some (.int .i64 x) :=
    ⟨cell_fr f4 hS.1 h.hW.2.2.2.1, cell_fr f4 hS.2.1 h.hW.2.2.2.1, cell_fr f4 hS.2.2.1 hnew.2.2.2.1, cell_fr f4 hS.2.2.2.1 hnew.2.2.2.1, adfr f4 hadR hS.2.2.2.2⟩
  have HF : Hid (Both w W L pl LR ql d0 p w4) := B0.turn T3 f3' RD4 f4 HL.out.1 HL.out.2
  try dsimp only
  refine hK _ _ (fun _ => hS) ?_
  clear hK K
  try simp only [Act.put, List.setIfInBounds_toArray, List.set_cons_zero, List.set_cons_succ]
  clear hr2
  refine keepTake (i := 22) (v := ?_) (a' := ?_) rfl (by kernel_rfl) (by kernel_rfl) (by kernel_rfl) (by kernel_rfl) (by kernel_rfl) (by kernel_rfl) (fun w hSw => ?_) hS ?_ ?_
  rotate_left 2
  · (try dsimp only at hSw); (try (have hSa := hSw.1; have hSb := hSw.2)); (try (have hSc := hSb.1; have hSd := hSb.2)); go_simp; with_reducible rfl
  · go_simp; with_reducible rfl
  refine keepReady (rs := [23]) (by kernel_rfl) (by simp) ?_
  refine AllK.cons rfl (fun K hK => ?_) AllK.nil
  go_simp
  try dsimp only
  refine hK _ _ (fun h => absurd rfl h) ?_
  clear hK K
  try simp only [Act.put, List.setIfInBounds_toArray, List.set_cons_zero, List.set_cons_succ]
  refine keepDone (by kernel_rfl) ?_ _
  go_wp2_with fail
  go_ret
  exact ⟨rfl, _, _, HF.out⟩
end
end Go.Proofs.YtpoagpaglocpeaaGreat
/- The mount and the opening of both. -/
namespace Go.Proofs.YtpoagpaglocpeaaGreat
set_option linter.unusedSimpArgs false
set_option linter.unusedVariables false
set_option linter.unnecessarySimpa false
open Go.RowKit M

theorem rep_rest {im : List Bytes} (hl : 18 ≤ im.length) : runAll (rest im) (repSteps im) = (0, rest (replayed im)) := by
  have h1 := openSteps_ok (d := rest im) (im := im) (by rw [rest_len]) rfl rfl
  have h2 := open_rest hl
  unfold openAt at h2
  rw [rest_seen] at h2
  have h3 : (runAll (rest im) (openSteps im)).2 = rest (replayed im) := (Prod.mk.inj h2).1
  rw [← openSteps_rep]
  exact Prod.ext h1.1 h3

section
variable {w A B : World} {W : Nat} {L : DL} {pl : PL} {LR : RL} {ql : PL} {d : Disk} {p : M.Pages}

set_option maxRecDepth 100000 in
set_option maxHeartbeats 4000000 in
theorem lPlay_mount (h : Both w W L pl LR ql d p A) {N : Nat → Prop} (hN : ∀ k, N k → k < w.heap.size) (pv : Value) {kv : Value} {picks : List Int} (b : UInt8) (nn : Int) (hk : IntsAt N A kv picks) :
    Calls Tryz.prog 12 #[.pointer (some ⟨W, 0, none⟩), .agg #[.int .i64 3, pv, .int .u8 b.toNat, .int .i64 nn, kv]] A fun e B =>
      e = .returned (.bool true) ∧ ∃ pl' ql' d' p', Both w W L pl' LR ql' d' p' B := by
  have G0 := heap_alloc_new A (opCells 3 pv b nn kv)
  have F0 := (Fr.refl [] A).alloc (opCells 3 pv b nn kv)
  have B0 := h.fr0 F0
  have hnew := h.new (Nat.le_refl _)
  have hk0 := hk.fr F0 (by simp)
  unfold opCells at G0 F0 B0 hk0
  go_enter Tryz.func12, Tryz.ntmps12
  go_wp2_with (with_reducible refine wpL_stop (o := ⟨_, .load 3 _, _, _, _, _⟩) ?_)
  generalize A.alloc (.cells #[.int .i64 3, pv, .int .u8 b.toNat, .int .i64 nn, kv] 49) = A1 at G0 F0 B0 hk0 ⊢
  generalize A.heap.size = bx at G0 hnew ⊢
  refine unhold ?_
  have k0 : A1.cell? ⟨bx, 0, none⟩ = some (.int .i64 3) := blk_cell G0 0 rfl
  have k1 : A1.cell? ⟨bx, 1, none⟩ = some pv := blk_cell G0 1 rfl
  have k3 : A1.cell? ⟨bx, 3, none⟩ = some (.int .i64 nn) := blk_cell G0 3 rfl
  have k4 : A1.cell? ⟨bx, 4, none⟩ = some kv := blk_cell G0 4 rfl
  obtain ⟨q0, q1, q2, q3⟩ := B0.c
  have hLn : ∀ k ∈ L.all, ¬ N k := fun k hk' hNk => by have := h.st.nL k hk'; have := hN k hNk; omega
  have hRn : ∀ k ∈ LR.all, ¬ N k := fun k hk' hNk => by have := (h.n3 k hk').1; have := hN k hNk; omega
  have fd1 : Fr [] A1 A1.drew := (Fr.refl [] A1).drew
  have hm1 := (B0.st.fr0 fd1).mount (hk0.fr fd1 (by simp)) hLn
  go_wp2_with fail
  refine wp_region_still_tail 6 (by kernel_rfl) (by kernel_rfl) ?_
  simp only [List.take_succ_cons, List.take_zero, List.drop_succ_cons, List.drop_zero]
  iterate 6 still_step
  refine wpStill_nil ?_
  go_wp2_with fail
  refine hm1.mono ?_
  rintro e w3 ⟨rfl, T3, f3⟩
  clear hm1
  have f3' : Fr L.all A1 w3 := fd1.any.trans f3
  have k4' := cell_fr f3' k4 hnew.2.1
  have q2' := cell_fr f3' q2 h.hW.2.1
  have RD3 := B0.RD.fr f3' (fun k hk => (h.n3 k hk).2.1)
  have fd3 : Fr [] w3 w3.drew := (Fr.refl [] w3).drew
  have hm2 := rdMount_calls (RD3.fr0 fd3) N kv picks ((hk0.fr f3' hLn).fr fd3 (by simp)) hRn
  clear k4 q2
  go_wp2_with fail
  refine wp_region_still_tail 6 (by kernel_rfl) (by kernel_rfl) ?_
  simp only [List.take_succ_cons, List.take_zero, List.drop_succ_cons, List.drop_zero]
  iterate 6 still_step
  refine wpStill_nil ?_
  go_wp2_with fail
  refine hm2.mono ?_
  rintro e w4 ⟨rfl, RD4, f4⟩
  clear hm2
  have f4' : Fr LR.all w3 w4 := fd3.any.trans f4
  obtain ⟨im, him, hil⟩ := mount_is_rest d picks
  have hl18 : 18 ≤ im.length := by rw [hil]; exact h.len
  rw [him] at RD4 T3
  have T4 : St w L pl (rest im) p w4 := T3.frS f4' h.n3
  have G4 := f4'.heap (f3'.heap B0.G h.hW.2.1) h.hW.2.2.2.1
  have q04 : w4.cell? ⟨W, 0, none⟩ = some (Dp L) := blk_cell G4 0 rfl
  have hop := T4.reopen rfl rfl (by rw [rest_len]; exact hl18)
  rw [open_rest hl18] at hop
  clear q0 q1 q3 q2' k0 k1 k3 k4'
  go_wp2_with fail
  refine hop.mono ?_
  rintro e w5 ⟨pl', rfl, T5, f5, n5⟩
  change St w L pl' (rest (replayed im)) ⟨openNum im, badsFrom 0 ((replayed im).drop 17), false⟩ w5 at T5
  clear hop
  have RD5 := RD4.fr f5 (fun k hk => (h.n3 k hk).2.1)
  have G5 := f5.heap G4 h.hW.2.1
  have q25 : w5.cell? ⟨W, 2, none⟩ = some (Rp LR) := blk_cell G5 2 rfl
  have hro := rOpen_calls RD5 rfl (by rw [rest_len]; exact hl18) (d' := rest (replayed im)) (fun w' h' => by
    refine (rReplay_calls h' rfl (by rw [rest_len]; exact hl18)).mono ?_
    rintro e w2 ⟨rfl, a, c⟩
    rw [rest_seen, rep_rest hl18] at a ⊢
    exact ⟨rfl, a, c⟩) rfl (by rw [rest_len, rest_len]; unfold replayed; rw [replayN_length])
  rw [rest_seen, rest_seen] at hro
  clear q04
  go_wp2_with fail
  refine hro.mono ?_
  rintro e w6 ⟨ql', rfl, RD6, Q6, f6, n6⟩
  clear hro
  have G6 := f6.heap G5 h.hW.2.2.2.1
  have x1 : w6.cell? ⟨W, 1, none⟩ = some (Pp pl) := blk_cell G6 1 rfl
  have x3 : w6.cell? ⟨W, 3, none⟩ = some (Qp ql) := blk_cell G6 3 rfl
  have z1 := blk_free G6 1
  have z3 := blk_free G6 3
  have fz : Fr [W] w6 ((w6.setCell ⟨W, 1, none⟩ (Pp pl')).setCell ⟨W, 3, none⟩ (Qp ql')) := ((Fr.refl _ _).setCell (.inl (by simp)) _).setCell (.inl (by simp)) _
  have Gz : ((w6.setCell ⟨W, 1, none⟩ (Pp pl')).setCell ⟨W, 3, none⟩ (Qp ql')).heap[W]? = some (.cells #[Dp L, Pp pl', Rp LR, Qp ql'] 43 (0, 0)) := by
    have g1 := heap_setCell_same' w6 W 1 _ _ (Pp pl') G6
    have g2 := heap_setCell_same' _ W 3 _ _ (Qp ql') g1
    simpa using g2
  have hW4 := lt_of_heap G4
  have hL5 := T5.D.lt
  have hP5 := T5.P.lt
  have hR4 := RD4.lt
  have hR5 := RD5.lt
  have hWp : W ∉ pl'.all := fun hk => by have := n5 W hk; omega
  have hWq : W ∉ ql'.all := fun hk => by have := n6 W hk; have := f5.size; omega
  have hw4 := T4.fr.size
  have hw5 := T5.fr.size
  have hbads : (badsFrom 0 ((replayed im).drop 17)).length ≤ 4096 := by
    have := badsFrom_length ((replayed im).drop 17) 0
    rw [List.length_drop] at this
    have e : (replayed im).length = im.length := by unfold replayed; rw [replayN_length]
    have := h.RD.ok.few
    omega
  have HF : Hid (Both w W L pl' LR ql' (rest (replayed im)) ⟨openNum im, badsFrom 0 ((replayed im).drop 17), false⟩ ((w6.setCell ⟨W, 1, none⟩ (Pp pl')).setCell ⟨W, 3, none⟩ (Qp ql'))) := by
    have h3' : ∀ k ∈ LR.all, w.heap.size ≤ k ∧ k ∉ L.all ∧ k ∉ pl'.all := fun k hk => ⟨(h.n3 k hk).1, (h.n3 k hk).2.1, fun hk' => by have := n5 k hk'; have := hR4 k hk; omega⟩
    have h4' : ∀ k ∈ ql'.all, w.heap.size ≤ k ∧ k ∉ L.all ∧ k ∉ pl'.all ∧ k ∉ LR.all := fun k hk => ⟨by have := n6 k hk; omega, fun hk' => by have := n6 k hk; have := hL5 k hk'; omega, fun hk' => by have := n6 k hk; have := hP5 k hk'; omega, fun hk' => by have := n6 k hk; have := hR5 k hk'; omega⟩
    have T6 := T5.frS f6 h3'
    refine ⟨T6.frS fz (fun k hk => by obtain rfl : k = W := by simpa using hk
                                      exact ⟨h.hW.1, h.hW.2.1, hWp⟩), RD6.fr fz (fun k hk hk' => ?_), Q6.fr fz (fun k hk hk' => ?_), h3', h4', Gz, ⟨h.hW.1, h.hW.2.1, hWp, h.hW.2.2.2.1, hWq⟩, by rw [rest_len]; unfold replayed; rw [replayN_length]; exact hl18, fun _ => ⟨rfl, _, rfl⟩, hbads⟩
    · obtain rfl : k = W := by simpa using hk'
      exact h.hW.2.2.2.1 hk
    · obtain rfl : k = W := by simpa using hk'
      exact hWq hk
  clear Gz fz G6 G5 G4 hW4 hL5 hP5 hR4 hR5 T5 RD6 Q6
  go_wp2_with fail
  go_ret
  exact ⟨rfl, _, _, _, _, HF.out⟩

/-- Whatever the step: both do the same. -/
theorem lPlay_calls (h : Both w W L pl LR ql d p A) {N : Nat → Prop} (hN : ∀ k, N k → k < w.heap.size) {pv kv : Value} (o : OpM) (ho : OpOk o) (hp : IntsAt N A pv o.pages) (hk : IntsAt N A kv o.picks) :
    Calls Tryz.prog 12 #[.pointer (some ⟨W, 0, none⟩), .agg #[.int .i64 o.kind, pv, .int .u8 o.byte.toNat, .int .i64 o.n, kv]] A fun e B =>
      e = .returned (.bool true) ∧ ∃ pl' ql' d' p', Both w W L pl' LR ql' d' p' B := by
  have ex : ∀ {f : Nat} {args : Array Value}, Calls Tryz.prog f args A (fun e B => e = .returned (.bool true) ∧ ∃ d' p', Both w W L pl LR ql d' p' B) → Calls Tryz.prog f args A (fun e B => e = .returned (.bool true) ∧ ∃ pl' ql' d' p', Both w W L pl' LR ql' d' p' B) := fun hc => hc.mono (fun e B hB => ⟨hB.1, pl, ql, hB.2⟩)
  obtain ⟨kd, pages, byte, n, picks⟩ := o
  simp only at hp hk ⊢
  by_cases h1 : kd = 1
  · subst h1; exact ex (lPlay_write h hN byte n hp)
  by_cases h2 : kd = 2
  · subst h2; exact ex (lPlay_trip h pv kv byte n ho.1)
  by_cases h3 : kd = 3
  · subst h3; exact lPlay_mount h hN pv byte n hk
  by_cases h4 : kd = 4
  · subst h4
    cases pages with
    | nil =>
      obtain ⟨P, c, rfl, _⟩ := hp
      exact ex (lPlay_rot0 h c P kv byte n)
    | cons x xs => exact ex (lPlay_rot h hN kv byte n hp)
  exact ex (lPlay_other h kd h1 h2 h3 h4 pv kv byte n)
end
end Go.Proofs.YtpoagpaglocpeaaGreat
