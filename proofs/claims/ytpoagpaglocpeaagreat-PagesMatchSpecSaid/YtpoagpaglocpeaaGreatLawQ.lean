/- Both are equal: the contents, the damaged pages, the numbers, all that is read. -/
import Derived.Test.YtpoagpaglocpeaaGreatLawP
namespace Go.Proofs.YtpoagpaglocpeaaGreat
set_option linter.unusedSimpArgs false
set_option linter.unusedVariables false
set_option linter.unnecessarySimpa false
open Go.RowKit M

section
variable {w A B : World} {W : Nat} {L : DL} {pl : PL} {LR : RL} {ql : PL} {d : Disk} {p : M.Pages}

theorem RPagesAt.bads {w : World} (h : RPagesAt w ql LR p) : ∃ bv, w.cell? ⟨ql.b, 2, none⟩ = some bv ∧ w.ownsRow 0 3 1 bv p.bad.length (intv p.bad) := by
  obtain ⟨bv, h1, h2, _⟩ := h.at_
  exact ⟨bv, blk_cell h1 2 rfl, h2⟩

set_option maxRecDepth 100000 in
set_option maxHeartbeats 4000000 in
theorem lSame_calls (h : Both w W L pl LR ql d p A) : Calls Tryz.prog 13 #[.pointer (some ⟨W, 0, none⟩)] A fun e B => e = .returned (.bool true) ∧ Fr [] A B := by
  obtain ⟨q0, q1, q2, q3⟩ := h.c
  obtain ⟨bv, q4, hbv⟩ := h.Q.bads
  have q5 : A.cell? ⟨ql.b, 1, none⟩ = some (.int .i64 p.number) := h.Q.c1
  have few := h.RD.ok.few
  have hbad : p.bad.length ≤ 100000 := Nat.le_trans h.bad (by omega)
  have hil : d.image.length = d.pg.length := by simp [Disk.image]
  have hb1 := pBad_calls h.st.P (by omega)
  have L1 := Lib.hid (And.intro hil hbad)
  clear hil hbad
  go_enter Tryz.func13, Tryz.ntmps13
  go_wp2_with fail
  refine wp_region_keep (fun w' => w'.cell? ⟨W, 0, none⟩ = some (Dp L) ∧ w'.cell? ⟨W, 1, none⟩ = some (Pp pl) ∧ w'.cell? ⟨W, 2, none⟩ = some (Rp LR) ∧ w'.cell? ⟨W, 3, none⟩ = some (Qp ql) ∧ w'.cell? ⟨ql.b, 2, none⟩ = some bv) 26 (by kernel_rfl) ?_
  have hS : A.drew.cell? ⟨W, 0, none⟩ = some (Dp L) ∧ A.drew.cell? ⟨W, 1, none⟩ = some (Pp pl) ∧ A.drew.cell? ⟨W, 2, none⟩ = some (Rp LR) ∧ A.drew.cell? ⟨W, 3, none⟩ = some (Qp ql) ∧ A.drew.cell? ⟨ql.b, 2, none⟩ = some bv := ⟨q0, q1, q2, q3, q4⟩
  have hSfr : ∀ (X Y : World), Fr [] X Y → (X.cell? ⟨W, 0, none⟩ = some (Dp L) ∧ X.cell? ⟨W, 1, none⟩ = some (Pp pl) ∧ X.cell? ⟨W, 2, none⟩ = some (Rp LR) ∧ X.cell? ⟨W, 3, none⟩ = some (Qp ql) ∧ X.cell? ⟨ql.b, 2, none⟩ = some bv) →
      (Y.cell? ⟨W, 0, none⟩ = some (Dp L) ∧ Y.cell? ⟨W, 1, none⟩ = some (Pp pl) ∧ Y.cell? ⟨W, 2, none⟩ = some (Rp LR) ∧ Y.cell? ⟨W, 3, none⟩ = some (Qp ql) ∧ Y.cell? ⟨ql.b, 2, none⟩ = some bv) :=
    fun X Y f hx => ⟨cell_fr f hx.1 (by simp), cell_fr f hx.2.1 (by simp), cell_fr f hx.2.2.1 (by simp), cell_fr f hx.2.2.2.1 (by simp), cell_fr f hx.2.2.2.2 (by simp)⟩
  have HSF := Lib.hid hSfr
  clear hSfr
  refine keepTake (i := 0) (v := ?_) (a' := ?_) rfl (by kernel_rfl) (by kernel_rfl) (by kernel_rfl) (by kernel_rfl) (by kernel_rfl) (by kernel_rfl) (fun w hSw => ?_) hS ?_ ?_
  rotate_left 2
  · (try dsimp only at hSw); (try (have hSa := hSw.1; have hSb := hSw.2)); (try (have hSc := hSb.1; have hSd := hSb.2)); go_simp; with_reducible rfl
  · go_simp; with_reducible rfl
  refine keepTake (i := 1) (v := ?_) (a' := ?_) rfl (by kernel_rfl) (by kernel_rfl) (by kernel_rfl) (by kernel_rfl) (by kernel_rfl) (by kernel_rfl) (fun w hSw => ?_) hS ?_ ?_
  rotate_left 2
  · (try dsimp only at hSw); (try (have hSa := hSw.1; have hSb := hSw.2)); (try (have hSc := hSb.1; have hSd := hSb.2)); go_simp; with_reducible rfl
  · go_simp; with_reducible rfl
  refine keepTake (i := 2) (v := ?_) (a' := ?_) rfl (by kernel_rfl) (by kernel_rfl) (by kernel_rfl) (by kernel_rfl) (by kernel_rfl) (by kernel_rfl) (fun w hSw => ?_) hS ?_ ?_
  rotate_left 2
  · (try dsimp only at hSw); (try (have hSa := hSw.1; have hSb := hSw.2)); (try (have hSc := hSb.1; have hSd := hSb.2)); go_simp; with_reducible rfl
  · go_simp; with_reducible rfl
  refine keepTake (i := 3) (v := ?_) (a' := ?_) rfl (by kernel_rfl) (by kernel_rfl) (by kernel_rfl) (by kernel_rfl) (by kernel_rfl) (by kernel_rfl) (fun w hSw => ?_) hS ?_ ?_
  rotate_left 2
  · (try dsimp only at hSw); (try (have hSa := hSw.1; have hSb := hSw.2)); (try (have hSc := hSb.1; have hSd := hSb.2)); go_simp; with_reducible rfl
  · go_simp; with_reducible rfl
  refine keepTake (i := 5) (v := ?_) (a' := ?_) rfl (by kernel_rfl) (by kernel_rfl) (by kernel_rfl) (by kernel_rfl) (by kernel_rfl) (by kernel_rfl) (fun w hSw => ?_) hS ?_ ?_
  rotate_left 2
  · (try dsimp only at hSw); (try (have hSa := hSw.1; have hSb := hSw.2)); (try (have hSc := hSb.1; have hSd := hSb.2)); go_simp; with_reducible rfl
  · go_simp; with_reducible rfl
  refine keepTake (i := 6) (v := ?_) (a' := ?_) rfl (by kernel_rfl) (by kernel_rfl) (by kernel_rfl) (by kernel_rfl) (by kernel_rfl) (by kernel_rfl) (fun w hSw => ?_) hS ?_ ?_
  rotate_left 2
  · (try dsimp only at hSw); (try (have hSa := hSw.1; have hSb := hSw.2)); (try (have hSc := hSb.1; have hSd := hSb.2)); go_simp; with_reducible rfl
  · go_simp; with_reducible rfl
  refine keepTake (i := 7) (v := ?_) (a' := ?_) rfl (by kernel_rfl) (by kernel_rfl) (by kernel_rfl) (by kernel_rfl) (by kernel_rfl) (by kernel_rfl) (fun w hSw => ?_) hS ?_ ?_
  rotate_left 2
  · (try dsimp only at hSw); (try (have hSa := hSw.1; have hSb := hSw.2)); (try (have hSc := hSb.1; have hSd := hSb.2)); go_simp; with_reducible rfl
  · go_simp; with_reducible rfl
  refine keepTake (i := 8) (v := ?_) (a' := ?_) rfl (by kernel_rfl) (by kernel_rfl) (by kernel_rfl) (by kernel_rfl) (by kernel_rfl) (by kernel_rfl) (fun w hSw => ?_) hS ?_ ?_
  rotate_left 2
  · (try dsimp only at hSw); (try (have hSa := hSw.1; have hSb := hSw.2)); (try (have hSc := hSb.1; have hSd := hSb.2)); go_simp; with_reducible rfl
  · go_simp; with_reducible rfl
  refine keepReady (rs := [4]) (by kernel_rfl) (by simp) ?_
  refine AllK.cons rfl (fun K hK => ?_) AllK.nil
  go_simp
  have fd : Fr [] A A.drew := (Fr.refl [] A).drew
  refine (dImage_calls (h.st.D.fr0 fd)).mono ?_
  rintro e w1 ⟨v1, rfl, r1, f1⟩
  have hS := HSF.out _ _ f1 hS
  have F1 := fd.trans f1
  try dsimp only
  refine hK _ _ (fun _ => hS) ?_
  clear hK K
  try simp only [Act.put, List.setIfInBounds_toArray, List.set_cons_zero, List.set_cons_succ]
  refine keepReady (rs := [9]) (by kernel_rfl) (by simp) ?_
  refine AllK.cons rfl (fun K hK => ?_) AllK.nil
  go_simp
  refine (rdImage_calls (h.RD.fr0 F1)).mono ?_
  rintro e w2 ⟨v2, rfl, r2, f2⟩
  have hS := HSF.out _ _ f2 hS
  have F2 := F1.trans f2
  have r1' := ownsRow_fr' r1 f2 (by simp)
  rw [← L1.out.1] at r1' r2
  try dsimp only
  refine hK _ _ (fun _ => hS) ?_
  clear hK K
  try simp only [Act.put, List.setIfInBounds_toArray, List.set_cons_zero, List.set_cons_succ]
  refine keepReady (rs := [10]) (by kernel_rfl) (by simp) ?_
  refine AllK.cons rfl (fun K hK => ?_) AllK.nil
  go_simp
  refine (rSameTexts_calls r1' r2 (by rw [L1.out.1]; omega)).mono ?_
  rintro e w3 ⟨rfl, f3⟩
  have hS := HSF.out _ _ f3 hS
  have F3 := F2.trans f3
  rw [show decide (d.image = d.image) = true by simp]
  clear r1 r1' r2
  try dsimp only
  refine hK _ _ (fun _ => hS) ?_
  clear hK K
  try simp only [Act.put, List.setIfInBounds_toArray, List.set_cons_zero, List.set_cons_succ]
  refine keepTake (i := 11) (v := ?_) (a' := ?_) rfl (by kernel_rfl) (by kernel_rfl) (by kernel_rfl) (by kernel_rfl) (by kernel_rfl) (by kernel_rfl) (fun w hSw => ?_) hS ?_ ?_
  rotate_left 2
  · (try dsimp only at hSw); (try (have hSa := hSw.1; have hSb := hSw.2)); (try (have hSc := hSb.1; have hSd := hSb.2)); go_simp; with_reducible rfl
  · go_simp; with_reducible rfl
  refine keepTake (i := 12) (v := ?_) (a' := ?_) rfl (by kernel_rfl) (by kernel_rfl) (by kernel_rfl) (by kernel_rfl) (by kernel_rfl) (by kernel_rfl) (fun w hSw => ?_) hS ?_ ?_
  rotate_left 2
  · (try dsimp only at hSw); (try (have hSa := hSw.1; have hSb := hSw.2)); (try (have hSc := hSb.1; have hSd := hSb.2)); go_simp; with_reducible rfl
  · go_simp; with_reducible rfl
  refine keepTake (i := 13) (v := ?_) (a' := ?_) rfl (by kernel_rfl) (by kernel_rfl) (by kernel_rfl) (by kernel_rfl) (by kernel_rfl) (by kernel_rfl) (fun w hSw => ?_) hS ?_ ?_
  rotate_left 2
  · (try dsimp only at hSw); (try (have hSa := hSw.1; have hSb := hSw.2)); (try (have hSc := hSb.1; have hSd := hSb.2)); go_simp; with_reducible rfl
  · go_simp; with_reducible rfl
  refine keepTake (i := 14) (v := ?_) (a' := ?_) rfl (by kernel_rfl) (by kernel_rfl) (by kernel_rfl) (by kernel_rfl) (by kernel_rfl) (by kernel_rfl) (fun w hSw => ?_) hS ?_ ?_
  rotate_left 2
  · (try dsimp only at hSw); (try (have hSa := hSw.1; have hSb := hSw.2)); (try (have hSc := hSb.1; have hSd := hSb.2)); go_simp; with_reducible rfl
  · go_simp; with_reducible rfl
  refine keepTake (i := 15) (v := ?_) (a' := ?_) rfl (by kernel_rfl) (by kernel_rfl) (by kernel_rfl) (by kernel_rfl) (by kernel_rfl) (by kernel_rfl) (fun w hSw => ?_) hS ?_ ?_
  rotate_left 2
  · (try dsimp only at hSw); (try (have hSa := hSw.1; have hSb := hSw.2)); (try (have hSc := hSb.1; have hSd := hSb.2)); go_simp; with_reducible rfl
  · go_simp; with_reducible rfl
  refine keepTake (i := 17) (v := ?_) (a' := ?_) rfl (by kernel_rfl) (by kernel_rfl) (by kernel_rfl) (by kernel_rfl) (by kernel_rfl) (by kernel_rfl) (fun w hSw => ?_) hS ?_ ?_
  rotate_left 2
  · (try dsimp only at hSw); (try (have hSa := hSw.1; have hSb := hSw.2)); (try (have hSc := hSb.1; have hSd := hSb.2)); go_simp; with_reducible rfl
  · go_simp; with_reducible rfl
  refine keepTake (i := 18) (v := ?_) (a' := ?_) rfl (by kernel_rfl) (by kernel_rfl) (by kernel_rfl) (by kernel_rfl) (by kernel_rfl) (by kernel_rfl) (fun w hSw => ?_) hS ?_ ?_
  rotate_left 2
  · (try dsimp only at hSw); (try (have hSa := hSw.1; have hSb := hSw.2)); (try (have hSc := hSb.1; have hSd := hSb.2)); go_simp; with_reducible rfl
  · go_simp; with_reducible rfl
  refine keepTake (i := 19) (v := ?_) (a' := ?_) rfl (by kernel_rfl) (by kernel_rfl) (by kernel_rfl) (by kernel_rfl) (by kernel_rfl) (by kernel_rfl) (fun w hSw => ?_) hS ?_ ?_
  rotate_left 2
  · (try dsimp only at hSw); (try (have hSa := hSw.1; have hSb := hSw.2)); (try (have hSc := hSb.1; have hSd := hSb.2)); go_simp; with_reducible rfl
  · go_simp; with_reducible rfl
  refine keepTake (i := 20) (v := ?_) (a' := ?_) rfl (by kernel_rfl) (by kernel_rfl) (by kernel_rfl) (by kernel_rfl) (by kernel_rfl) (by kernel_rfl) (fun w hSw => ?_) hS ?_ ?_
  rotate_left 2
  · (try dsimp only at hSw); (try (have hSa := hSw.1; have hSb := hSw.2)); (try (have hSc := hSb.1; have hSd := hSb.2)); go_simp; with_reducible rfl
  · go_simp; with_reducible rfl
  refine keepTake (i := 21) (v := ?_) (a' := ?_) rfl (by kernel_rfl) (by kernel_rfl) (by kernel_rfl) (by kernel_rfl) (by kernel_rfl) (by kernel_rfl) (fun w hSw => ?_) hS ?_ ?_
  rotate_left 2
  · (try dsimp only at hSw); (try (have hSa := hSw.1; have hSb := hSw.2)); (try (have hSc := hSb.1; have hSd := hSb.2)); go_simp; with_reducible rfl
  · go_simp; with_reducible rfl
  refine keepTake (i := 22) (v := ?_) (a' := ?_) rfl (by kernel_rfl) (by kernel_rfl) (by kernel_rfl) (by kernel_rfl) (by kernel_rfl) (by kernel_rfl) (fun w hSw => ?_) hS ?_ ?_
  rotate_left 2
  · (try dsimp only at hSw); (try (have hSa := hSw.1; have hSb := hSw.2)); (try (have hSc := hSb.1; have hSd := hSb.2)); go_simp; with_reducible rfl
  · go_simp; with_reducible rfl
  refine keepTake (i := 23) (v := ?_) (a' := ?_) rfl (by kernel_rfl) (by kernel_rfl) (by kernel_rfl) (by kernel_rfl) (by kernel_rfl) (by kernel_rfl) (fun w hSw => ?_) hS ?_ ?_
  rotate_left 2
  · (try dsimp only at hSw); (try (have hSa := hSw.1; have hSb := hSw.2)); (try (have hSc := hSb.1; have hSd := hSb.2)); go_simp; with_reducible rfl
  · go_simp; with_reducible rfl
  refine keepReady (rs := [16]) (by kernel_rfl) (by simp) ?_
  refine AllK.cons rfl (fun K hK => ?_) AllK.nil
  go_simp
  refine (pBad_calls (h.st.P.fr0 F3) (by have := L1.out.2; omega)).mono ?_
  rintro e w4 ⟨v4, rfl, r4, f4⟩
  have hS := HSF.out _ _ f4 hS
  have F4 := F3.trans f4
  try dsimp only
  refine hK _ _ (fun _ => hS) ?_
  clear hK K
  try simp only [Act.put, List.setIfInBounds_toArray, List.set_cons_zero, List.set_cons_succ]
  refine keepReady (rs := [24]) (by kernel_rfl) (by simp) ?_
  refine AllK.cons rfl (fun K hK => ?_) AllK.nil
  go_simp
  refine (rSameInts_calls r4 (ownsRow_fr' hbv F4 (by simp)) L1.out.2).mono ?_
  rintro e w5 ⟨rfl, f5⟩
  have hS := HSF.out _ _ f5 hS
  have F5 := F4.trans f5
  rw [show decide (p.bad = p.bad) = true by simp]
  clear r4
  try dsimp only
  refine hK _ _ (fun _ => hS) ?_
  clear hK K
  try simp only [Act.put, List.setIfInBounds_toArray, List.set_cons_zero, List.set_cons_succ]
  refine keepTake (i := 25) (v := ?_) (a' := ?_) rfl (by kernel_rfl) (by kernel_rfl) (by kernel_rfl) (by kernel_rfl) (by kernel_rfl) (by kernel_rfl) (fun w hSw => ?_) hS ?_ ?_
  rotate_left 2
  · (try dsimp only at hSw); (try (have hSa := hSw.1; have hSb := hSw.2)); (try (have hSc := hSb.1; have hSd := hSb.2)); go_simp; with_reducible rfl
  · go_simp; with_reducible rfl
  refine keepReady (rs := [26]) (by kernel_rfl) (by simp) ?_
  refine AllK.cons rfl (fun K hK => ?_) AllK.nil
  go_simp
  try dsimp only
  refine hK _ _ (fun h => absurd rfl h) ?_
  clear hK K
  try simp only [Act.put, List.setIfInBounds_toArray, List.set_cons_zero, List.set_cons_succ]
  refine keepDone (by kernel_rfl) ?_ _
  have B5 := h.fr0 F5
  clear hb1 hS q0 q1 q2 q3 q4 q5 hbv f1 f2 f3 f4 f5 fd F1 F2 F3 F4
  obtain ⟨q0, q1, q2, q3⟩ := B5.c
  have q5 : w5.cell? ⟨ql.b, 1, none⟩ = some (.int .i64 p.number) := B5.Q.c1
  have hQ1 : ∀ m, Calls Tryz.prog 42 #[Pp pl] (w5.drewN m) fun e w' => e = .returned (.int .i64 (d.len - 17)) ∧ w' = w5.drewN m := fun m => (pLen_calls (B5.st.D.fr0 ((Fr.refl [] w5).drewN m)) (B5.st.P.fr0 ((Fr.refl [] w5).drewN m))).mono fun e w' h => ⟨h.1, h.2.symm⟩
  have hQ2 : ∀ m, Calls Tryz.prog 61 #[Qp ql] (w5.drewN m) fun e w' => e = .returned (.int .i64 (d.len - 17)) ∧ w' = w5.drewN m := fun m => (rLen_calls (B5.RD.fr0 ((Fr.refl [] w5).drewN m)) (B5.Q.fr0 ((Fr.refl [] w5).drewN m))).mono fun e w' h => ⟨h.1, h.2.symm⟩
  have hQ3 : ∀ m, Calls Tryz.prog 43 #[Pp pl] (w5.drewN m) fun e w' => e = .returned (.int .i64 p.number) ∧ w' = w5.drewN m := fun m => (pNumber_calls (B5.st.P.fr0 ((Fr.refl [] w5).drewN m))).mono fun e w' h => ⟨h.1, h.2.symm⟩
  go_wp2_with fail
  go_quiet (first | (go_at_call 42; exact Calls.quiet_of_same (hQ1 _)) | (go_at_call 61; exact Calls.quiet_of_same (hQ2 _)) | (go_at_call 43; exact Calls.quiet_of_same (hQ3 _)))
  have f6 : Fr [] A (w5.drewN nq) := F5.trans ((Fr.refl [] w5).drewN nq)
  have B6 := h.fr0 f6
  clear hQ1 hQ2 hQ3 q0 q1 q2 q3 q5 B5 F5
  have hlen : d.len = (d.pg.length : Int) := rfl
  have h18 := h.len
  go_wp2_with fail
  go_loopg [4] (d.pg.length - 15) (fun kq i w' => ∃ m : Nat, i = .int .i64 ((m : Int) - 1) ∧ m ≤ d.pg.length - 15 ∧ Hid (kq + m = d.pg.length - 15) ∧ Fr [] A w')
  case atStart => exact ⟨0, rfl, by omega, by simp [Hid], f6⟩
  case round =>
    obtain ⟨m, rfl, hm, hk, fr⟩ := hrel
    have Br := h.fr0 fr
    obtain ⟨_, q1, _, q3⟩ := Br.c
    have hL := rLen_calls Br.RD Br.Q
    rw [hlen] at hL
    by_cases hlt : m < d.pg.length - 15
    · have hlt' : (m : Int) - 1 ≤ (d.pg.length : Int) - 17 := by omega
      have hR1 := pRead_calls Br.st.D Br.st.P ((m : Int) - 1)
      have hR2 := fun (w' : World) (h1 : RDiskAt w' LR d) (h2 : RPagesAt w' ql LR p) => rpRead_calls h1 h2 ((m : Int) - 1)
      generalize p.read d ((m : Int) - 1) = x at hR1 hR2
      obtain ⟨s, e0⟩ := x
      simp only at hR1 hR2
      go_wp2_with fail
      refine hL.mono ?_
      rintro e w1 ⟨rfl, rfl⟩
      go_wp2_with fail
      refine hR1.mono ?_
      rintro e w2 ⟨rfl, f2⟩
      have q3' := cell_fr f2 q3 (by simp)
      go_wp2_with fail
      refine (hR2 _ (Br.RD.fr0 f2) (Br.Q.fr0 f2)).mono ?_
      rintro e w3 ⟨rfl, f3⟩
      go_wp2_with (first | (with_reducible refine wpL_stop (o := ⟨_, .binOp .neq 9 _ _ _, _, _, _, _⟩) ?_) | (with_reducible refine wpL_stop (o := ⟨_, .binOp .eql 9 _ _ _, _, _, _, _⟩) ?_))
      refine unhold (wpL_val rfl (run_strNe _ _ _ _ rfl s s rfl rfl false (by simp)) ?_)
      go_wp2_with fail
      go_roundg (gk - 1)
      case measure => have := hk.out; omega
      case rel => exact ⟨m + 1, by go_num, by omega, by have := hk.out; unfold Hid; omega, (fr.trans f2).trans f3⟩
    · have hlt' : decide ((m : Int) - 1 ≤ (d.pg.length : Int) - 17) = false := by simp; omega
      go_wp2_with fail
      refine hL.mono ?_
      rintro e w1 ⟨rfl, rfl⟩
      go_wp2_with fail
      go_ret
      exact ⟨rfl, fr⟩
end
end Go.Proofs.YtpoagpaglocpeaaGreat
