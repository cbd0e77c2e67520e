/- The journal's Append and Replace. -/
import Derived.Test.YtcnhlemenpgkbaaGreatDoorJW6
import Derived.Test.YtcnhlemenpgkbaaGreatDoorHeld2
namespace Go.Proofs.YtcnhlemenpgkbaaGreatDoor
set_option linter.unusedSimpArgs false
set_option linter.unusedVariables false
set_option linter.unnecessarySimpa false
open Go.RowKit M

theorem step_cat {P : Program} {ops : Array Oper} {o : Oper} {a : Act} {w : World} {K : Act → World → Prop} {Q : Exit → Act → World → Prop} {Z : Prop} (hgd : o.guard = none) (x y : Operand) (T U : TypeId) (ho : o.op = .binOp .add T x y U) (s t : Bytes) (hx : a.eval x = .string ⟨s.toArray⟩) (hy : a.eval y = .string ⟨t.toArray⟩) (hl : s.length + t.length ≤ 1000000000)
    (h : K (a.put o.dst (.string ⟨(s ++ t).toArray⟩)) w) : if Region.wanted o (yielded ops a.tmps) = true then Oper.wp P o a w K Q else Z := by
  refine step_run hgd ?_ h
  have h1 := run_string_add_sum (P := P) (w := w) ⟨s.toArray⟩ ⟨t.toArray⟩ (by show s.toArray.size + t.toArray.size ≤ _; simp; omega)
  rw [ByteArray.mk_append_mk] at h1
  have h2 : (eqGuard .add T x y (.string ⟨s.toArray⟩) (.string ⟨t.toArray⟩)).run P w = .ok () w := by simp [eqGuard]
  unfold execOp
  simp only [ho, hx, hy, Sem.run_bind, h2, Result.andThen_ok, binOp, h1, Sem.run_pure]
theorem one_row (W : World) (r : Bytes) (g : Nat) {fz : Nat × Nat} (h : W.heap[g]? = some (.cells #[str r] 9 fz)) (hz : fz = (0, 0)) : W.ownsRow 0 9 1 (.slice (some ⟨g, 0, none⟩) 1 1) [r].length (strs [r]) := by
  subst hz
  exact ⟨rfl, .inr ⟨g, 1, _, rfl, Nat.zero_le _, h, Nat.le_refl _, by decide, rfl, rfl⟩⟩

section
variable {w A : World} {L : DL} {pl : PL} {d : Disk} {p : M.Pages} {jl : JL} {j : Jrn}

/-- What Append comes to. -/
def ApPost (w A : World) (L : DL) (pl : PL) (d : Disk) (p : M.Pages) (jl : JL) (j : Jrn) (rec : Bytes) (e : Ending) (B : World) : Prop :=
  (j.check (j.stream ++ J.piece rec) [rec] ≠ 0 ∧ e = .returned (.tuple #[.int .i64 0, .int .i64 (j.check (j.stream ++ J.piece rec) [rec])]) ∧ JSt w L pl d p jl j B ∧ Fr [] A B) ∨
  (j.check (j.stream ++ J.piece rec) [rec] = 0 ∧ ∃ r jl', r = jgo (0, J.head j.bank (j.stream ++ J.piece rec).length (j.recs ++ [rec]).length) ⟨d, p, []⟩ (J.writes j.half j.bank (j.stream ++ J.piece rec) j.stream.length) ∧
    e = .returned (.tuple #[.int .i64 (if r.1 = 0 then (j.recs.length : Int) else 0), .int .i64 r.1]) ∧ jl'.b = jl.b ∧
    JSt w L pl r.2.1 r.2.2 jl' (if r.1 = 0 then { j with bank := j.bank, stream := j.stream ++ J.piece rec, recs := j.recs ++ [rec], closed := false } else { j with closed := true }) B ∧ Fr (jall L pl jl) A B)

namespace Late
set_option maxRecDepth 100000 in
set_option maxHeartbeats 1000000 in
theorem jAppend_calls (h : JSt w L pl d p jl j A) (hcl : j.closed = false) (hn : j.recs.length < 100000) (hst : j.stream.length ≤ 100000) (rec : Bytes) (hrec : rec.length ≤ 100000) :
    Calls Tryz.prog 14 #[Jp jl, str rec] A fun e B => ApPost w A L pl d p jl j rec e B := by
  have c3 := h.J.c3
  have few := h.J.few
  go_enter Tryz.func14, Tryz.ntmps14
  go_wp2_with fail
  refine wp_region_keep (fun w' => w'.cell? ⟨jl.b, 3, none⟩ = some (str j.stream)) 8 (by kernel_rfl) ?_
  have hS : A.drew.cell? ⟨jl.b, 3, none⟩ = some (str j.stream) := c3
  refine keepTake (i := 0) (v := ?_) (a' := ?_) rfl (by kernel_rfl) (by kernel_rfl) (by kernel_rfl) (by kernel_rfl) (by kernel_rfl) (by kernel_rfl) (fun w hSw => ?_) hS ?_ ?_
  rotate_left 2
  · (try dsimp only at hSw); (try (have hSa := hSw.1; have hSb := hSw.2)); (try (have hSc := hSb.1; have hSd := hSb.2)); go_simp; with_reducible rfl
  · go_simp; with_reducible rfl
  refine keepTake (i := 1) (v := ?_) (a' := ?_) rfl (by kernel_rfl) (by kernel_rfl) (by kernel_rfl) (by kernel_rfl) (by kernel_rfl) (by kernel_rfl) (fun w hSw => ?_) hS ?_ ?_
  rotate_left 2
  · (try dsimp only at hSw); (try (have hSa := hSw.1; have hSb := hSw.2)); (try (have hSc := hSb.1; have hSd := hSb.2)); go_simp; with_reducible rfl
  · go_simp; with_reducible rfl
  refine keepTake (i := 2) (v := ?_) (a' := ?_) rfl (by kernel_rfl) (by kernel_rfl) (by kernel_rfl) (by kernel_rfl) (by kernel_rfl) (by kernel_rfl) (fun w hSw => ?_) hS ?_ ?_
  rotate_left 2
  · (try dsimp only at hSw); (try (have hSa := hSw.1; have hSb := hSw.2)); (try (have hSc := hSb.1; have hSd := hSb.2)); go_simp; with_reducible rfl
  · go_simp; with_reducible rfl
  refine keepTake (i := 3) (v := ?_) (a' := ?_) rfl (by kernel_rfl) (by kernel_rfl) (by kernel_rfl) (by kernel_rfl) (by kernel_rfl) (by kernel_rfl) (fun w hSw => ?_) hS ?_ ?_
  rotate_left 2
  · (try dsimp only at hSw); (try (have hSa := hSw.1; have hSb := hSw.2)); (try (have hSc := hSb.1; have hSd := hSb.2)); go_simp; with_reducible rfl
  · go_simp; with_reducible rfl
  refine keepTake (i := 4) (v := ?_) (a' := ?_) rfl (by kernel_rfl) (by kernel_rfl) (by kernel_rfl) (by kernel_rfl) (by kernel_rfl) (by kernel_rfl) (fun w hSw => ?_) hS ?_ ?_
  rotate_left 2
  · (try dsimp only at hSw); (try (have hSa := hSw.1; have hSb := hSw.2)); (try (have hSc := hSb.1; have hSd := hSb.2)); go_simp; with_reducible rfl
  · go_simp; with_reducible rfl
  refine keepReady (rs := [5]) (by kernel_rfl) (by simp) ?_
  refine AllK.cons rfl (fun K hK => ?_) AllK.nil
  go_simp
  have g1 : (A.alloc (.cells #[.string ⟨rec.toArray⟩] 9)).drew.heap[A.heap.size]? = some (.cells #[str rec] 9 (0, 0)) := heap_alloc_new A _
  have f1 : Fr [] A (A.alloc (.cells #[.string ⟨rec.toArray⟩] 9)).drew := ((Fr.refl [] A).alloc _).drew
  have S1 := h.fr0 f1
  have hS : (A.alloc (.cells #[.string ⟨rec.toArray⟩] 9)).drew.cell? ⟨jl.b, 3, none⟩ = some (str j.stream) := S1.J.c3
  try dsimp only
  refine hK _ _ (fun _ => hS) ?_
  clear hK K
  try simp only [Act.put, List.setIfInBounds_toArray, List.set_cons_zero, List.set_cons_succ]
  generalize (A.alloc (.cells #[.string ⟨rec.toArray⟩] 9)).drew = w1 at g1 f1 S1 hS ⊢
  refine keepReady (rs := [6]) (by kernel_rfl) (by simp) ?_
  refine AllK.cons rfl (fun K hK => ?_) AllK.nil
  go_simp
  refine (jStream_calls (one_row w1 rec _ g1 rfl) (by simp) (by simp [J.stream, J.piece, le_length]; omega)).mono ?_
  rintro e w2 ⟨rfl, f2⟩
  have S2 := S1.fr0 f2
  have hS := S2.J.c3
  try dsimp only
  refine hK _ _ (fun _ => hS) ?_
  clear hK K
  try simp only [Act.put, List.setIfInBounds_toArray, List.set_cons_zero, List.set_cons_succ]
  have hpc : J.stream [rec] = J.piece rec := by simp [J.stream]
  rw [hpc]
  have hpl : (J.piece rec).length = 2 + rec.length := by unfold J.piece; rw [List.length_append, le_length]
  refine keepReady (rs := [7]) (by kernel_rfl) (by simp) ?_
  refine AllK.cons rfl (fun K hK => ?_) AllK.nil
  refine step_cat rfl _ _ _ _ rfl j.stream (J.piece rec) rfl rfl (by omega) ?_
  try dsimp only
  refine hK _ _ (fun _ => hS) ?_
  clear hK K
  try simp only [Act.put, List.setIfInBounds_toArray, List.set_cons_zero, List.set_cons_succ]
  refine keepReady (rs := [8]) (by kernel_rfl) (by simp) ?_
  refine AllK.cons rfl (fun K hK => ?_) AllK.nil
  go_simp
  try dsimp only
  refine hK _ _ (fun h => absurd h (by decide)) ?_
  clear hK K
  try simp only [Act.put, List.setIfInBounds_toArray, List.set_cons_zero, List.set_cons_succ]
  refine keepDone (by kernel_rfl) ?_ _
  obtain ⟨s', hs'⟩ : ∃ s', j.stream ++ J.piece rec = s' := ⟨_, rfl⟩
  rw [hs']
  have hs5 : s'.length ≤ 500000 := by rw [← hs', List.length_append]; omega
  have HSS := Lib.hid hs'
  clear hpc hs' hS
  go_wp2_with fail
  have g3 := heap_alloc_new w2 (.cells #[str rec] 9)
  have f3 : Fr [] w2 (w2.alloc (.cells #[str rec] 9)) := (Fr.refl [] w2).alloc _
  have S3 := S2.fr0 f3
  generalize w2.alloc (.cells #[str rec] 9) = w3 at g3 f3 S3 ⊢
  have F3 := (f1.trans f2).trans f3
  refine (jCheck_calls S3.J s' (by omega) (one_row w3 rec _ g3 rfl) (by simp)).mono ?_
  rintro e w4 ⟨rfl, rfl⟩
  by_cases hc0 : j.check s' [rec] = 0
  · have k0 : (j.check s' [rec] != 0) = false := by simp [hc0]
    obtain ⟨rv, c4, ho⟩ := S3.J.c4
    obtain ⟨up, uc, rfl⟩ := ownsRow_len ho
    have c2 := S3.J.c2
    have c3' := S3.J.c3
    have HC0 := Lib.hid hc0
    rw [hc0]
    go_wp2_with fail
    refine wp_region_keep (fun w' => w'.cell? ⟨jl.b, 2, none⟩ = some (.int .i64 j.bank) ∧ w'.cell? ⟨jl.b, 3, none⟩ = some (str j.stream) ∧ w'.cell? ⟨jl.b, 4, none⟩ = some (.slice up j.recs.length uc)) 19 (by kernel_rfl) ?_
    have hS : w4.drew.cell? ⟨jl.b, 2, none⟩ = some (.int .i64 j.bank) ∧ w4.drew.cell? ⟨jl.b, 3, none⟩ = some (str j.stream) ∧ w4.drew.cell? ⟨jl.b, 4, none⟩ = some (.slice up j.recs.length uc) := ⟨c2, c3', c4⟩
    refine keepTake (i := 0) (v := ?_) (a' := ?_) rfl (by kernel_rfl) (by kernel_rfl) (by kernel_rfl) (by kernel_rfl) (by kernel_rfl) (by kernel_rfl) (fun w hSw => ?_) hS ?_ ?_
    rotate_left 2
    · (try dsimp only at hSw); (try (have hSa := hSw.1; have hSb := hSw.2)); (try (have hSc := hSb.1; have hSd := hSb.2)); go_simp; with_reducible rfl
    · go_simp; with_reducible rfl
    refine keepTake (i := 1) (v := ?_) (a' := ?_) rfl (by kernel_rfl) (by kernel_rfl) (by kernel_rfl) (by kernel_rfl) (by kernel_rfl) (by kernel_rfl) (fun w hSw => ?_) hS ?_ ?_
    rotate_left 2
    · (try dsimp only at hSw); (try (have hSa := hSw.1; have hSb := hSw.2)); (try (have hSc := hSb.1; have hSd := hSb.2)); go_simp; with_reducible rfl
    · go_simp; with_reducible rfl
    refine keepTake (i := 2) (v := ?_) (a' := ?_) rfl (by kernel_rfl) (by kernel_rfl) (by kernel_rfl) (by kernel_rfl) (by kernel_rfl) (by kernel_rfl) (fun w hSw => ?_) hS ?_ ?_
    rotate_left 2
    · (try dsimp only at hSw); (try (have hSa := hSw.1; have hSb := hSw.2)); (try (have hSc := hSb.1; have hSd := hSb.2)); go_simp; with_reducible rfl
    · go_simp; with_reducible rfl
    refine keepTake (i := 3) (v := ?_) (a' := ?_) rfl (by kernel_rfl) (by kernel_rfl) (by kernel_rfl) (by kernel_rfl) (by kernel_rfl) (by kernel_rfl) (fun w hSw => ?_) hS ?_ ?_
    rotate_left 2
    · (try dsimp only at hSw); (try (have hSa := hSw.1; have hSb := hSw.2)); (try (have hSc := hSb.1; have hSd := hSb.2)); go_simp; with_reducible rfl
    · go_simp; with_reducible rfl
    refine keepTake (i := 4) (v := ?_) (a' := ?_) rfl (by kernel_rfl) (by kernel_rfl) (by kernel_rfl) (by kernel_rfl) (by kernel_rfl) (by kernel_rfl) (fun w hSw => ?_) hS ?_ ?_
    rotate_left 2
    · (try dsimp only at hSw); (try (have hSa := hSw.1; have hSb := hSw.2)); (try (have hSc := hSb.1; have hSd := hSb.2)); go_simp; with_reducible rfl
    · go_simp; with_reducible rfl
    refine keepTake (i := 5) (v := ?_) (a' := ?_) rfl (by kernel_rfl) (by kernel_rfl) (by kernel_rfl) (by kernel_rfl) (by kernel_rfl) (by kernel_rfl) (fun w hSw => ?_) hS ?_ ?_
    rotate_left 2
    · (try dsimp only at hSw); (try (have hSa := hSw.1; have hSb := hSw.2)); (try (have hSc := hSb.1; have hSd := hSb.2)); go_simp; with_reducible rfl
    · go_simp; with_reducible rfl
    refine keepTake (i := 6) (v := ?_) (a' := ?_) rfl (by kernel_rfl) (by kernel_rfl) (by kernel_rfl) (by kernel_rfl) (by kernel_rfl) (by kernel_rfl) (fun w hSw => ?_) hS ?_ ?_
    rotate_left 2
    · (try dsimp only at hSw); (try (have hSa := hSw.1; have hSb := hSw.2)); (try (have hSc := hSb.1; have hSd := hSb.2)); go_simp; with_reducible rfl
    · go_simp; with_reducible rfl
    refine keepTake (i := 7) (v := ?_) (a' := ?_) rfl (by kernel_rfl) (by kernel_rfl) (by kernel_rfl) (by kernel_rfl) (by kernel_rfl) (by kernel_rfl) (fun w hSw => ?_) hS ?_ ?_
    rotate_left 2
    · (try dsimp only at hSw); (try (have hSa := hSw.1; have hSb := hSw.2)); (try (have hSc := hSb.1; have hSd := hSb.2)); go_simp; with_reducible rfl
    · go_simp; with_reducible rfl
    refine keepTake (i := 8) (v := ?_) (a' := ?_) rfl (by kernel_rfl) (by kernel_rfl) (by kernel_rfl) (by kernel_rfl) (by kernel_rfl) (by kernel_rfl) (fun w hSw => ?_) hS ?_ ?_
    rotate_left 2
    · (try dsimp only at hSw); (try (have hSa := hSw.1; have hSb := hSw.2)); (try (have hSc := hSb.1; have hSd := hSb.2)); go_simp; with_reducible rfl
    · go_simp; with_reducible rfl
    refine keepTake (i := 9) (v := ?_) (a' := ?_) rfl (by kernel_rfl) (by kernel_rfl) (by kernel_rfl) (by kernel_rfl) (by kernel_rfl) (by kernel_rfl) (fun w hSw => ?_) hS ?_ ?_
    rotate_left 2
    · (try dsimp only at hSw); (try (have hSa := hSw.1; have hSb := hSw.2)); (try (have hSc := hSb.1; have hSd := hSb.2)); go_simp; with_reducible rfl
    · go_simp; with_reducible rfl
    refine keepTake (i := 11) (v := ?_) (a' := ?_) rfl (by kernel_rfl) (by kernel_rfl) (by kernel_rfl) (by kernel_rfl) (by kernel_rfl) (by kernel_rfl) (fun w hSw => ?_) hS ?_ ?_
    rotate_left 2
    · (try dsimp only at hSw); (try (have hSa := hSw.1; have hSb := hSw.2)); (try (have hSc := hSb.1; have hSd := hSb.2)); go_simp; with_reducible rfl
    · go_simp; with_reducible rfl
    refine keepTake (i := 14) (v := ?_) (a' := ?_) rfl (by kernel_rfl) (by kernel_rfl) (by kernel_rfl) (by kernel_rfl) (by kernel_rfl) (by kernel_rfl) (fun w hSw => ?_) hS ?_ ?_
    rotate_left 2
    · (try dsimp only at hSw); (try (have hSa := hSw.1; have hSb := hSw.2)); (try (have hSc := hSb.1; have hSd := hSb.2)); go_simp; with_reducible rfl
    · go_simp; with_reducible rfl
    refine keepTake (i := 15) (v := ?_) (a' := ?_) rfl (by kernel_rfl) (by kernel_rfl) (by kernel_rfl) (by kernel_rfl) (by kernel_rfl) (by kernel_rfl) (fun w hSw => ?_) hS ?_ ?_
    rotate_left 2
    · (try dsimp only at hSw); (try (have hSa := hSw.1; have hSb := hSw.2)); (try (have hSc := hSb.1; have hSd := hSb.2)); go_simp; with_reducible rfl
    · go_simp; with_reducible rfl
    refine keepTake (i := 16) (v := ?_) (a' := ?_) rfl (by kernel_rfl) (by kernel_rfl) (by kernel_rfl) (by kernel_rfl) (by kernel_rfl) (by kernel_rfl) (fun w hSw => ?_) hS ?_ ?_
    rotate_left 2
    · (try dsimp only at hSw); (try (have hSa := hSw.1; have hSb := hSw.2)); (try (have hSc := hSb.1; have hSd := hSb.2)); go_simp; with_reducible rfl
    · go_simp; with_reducible rfl
    refine keepTake (i := 17) (v := ?_) (a' := ?_) rfl (by kernel_rfl) (by kernel_rfl) (by kernel_rfl) (by kernel_rfl) (by kernel_rfl) (by kernel_rfl) (fun w hSw => ?_) hS ?_ ?_
    rotate_left 2
    · (try dsimp only at hSw); (try (have hSa := hSw.1; have hSb := hSw.2)); (try (have hSc := hSb.1; have hSd := hSb.2)); go_simp; with_reducible rfl
    · go_simp; with_reducible rfl
    refine keepTake (i := 18) (v := ?_) (a' := ?_) rfl (by kernel_rfl) (by kernel_rfl) (by kernel_rfl) (by kernel_rfl) (by kernel_rfl) (by kernel_rfl) (fun w hSw => ?_) hS ?_ ?_
    rotate_left 2
    · (try dsimp only at hSw); (try (have hSa := hSw.1; have hSb := hSw.2)); (try (have hSc := hSb.1; have hSd := hSb.2)); go_simp; with_reducible rfl
    · go_simp; with_reducible rfl
    refine keepReady (rs := [10, 12]) (by kernel_rfl) (by simp) ?_
    refine AllK.cons rfl (fun K hK => ?_) (AllK.cons rfl (fun K hK => ?_) AllK.nil)
    · go_simp
      refine (clone_calls (w := w4.drew) (ownsRow_low ho (Nat.zero_le _)) (by omega)).mono ?_
      rintro e w5 ⟨v5, rfl, hrow5, f5⟩
      have f5' : Fr [] w4 w5 := (Fr.refl [] w4).drew.trans f5
      have S5 := S3.fr0 f5'
      have C45 : w5.cell? ⟨jl.b, 4, none⟩ = some (.slice up j.recs.length uc) := (World.cell?_of_block (f5'.block jl.b (S3.lt.2.2 _ (by simp [JL.all])) (by simp))).trans c4
      have hS := And.intro S5.J.c2 (And.intro S5.J.c3 C45)
      try dsimp only
      refine hK _ _ (fun _ => hS) ?_
      clear hK K
      try simp only [Act.put, List.setIfInBounds_toArray, List.set_cons_zero, List.set_cons_succ]
      refine keepReady (rs := [12]) (by kernel_rfl) (by simp) ?_
      refine AllK.cons rfl (fun K hK => ?_) AllK.nil
      go_simp
      have g6 := heap_alloc_new w5 (.cells #[str rec] 9)
      have h6 : Fr [] w5 (w5.alloc (.cells #[str rec] 9)) := (Fr.refl [] w5).alloc _
      have S5a := S5.fr0 h6
      have C45a : (w5.alloc (.cells #[str rec] 9)).cell? ⟨jl.b, 4, none⟩ = some (.slice up j.recs.length uc) := (World.cell?_of_block (h6.block jl.b (S5.lt.2.2 _ (by simp [JL.all])) (by simp))).trans C45
      have R5a := ownsRow_fr' hrow5 h6 (by simp)
      have hS := And.intro S5a.J.c2 (And.intro S5a.J.c3 C45a)
      try dsimp only
      refine hK _ _ (fun _ => hS) ?_
      clear hK K
      try simp only [Act.put, List.setIfInBounds_toArray, List.set_cons_zero, List.set_cons_succ]
      have FAW : Fr [] A (w5.alloc (.cells #[str rec] 9)) := (F3.trans f5').trans h6
      have hbw : w4.heap.size ≤ (w5.alloc (.cells #[str rec] 9)).heap.size := Nat.le_trans f5'.size h6.size
      have hAw : A.heap.size ≤ w4.heap.size := F3.size
      generalize w5.alloc (.cells #[str rec] 9) = wc at g6 h6 S5a C45a R5a hS FAW hbw ⊢
      have C46 : ∀ {T : List Nat} {w6 : World}, Fr T wc w6 → (∀ k ∈ T, A.heap.size ≤ k) → w6.cell? ⟨jl.b, 4, none⟩ = some (.slice up j.recs.length uc) := fun f hT => (World.cell?_of_block (f.block jl.b (S5a.lt.2.2 _ (by simp [JL.all])) (fun e => by have := hT _ e; have := h.lt.2.2 jl.b (by simp [JL.all]); omega))).trans C45a
      refine keepReady (rs := [13]) (by kernel_rfl) (by simp) ?_
      refine AllK.cons rfl (fun K hK => ?_) AllK.nil
      refine step_append_at rfl _ _ 30 rfl w4.heap.size 9 _ 16 Tryz.underlying30 strInfo rfl (by decide) v5 j.recs.length (strs j.recs) rfl R5a w5.heap.size 1 [str rec] rfl _ _ _ g6 (by intro j u hj; simpa using hj) (by simp [Value.oneCell']) (by simp; omega) hbw ?_
      intro v6 w6 hown6 hgr6 hat6
      have hk6 : ∀ k ∈ v5.ownBlock.toList, A.heap.size ≤ k := fun k hk => Nat.le_trans hAw (R5a.lt k (by simpa [Option.mem_toList, eq_comm] using hk)).1
      have f6 : Fr v5.ownBlock.toList wc w6 := (Fr.refl _ _).grown hgr6 (fun k hk => .inl (by simp [hk]))
      have S6 := S5a.frS f6 (h.new hk6)
      have FA6 : Fr [] A w6 := FAW.then f6 (fun k hk => .inr (hk6 k hk))
      have hrow6 : w6.ownsRow 0 9 1 v6 (j.recs ++ [rec]).length (strs (j.recs ++ [rec])) := ownsRow_low (by simpa [strs] using hown6) (Nat.zero_le _)
      have hrn6 : ∀ k, v6.ownBlock = some k → w.heap.size ≤ k ∧ k ∉ L.all ∧ k ∉ pl.all ∧ k ≠ jl.b := fun k hk => by
        have h1 := (hown6.lt k hk).1
        have h2 := h.new (S := [k]) (fun x hx => by have e' : x = k := (by simpa using hx); omega) k (by simp)
        exact ⟨h2.1, h2.2.1, h2.2.2.1, fun e => h2.2.2.2 (by simp [JL.all, e])⟩
      have hwr := jWrite_calls S6 hcl j.bank j.stream.length s' few.2.2.1 hs5 (by omega) hrow6 (by simp; omega) hrn6
      obtain ⟨vp6, vc6, rfl⟩ := ownsRow_len hrow6
      have hS := And.intro S6.J.c2 (And.intro S6.J.c3 (C46 f6 hk6))
      try dsimp only
      refine hK _ _ (fun _ => hS) ?_
      clear hK K
      try simp only [Act.put, List.setIfInBounds_toArray, List.set_cons_zero, List.set_cons_succ]
      generalize hr : jgo (0, J.head j.bank s'.length (j.recs ++ [rec]).length) ⟨d, p, []⟩ (J.writes j.half j.bank s' j.stream.length) = r at hwr
      have HR := Lib.hid hr
      clear hr
      refine keepReady (rs := [19]) (by kernel_rfl) (by simp) ?_
      refine AllK.cons rfl (fun K hK => ?_) AllK.nil
      go_simp
      have e9 : (j.recs ++ [rec]).length = j.recs.length + 1 := by simp
      rw [e9] at hwr
      refine hwr.mono ?_
      rintro e wz ⟨jl', rfl, hjb, Sz, Fz⟩
      try dsimp only
      refine hK _ _ (fun h => absurd h (by decide)) ?_
      clear hK K
      try simp only [Act.put, List.setIfInBounds_toArray, List.set_cons_zero, List.set_cons_succ]
      refine keepReady (rs := [20]) (by kernel_rfl) (by simp) ?_
      refine AllK.cons rfl (fun K hK => ?_) AllK.nil
      go_simp
      try dsimp only
      refine hK _ _ (fun h => absurd h (by decide)) ?_
      clear hK K
      try simp only [Act.put, List.setIfInBounds_toArray, List.set_cons_zero, List.set_cons_succ]
      refine keepDone (by kernel_rfl) ?_ _
      have FAz : Fr (jall L pl jl) A wz := FA6.any.trans Fz
      have hpost : ∀ q, q = (if r.1 = 0 then (j.recs.length : Int) else 0) → ApPost w A L pl d p jl j rec (.returned (.tuple #[.int .i64 q, .int .i64 r.1])) wz := fun q hq => .inr ⟨by rw [HSS.out]; exact HC0.out, r, jl', by rw [HSS.out]; exact HR.out.symm, by rw [hq], hjb, by rw [HSS.out]; exact Sz, FAz⟩
      clear hwr Sz Fz
      by_cases hr0 : r.1 = 0
      · have hp := hpost _ (if_pos hr0).symm
        have k1 : (r.1 != 0) = false := by simp [hr0]
        rw [hr0] at hp
        go_wp2_with fail
        go_ret2
        exact hp
      · have hp := hpost _ (if_neg hr0).symm
        have k1 : (r.1 != 0) = true := by simp [hr0]
        go_wp2_with fail
        go_ret2
        exact hp
    · go_simp
      have g6 : (w4.alloc (.cells #[str rec] 9)).drew.heap[w4.heap.size]? = some (.cells #[str rec] 9 (0, 0)) := heap_alloc_new w4 _
      have h6 : Fr [] w4 (w4.alloc (.cells #[str rec] 9)).drew := ((Fr.refl [] w4).alloc _).drew
      have S5 := S3.fr0 h6
      have C45 : (w4.alloc (.cells #[str rec] 9)).drew.cell? ⟨jl.b, 4, none⟩ = some (.slice up j.recs.length uc) := (World.cell?_of_block (h6.block jl.b (S3.lt.2.2 _ (by simp [JL.all])) (by simp))).trans c4
      have ho5 := ownsRow_fr' ho h6 (by simp)
      have hS := And.intro S5.J.c2 (And.intro S5.J.c3 C45)
      try dsimp only
      refine hK _ _ (fun _ => hS) ?_
      clear hK K
      try simp only [Act.put, List.setIfInBounds_toArray, List.set_cons_zero, List.set_cons_succ]
      have F5 := F3.trans h6
      generalize (w4.alloc (.cells #[str rec] 9)).drew = w5 at g6 h6 S5 C45 ho5 hS F5 ⊢
      refine keepReady (rs := [10]) (by kernel_rfl) (by simp) ?_
      refine AllK.cons rfl (fun K hK => ?_) AllK.nil
      go_simp
      refine (clone_calls (w := w5) (ownsRow_low ho5 (Nat.zero_le _)) (by omega)).mono ?_
      rintro e wc ⟨v5, rfl, hrow5, f5⟩
      have S5a := S5.fr0 f5
      have C45a : wc.cell? ⟨jl.b, 4, none⟩ = some (.slice up j.recs.length uc) := (World.cell?_of_block (f5.block jl.b (S5.lt.2.2 _ (by simp [JL.all])) (by simp))).trans C45
      have hS := And.intro S5a.J.c2 (And.intro S5a.J.c3 C45a)
      try dsimp only
      refine hK _ _ (fun _ => hS) ?_
      clear hK K
      try simp only [Act.put, List.setIfInBounds_toArray, List.set_cons_zero, List.set_cons_succ]
      have FAW : Fr [] A wc := F5.trans f5
      have g6c := f5.heap g6 (by simp)
      have hAw : A.heap.size ≤ w5.heap.size := F5.size
      have C46 : ∀ {T : List Nat} {w6 : World}, Fr T wc w6 → (∀ k ∈ T, A.heap.size ≤ k) → w6.cell? ⟨jl.b, 4, none⟩ = some (.slice up j.recs.length uc) := fun f hT => (World.cell?_of_block (f.block jl.b (S5a.lt.2.2 _ (by simp [JL.all])) (fun e => by have := hT _ e; have := h.lt.2.2 jl.b (by simp [JL.all]); omega))).trans C45a
      refine keepReady (rs := [13]) (by kernel_rfl) (by simp) ?_
      refine AllK.cons rfl (fun K hK => ?_) AllK.nil
      refine step_append_at rfl _ _ 30 rfl w5.heap.size 9 _ 16 Tryz.underlying30 strInfo rfl (by decide) v5 j.recs.length (strs j.recs) rfl hrow5 w4.heap.size 1 [str rec] rfl _ _ _ g6c (by intro j u hj; simpa using hj) (by simp [Value.oneCell']) (by simp; omega) f5.size ?_
      intro v6 w6 hown6 hgr6 hat6
      have hk6 : ∀ k ∈ v5.ownBlock.toList, A.heap.size ≤ k := fun k hk => Nat.le_trans hAw (hrow5.lt k (by simpa [Option.mem_toList, eq_comm] using hk)).1
      have f6 : Fr v5.ownBlock.toList wc w6 := (Fr.refl _ _).grown hgr6 (fun k hk => .inl (by simp [hk]))
      have S6 := S5a.frS f6 (h.new hk6)
      have FA6 : Fr [] A w6 := FAW.then f6 (fun k hk => .inr (hk6 k hk))
      have hrow6 : w6.ownsRow 0 9 1 v6 (j.recs ++ [rec]).length (strs (j.recs ++ [rec])) := ownsRow_low (by simpa [strs] using hown6) (Nat.zero_le _)
      have hrn6 : ∀ k, v6.ownBlock = some k → w.heap.size ≤ k ∧ k ∉ L.all ∧ k ∉ pl.all ∧ k ≠ jl.b := fun k hk => by
        have h1 := (hown6.lt k hk).1
        have h2 := h.new (S := [k]) (fun x hx => by have e' : x = k := (by simpa using hx); omega) k (by simp)
        exact ⟨h2.1, h2.2.1, h2.2.2.1, fun e => h2.2.2.2 (by simp [JL.all, e])⟩
      have hwr := jWrite_calls S6 hcl j.bank j.stream.length s' few.2.2.1 hs5 (by omega) hrow6 (by simp; omega) hrn6
      obtain ⟨vp6, vc6, rfl⟩ := ownsRow_len hrow6
      have hS := And.intro S6.J.c2 (And.intro S6.J.c3 (C46 f6 hk6))
      try dsimp only
      refine hK _ _ (fun _ => hS) ?_
      clear hK K
      try simp only [Act.put, List.setIfInBounds_toArray, List.set_cons_zero, List.set_cons_succ]
      generalize hr : jgo (0, J.head j.bank s'.length (j.recs ++ [rec]).length) ⟨d, p, []⟩ (J.writes j.half j.bank s' j.stream.length) = r at hwr
      have HR := Lib.hid hr
      clear hr
      refine keepReady (rs := [19]) (by kernel_rfl) (by simp) ?_
      refine AllK.cons rfl (fun K hK => ?_) AllK.nil
      go_simp
      have e9 : (j.recs ++ [rec]).length = j.recs.length + 1 := by simp
      rw [e9] at hwr
      refine hwr.mono ?_
      rintro e wz ⟨jl', rfl, hjb, Sz, Fz⟩
      try dsimp only
      refine hK _ _ (fun h => absurd h (by decide)) ?_
      clear hK K
      try simp only [Act.put, List.setIfInBounds_toArray, List.set_cons_zero, List.set_cons_succ]
      refine keepReady (rs := [20]) (by kernel_rfl) (by simp) ?_
      refine AllK.cons rfl (fun K hK => ?_) AllK.nil
      go_simp
      try dsimp only
      refine hK _ _ (fun h => absurd h (by decide)) ?_
      clear hK K
      try simp only [Act.put, List.setIfInBounds_toArray, List.set_cons_zero, List.set_cons_succ]
      refine keepDone (by kernel_rfl) ?_ _
      have FAz : Fr (jall L pl jl) A wz := FA6.any.trans Fz
      have hpost : ∀ q, q = (if r.1 = 0 then (j.recs.length : Int) else 0) → ApPost w A L pl d p jl j rec (.returned (.tuple #[.int .i64 q, .int .i64 r.1])) wz := fun q hq => .inr ⟨by rw [HSS.out]; exact HC0.out, r, jl', by rw [HSS.out]; exact HR.out.symm, by rw [hq], hjb, by rw [HSS.out]; exact Sz, FAz⟩
      clear hwr Sz Fz
      by_cases hr0 : r.1 = 0
      · have hp := hpost _ (if_pos hr0).symm
        have k1 : (r.1 != 0) = false := by simp [hr0]
        rw [hr0] at hp
        go_wp2_with fail
        go_ret2
        exact hp
      · have hp := hpost _ (if_neg hr0).symm
        have k1 : (r.1 != 0) = true := by simp [hr0]
        go_wp2_with fail
        go_ret2
        exact hp
  · have k0 : (j.check s' [rec] != 0) = true := by simp [hc0]
    go_wp2_with fail
    go_ret2
    exact .inl ⟨by rw [HSS.out]; exact hc0, by rw [HSS.out]; rfl, S3, F3⟩
end Late
end
end Go.Proofs.YtcnhlemenpgkbaaGreatDoor
