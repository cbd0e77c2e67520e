/- The journal's Replace. -/
import Derived.Test.YtcnhlemenpgkbaaGreatDoorJW7
namespace Go.Proofs.YtcnhlemenpgkbaaGreatDoor
set_option linter.unusedSimpArgs false
set_option linter.unusedVariables false
set_option linter.unnecessarySimpa false
open Go.RowKit M

section
variable {w A : World} {L : DL} {pl : PL} {d : Disk} {p : M.Pages} {jl : JL} {j : Jrn}

/-- What Replace comes to. -/
def RpPost (w A : World) (L : DL) (pl : PL) (d : Disk) (p : M.Pages) (jl : JL) (j : Jrn) (rs : List Bytes) (e : Ending) (B : World) : Prop :=
  (j.check (J.stream rs) rs ≠ 0 ∧ e = .returned (.int .i64 (j.check (J.stream rs) rs)) ∧ JSt w L pl d p jl j B ∧ Fr [] A B) ∨
  (j.check (J.stream rs) rs = 0 ∧ ∃ r jl', r = jgo (0, J.head (1 - j.bank) (J.stream rs).length rs.length) ⟨d, p, []⟩ (J.writes j.half (1 - j.bank) (J.stream rs) 0) ∧
    e = .returned (.int .i64 r.1) ∧ jl'.b = jl.b ∧
    JSt w L pl r.2.1 r.2.2 jl' (if r.1 = 0 then { j with bank := 1 - j.bank, stream := J.stream rs, recs := rs, closed := false } else { j with closed := true }) B ∧ Fr (jall L pl jl) A B)

namespace Late
set_option maxRecDepth 100000 in
set_option maxHeartbeats 1000000 in
theorem jReplace_calls (h : JSt w L pl d p jl j A) (hcl : j.closed = false) {v : Value} {rs : List Bytes} (hv : A.ownsRow 0 9 1 v rs.length (strs rs)) (hn : rs.length ≤ 1000) (hst : (J.stream rs).length ≤ 500000) :
    Calls Tryz.prog 18 #[Jp jl, v] A fun e B => RpPost w A L pl d p jl j rs e B := by
  have few := h.J.few
  obtain ⟨vp, vc, rfl⟩ := ownsRow_len hv
  have h1 := jStream_calls hv (by omega) (by omega)
  go_enter Tryz.func18, Tryz.ntmps18
  go_wp2_with fail
  refine h1.mono ?_
  rintro e w1 ⟨rfl, f1⟩
  have S1 := h.fr0 f1
  obtain ⟨s', hs'⟩ : ∃ s', J.stream rs = s' := ⟨_, rfl⟩
  rw [hs'] at hst ⊢
  have HSS := Lib.hid hs'
  clear h1 hs'
  have hv1 := ownsRow_fr' hv f1 (by simp)
  go_wp2_with fail
  refine (jCheck_calls S1.J s' (by omega) hv1 (by omega)).mono ?_
  rintro e w4 ⟨rfl, rfl⟩
  by_cases hc0 : j.check s' rs = 0
  · have k0 : (j.check s' rs != 0) = false := by simp [hc0]
    have c2 := S1.J.c2
    have HC0 := Lib.hid hc0
    rw [hc0]
    have hb1 : (j.bank : Int) ≤ 1 := by omega
    go_wp2_with fail
    refine wp_region_keep (fun w' => w'.cell? ⟨jl.b, 2, none⟩ = some (.int .i64 j.bank)) 9 (by kernel_rfl) ?_
    have hS : w4.drew.cell? ⟨jl.b, 2, none⟩ = some (.int .i64 j.bank) := c2
    refine keepTake (i := 0) (v := ?_) (a' := ?_) rfl (by kernel_rfl) (by kernel_rfl) (by kernel_rfl) (by kernel_rfl) (by kernel_rfl) (by kernel_rfl) (fun w hSw => ?_) hS ?_ ?_
    rotate_left 2
    · (try dsimp only at hSw); (try (have hSa := hSw.1; have hSb := hSw.2)); (try (have hSc := hSb.1; have hSd := hSb.2)); go_simp; with_reducible rfl
    · go_simp; with_reducible rfl
    refine keepTake (i := 1) (v := ?_) (a' := ?_) rfl (by kernel_rfl) (by kernel_rfl) (by kernel_rfl) (by kernel_rfl) (by kernel_rfl) (by kernel_rfl) (fun w hSw => ?_) hS ?_ ?_
    rotate_left 2
    · (try dsimp only at hSw); (try (have hSa := hSw.1; have hSb := hSw.2)); (try (have hSc := hSb.1; have hSd := hSb.2)); go_simp; with_reducible rfl
    · go_simp; with_reducible rfl
    refine keepTake (i := 2) (v := ?_) (a' := ?_) rfl (by kernel_rfl) (by kernel_rfl) (by kernel_rfl) (by kernel_rfl) (by kernel_rfl) (by kernel_rfl) (fun w hSw => ?_) hS ?_ ?_
    rotate_left 2
    · (try dsimp only at hSw); (try (have hSa := hSw.1; have hSb := hSw.2)); (try (have hSc := hSb.1; have hSd := hSb.2)); go_simp; with_reducible rfl
    · go_simp; with_reducible rfl
    refine keepTake (i := 3) (v := ?_) (a' := ?_) rfl (by kernel_rfl) (by kernel_rfl) (by kernel_rfl) (by kernel_rfl) (by kernel_rfl) (by kernel_rfl) (fun w hSw => ?_) hS ?_ ?_
    rotate_left 2
    · (try dsimp only at hSw); (try (have hSa := hSw.1; have hSb := hSw.2)); (try (have hSc := hSb.1; have hSd := hSb.2)); go_simp; with_reducible rfl
    · go_simp; with_reducible rfl
    refine keepTake (i := 4) (v := ?_) (a' := ?_) rfl (by kernel_rfl) (by kernel_rfl) (by kernel_rfl) (by kernel_rfl) (by kernel_rfl) (by kernel_rfl) (fun w hSw => ?_) hS ?_ ?_
    rotate_left 2
    · (try dsimp only at hSw); (try (have hSa := hSw.1; have hSb := hSw.2)); (try (have hSc := hSb.1; have hSd := hSb.2)); go_simp; with_reducible rfl
    · go_simp; with_reducible rfl
    refine keepTake (i := 5) (v := ?_) (a' := ?_) rfl (by kernel_rfl) (by kernel_rfl) (by kernel_rfl) (by kernel_rfl) (by kernel_rfl) (by kernel_rfl) (fun w hSw => ?_) hS ?_ ?_
    rotate_left 2
    · (try dsimp only at hSw); (try (have hSa := hSw.1; have hSb := hSw.2)); (try (have hSc := hSb.1; have hSd := hSb.2)); go_simp; with_reducible rfl
    · go_simp; with_reducible rfl
    refine keepTake (i := 6) (v := ?_) (a' := ?_) rfl (by kernel_rfl) (by kernel_rfl) (by kernel_rfl) (by kernel_rfl) (by kernel_rfl) (by kernel_rfl) (fun w hSw => ?_) hS ?_ ?_
    rotate_left 2
    · (try dsimp only at hSw); (try (have hSa := hSw.1; have hSb := hSw.2)); (try (have hSc := hSb.1; have hSd := hSb.2)); go_simp; with_reducible rfl
    · go_simp; with_reducible rfl
    refine keepTake (i := 7) (v := ?_) (a' := ?_) rfl (by kernel_rfl) (by kernel_rfl) (by kernel_rfl) (by kernel_rfl) (by kernel_rfl) (by kernel_rfl) (fun w hSw => ?_) hS ?_ ?_
    rotate_left 2
    · (try dsimp only at hSw); (try (have hSa := hSw.1; have hSb := hSw.2)); (try (have hSc := hSb.1; have hSd := hSb.2)); go_simp; with_reducible rfl
    · go_simp; with_reducible rfl
    refine keepReady (rs := [8]) (by kernel_rfl) (by simp) ?_
    refine AllK.cons rfl (fun K hK => ?_) AllK.nil
    go_simp
    refine (clone_calls (w := w4.drew) (ownsRow_low hv1 (Nat.zero_le _)) (by omega)).mono ?_
    rintro e w5 ⟨v5, rfl, hrow5, f5⟩
    have f5' : Fr [] w4 w5 := (Fr.refl [] w4).drew.trans f5
    have S5 := S1.fr0 f5'
    have hS := S5.J.c2
    try dsimp only
    refine hK _ _ (fun _ => hS) ?_
    clear hK K
    try simp only [Act.put, List.setIfInBounds_toArray, List.set_cons_zero, List.set_cons_succ]
    have hAw : A.heap.size ≤ w4.heap.size := f1.size
    have hrn : ∀ k, v5.ownBlock = some k → w.heap.size ≤ k ∧ k ∉ L.all ∧ k ∉ pl.all ∧ k ≠ jl.b := fun k hk => by
      have h1 : w4.heap.size ≤ k := (hrow5.lt k hk).1
      have h2 := h.new (S := [k]) (fun x hx => by have e' : x = k := (by simpa using hx); omega) k (by simp)
      exact ⟨h2.1, h2.2.1, h2.2.2.1, fun e => h2.2.2.2 (by simp [JL.all, e])⟩
    have hwr := jWrite_calls S5 hcl (1 - j.bank) 0 s' (by omega) hst (by omega) (ownsRow_low hrow5 (Nat.zero_le _)) (by omega) hrn
    obtain ⟨vp5, vc5, rfl⟩ := ownsRow_len hrow5
    generalize hr : jgo (0, J.head (1 - j.bank) s'.length rs.length) ⟨d, p, []⟩ (J.writes j.half (1 - j.bank) s' 0) = r at hwr
    have HR := Lib.hid hr
    clear hr
    have hwrap : IntKind.i64.wrap (1 - (j.bank : Int)) = ((1 - j.bank : Nat) : Int) := by rw [IntKind.wrap_i64]; omega
    refine keepReady (rs := [9]) (by kernel_rfl) (by simp) ?_
    refine AllK.cons rfl (fun K hK => ?_) AllK.nil
    go_simp
    refine hwr.mono ?_
    rintro e wz ⟨jl', rfl, hjb, Sz, Fz⟩
    try dsimp only
    refine hK _ _ (fun h => absurd h (by decide)) ?_
    clear hK K
    try simp only [Act.put, List.setIfInBounds_toArray, List.set_cons_zero, List.set_cons_succ]
    refine keepReady (rs := [10]) (by kernel_rfl) (by simp) ?_
    refine AllK.cons rfl (fun K hK => ?_) AllK.nil
    go_simp
    try dsimp only
    refine hK _ _ (fun h => absurd h (by decide)) ?_
    clear hK K
    try simp only [Act.put, List.setIfInBounds_toArray, List.set_cons_zero, List.set_cons_succ]
    refine keepDone (by kernel_rfl) ?_ _
    go_wp2_with fail
    go_ret
    exact .inr ⟨by rw [HSS.out]; exact HC0.out, r, jl', by rw [HSS.out]; exact HR.out.symm, rfl, hjb, by rw [HSS.out]; exact Sz, (f1.trans f5').any.trans Fz⟩
  · have k0 : (j.check s' rs != 0) = true := by simp [hc0]
    go_wp2_with fail
    go_ret
    exact .inl ⟨by rw [HSS.out]; exact hc0, by rw [HSS.out]; rfl, S1, f1⟩
end Late
end
end Go.Proofs.YtcnhlemenpgkbaaGreatDoor
