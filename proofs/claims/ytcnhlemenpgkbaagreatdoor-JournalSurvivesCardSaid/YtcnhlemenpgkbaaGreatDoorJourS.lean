/- Plain law: a step, the mount and the opening behind it. -/
import Derived.Test.YtcnhlemenpgkbaaGreatDoorJW14
namespace Go.Proofs.YtcnhlemenpgkbaaGreatDoor
set_option linter.unusedSimpArgs false
set_option linter.unusedVariables false
set_option linter.unnecessarySimpa false
open M

/-- What lies on the disk behind the mount. -/
structure Back (im2 : List Bytes) (len n half : Nat) (recs after : List Bytes) (code : Int) : Prop where
  len : im2.length = len
  few : 18 ≤ im2.length
  pst : ∀ s ∈ im2, Pst n s
  inv : Inv n (replayed im2)
  lies : ∃ b l, J.Lies (conts (replayed im2)) half b l ∧ ((l = recs ∧ code ≠ 0) ∨ (l = after ∧ (code = 0 ∨ code = 20)))

theorem step_back {w A B : World} {L : DL} {pl : PL} {d : Disk} {p : M.Pages} {jl : JL} {j : Jrn} {after : List Bytes} {code : Int} {im : List Bytes} {t : Nat} (h : StepPost w A L pl d p jl j after code B) (C : Calm d p im t) (H : J.Lies (conts im) j.half j.bank j.recs) (hl : 2 * j.half + 1 ≤ im.length - 17) (ht : t + j.half / 15 + 1 < 256) :
    ∃ (d2 : Disk) (p2 : M.Pages) (jl2 : JL) (j2 : Jrn), JSt w L pl d2 p2 jl2 j2 B ∧ ∀ picks : List Int, ∃ im2 n, d2.mount picks = rest im2 ∧ n ≤ t + j.half / 15 + 1 ∧ Back im2 im.length n j.half j.recs after code := by
  have h18 := C.inv.len
  rcases h with ⟨h1, h2, h3⟩ | ⟨r, jl', b', a, h1, h2, h3, h4, ⟨j', h5⟩, h6⟩
  · refine ⟨d, p, jl, j, h2, fun picks => ⟨im, t, C.mount picks, by omega, rfl, h18, fun s hs => C.inv.mem s hs, by rw [C.inv.replayed_eq]; exact C.inv, ⟨j.bank, j.recs, by rw [C.inv.replayed_eq]; exact H, .inl ⟨rfl, by omega⟩⟩⟩⟩
  · have hj := jgo_law h2 hl h3 ht (J.writes j.half b' (J.stream after) a) 0 [] d p im t (by simp) (by omega) (by simp) (by omega) C rfl (J.Prog.start H _)
    rw [← h1] at hj
    subst h4
    refine ⟨r.2.1, r.2.2, jl', j', h5, fun picks => ?_⟩
    rcases hj with ⟨g1, R, t', g2, g3, g4, g5⟩ | ⟨g1, n, g2, g3⟩
    · have h18' := g2.inv.len
      exact ⟨R, t', g2.mount picks, g4, g3, h18', fun s hs => g2.inv.mem s hs, by rw [g2.inv.replayed_eq]; exact g2.inv, ⟨b', after, by rw [g2.inv.replayed_eq]; exact g5, .inr ⟨rfl, .inl g1⟩⟩⟩
    · obtain ⟨im', k1, k2, k3, k4, k5⟩ := g3 picks
      refine ⟨im', n, k1, g2, k2, by omega, k3, k4, ?_⟩
      rcases k5 with k5 | k5
      · exact ⟨j.bank, j.recs, k5, .inl ⟨rfl, by rw [g1]; decide⟩⟩
      · exact ⟨b', after, k5, .inr ⟨rfl, .inr g1⟩⟩
theorem Calm.setTrip {d : Disk} {p : M.Pages} {im : List Bytes} {t : Nat} (C : Calm d p im t) (n : Int) : Calm (d.setTrip n) p im t := ⟨C.pg, C.on, C.inv, C.num, C.open_⟩

section
variable {w A B : World} {L : DL} {pl : PL} {d : Disk} {p : M.Pages} {jl : JL} {j : Jrn}
theorem JSt.trip (h : JSt w L pl d p jl j A) (n : Int) (hn : n ≤ 9223372036854775807) : Calls Tryz.prog 6 #[Dp L, .int .i64 n] A fun e B => e = .returned (.tuple #[]) ∧ JSt w L pl (d.setTrip n) p jl j B ∧ Fr L.all A B := by
  refine (dTrip_calls h.D n hn).mono ?_
  rintro e B ⟨rfl, hD, f⟩
  have f' : Fr L.all A B := f.mono (by simp [DL.all])
  exact ⟨rfl, ⟨hD, h.P.fr f' (fun k hk => (h.nP k hk).2), h.J.fr f' (fun k hk => (h.nJ k hk).2.1), h.fr.then f' (fun k hk => .inr (h.nL k hk)), h.nL, h.nP, h.nJ⟩, f'⟩
theorem JSt.mount (h : JSt w L pl d p jl j A) {N : Nat → Prop} {pv : Value} {picks : List Int} (hp : IntsAt N A pv picks) (hN : ∀ k ∈ L.all, ¬ N k) : Calls Tryz.prog 8 #[Dp L, pv] A fun e B => e = .returned (.tuple #[]) ∧ JSt w L pl (d.mount picks) p jl j B ∧ Fr L.all A B := by
  refine (dMount_calls h.D N pv picks hp hN).mono ?_
  rintro e B ⟨rfl, hD, f⟩
  exact ⟨rfl, ⟨hD, h.P.fr f (fun k hk => (h.nP k hk).2), h.J.fr f (fun k hk => (h.nJ k hk).2.1), h.fr.then f (fun k hk => .inr (h.nL k hk)), h.nL, h.nP, h.nJ⟩, f⟩
end
end Go.Proofs.YtcnhlemenpgkbaaGreatDoor
/- Plain law: batches on a disk at rest go through. -/
namespace Go.Proofs.YtcnhlemenpgkbaaGreatDoor
set_option linter.unusedSimpArgs false
set_option linter.unusedVariables false
set_option linter.unnecessarySimpa false
open M

theorem give_sure {im : List Bytes} {p : M.Pages} {t : Nat} (C : Calm (rest im) p im t) (ht : t + 1 < 256) (l : List PW) (hb : Bat im.length l) :
    (give (rest im) p l).1 = 0 ∧ ∃ R : List Bytes, R.length = im.length ∧ (give (rest im) p l).2.1 = rest R ∧ Calm (rest R) (give (rest im) p l).2.2 R (t + 1) ∧ conts R = changed (conts im) l := by
  obtain ⟨t1, R1, _, e1, _, _, _, e2⟩ := give_plain C.inv ht C.num C.open_ l
  rcases give_any C ht l hb with ⟨g1, R, g2, g3, g4, _⟩ | ⟨_, g2, _⟩
  · refine ⟨g1, R, g2, ?_, ?_, g4⟩
    · have h3 := g3.pg
      rw [e1] at h3 ⊢
      unfold rest at h3 ⊢
      simp only at h3
      rw [h3]
    · refine ⟨rfl, rfl, g3.inv, g3.num, g3.open_⟩
  · rw [e2] at g2; cases g2
theorem jgo_small (hd : PW) : ∀ (rs wt : List PW) (d : Disk) (p : M.Pages), wt.length + rs.length ≤ 15 → jgo hd ⟨d, p, wt⟩ rs = give d p (hd :: (wt ++ rs))
  | [], wt, d, p, _ => by simp [jgo]
  | x :: rs, wt, d, p, h => by
    rw [List.length_cons] at h
    rw [jgo, if_neg (by simp only; omega), jgo_small hd rs (wt ++ [x]) d p (by rw [List.length_append]; simp; omega), List.append_assoc]
    rfl
/-- A step on a disk at rest: it goes through; the new records lie there. -/
theorem jgo_sure {im : List Bytes} {p : M.Pages} {t half bank bank' a : Nat} {l l' : List Bytes} (C : Calm (rest im) p im t) (ht : t + 1 < 256) (hf : J.Fits half bank bank' l (J.stream l') a) (hl : 2 * half + 1 ≤ im.length - 17) (hr : ∀ r ∈ l', r.length ≤ 8000) (h15 : half ≤ 15) (H : J.Lies (conts im) half bank l) :
    (jgo (0, J.head bank' (J.stream l').length l'.length) ⟨rest im, p, []⟩ (J.writes half bank' (J.stream l') a)).1 = 0 ∧ ∃ R : List Bytes, R.length = im.length ∧ (jgo (0, J.head bank' (J.stream l').length l'.length) ⟨rest im, p, []⟩ (J.writes half bank' (J.stream l') a)).2.1 = rest R ∧
      Calm (rest R) (jgo (0, J.head bank' (J.stream l').length l'.length) ⟨rest im, p, []⟩ (J.writes half bank' (J.stream l') a)).2.2 R (t + 1) ∧ J.Lies (conts R) half bank' l' := by
  have hwl : (J.writes half bank' (J.stream l') a).length ≤ half := by
    rw [J.writes_length]
    have := hf.fits
    unfold J.pages
    omega
  rw [jgo_small _ _ _ _ _ (by simp; omega), List.nil_append]
  have hb : Bat im.length ((0, J.head bank' (J.stream l').length l'.length) :: J.writes half bank' (J.stream l') a) := bat_last hf hl (List.Sublist.refl _) (by omega)
  obtain ⟨g1, R, g2, g3, g4, g5⟩ := give_sure C ht _ hb
  refine ⟨g1, R, g2, g3, g4, ?_⟩
  have hfin := (J.Prog.start H (J.writes half bank' (J.stream l') a)).finish hf hr
  rw [List.drop_zero] at hfin
  rw [g5]
  exact hfin
end Go.Proofs.YtcnhlemenpgkbaaGreatDoor
