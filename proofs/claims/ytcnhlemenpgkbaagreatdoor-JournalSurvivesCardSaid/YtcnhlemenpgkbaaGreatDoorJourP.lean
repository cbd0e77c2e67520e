/- Plain law: a batch written while the power may fail; the opening behind it. -/
import Derived.Test.YtcnhlemenpgkbaaGreatDoorJour
namespace Go.Proofs.YtcnhlemenpgkbaaGreatDoor
set_option linter.unusedSimpArgs false
set_option linter.unusedVariables false
set_option linter.unnecessarySimpa false
open M

theorem okFrom_of {n : Int} : ∀ {l : List PW} {o : Option Int}, (∀ y, o = some y → ∀ x ∈ l, y < x.1) → l.Pairwise (fun x y => x.1 < y.1) → (∀ x ∈ l, 0 ≤ x.1 ∧ x.1 < n ∧ x.2.length = 116) → okFrom n o l = true
  | [], _, _, _, _ => rfl
  | z :: l, o, h1, h2, h3 => by
    rw [List.pairwise_cons] at h2
    have hz := h3 z (by simp)
    have ih := okFrom_of (n := n) (l := l) (o := some z.1) (fun y hy x hx => by obtain rfl : z.1 = y := Option.some.inj hy; exact h2.1 x hx) h2.2 (fun x hx => h3 x (by simp [hx]))
    simp only [okFrom, ih, Bool.and_true, Bool.not_eq_true', Bool.or_eq_false_iff, decide_eq_false_iff_not]
    refine ⟨⟨⟨by omega, by omega⟩, by omega⟩, ?_⟩
    cases o with
    | none => rfl
    | some y =>
      have := h1 y rfl z (by simp)
      simp only [decide_eq_false_iff_not]
      omega
theorem check_of {d : Disk} {p : M.Pages} {l : List PW} (hcl : p.closed = false) (hn : p.number < 1073741824) (hb : Bat d.pg.length l) : check d p l = 0 := by
  unfold check
  rw [hcl, if_neg (by simp), if_neg (by have := hb.few; omega), if_neg hb.ne, okFrom_of (by simp) hb.inc (fun x hx => by have := hb.at_ x hx; unfold Disk.len; exact this)]
  rfl

theorem runAll_on : ∀ (sts : List Stp) (d : Disk), d.off = false → (runAll d sts).1 = 0 → (runAll d sts).2.off = false := by
  intro sts
  induction sts with
  | nil => intro d h _; exact h
  | cons s r ih =>
    intro d hd h9
    simp only [runAll] at h9 ⊢
    split at h9
    · rename_i hs
      rw [if_pos hs]
      refine ih _ ?_ h9
      cases s with
      | put q s =>
        show (d.write q s).2.off = false
        have hs : (d.write q s).1 = 0 := hs
        unfold Disk.write at hs ⊢
        rw [hd] at hs ⊢
        simp only [Bool.false_eq_true, if_false] at hs ⊢
        split at hs
        · simp at hs
        · rename_i hi
          rw [if_neg hi]
          rcases step_cases d with hst | ⟨tr, hst⟩
          · rw [hst] at hs; simp at hs
          · rw [hst]; simpa using hd
      | flush =>
        show (d.flush).2.off = false
        have hs : (d.flush).1 = 0 := hs
        rcases flush_cases d hd with hst | ⟨tr, hst⟩
        · rw [hst] at hs; simp at hs
        · rw [hst]; exact hd
    · rename_i hs
      exact absurd h9 hs

/-- A disk without pending pages, its power on; the pages that were opened on it. -/
structure Calm (d : Disk) (p : M.Pages) (im : List Bytes) (t : Nat) : Prop where
  pg : d.pg = im.map bare1
  on : d.off = false
  inv : Inv t im
  num : p.number = t
  open_ : p.closed = false

/-- Behind a failed write: whatever the mount tears, the opening finds the pages from before or those from after it. -/
def Fell (d : Disk) (im : List Bytes) (t : Nat) (c c' : List Bytes) : Prop :=
  ∀ picks : List Int, ∃ im' : List Bytes, d.mount picks = rest im' ∧ im'.length = im.length ∧ (∀ s ∈ im', Pst t s) ∧ Inv t (replayed im') ∧ (conts (replayed im') = c ∨ conts (replayed im') = c')

theorem give_any {d : Disk} {p : M.Pages} {im : List Bytes} {t : Nat} (C : Calm d p im t) (ht : t + 1 < 256) (l : List PW) (hb : Bat im.length l) :
    ((give d p l).1 = 0 ∧ ∃ R : List Bytes, R.length = im.length ∧ Calm (give d p l).2.1 (give d p l).2.2 R (t + 1) ∧ conts R = changed (conts im) l ∧ (give d p l).2.2.bad = p.bad) ∨
    ((give d p l).1 = 20 ∧ (give d p l).2.2.closed = true ∧ Fell (give d p l).2.1 im (t + 1) (conts im) (changed (conts im) l)) := by
  have hlen : d.pg.length = im.length := by rw [C.pg]; simp
  have hc := check_of C.open_ (by have := C.num; omega) (by rw [hlen]; exact hb)
  have hg : give d p l = if (runAll d (steps (p.number + 1) l)).1 ≠ 0 then ((runAll d (steps (p.number + 1) l)).1, (runAll d (steps (p.number + 1) l)).2, { p with closed := true }) else (0, (runAll d (steps (p.number + 1) l)).2, { p with number := p.number + 1 }) := by unfold give; rw [if_neg (by simp [hc])]
  have hn : p.number + 1 = ((t + 1 : Nat) : Int) := by have := C.num; omega
  rw [hn] at hg
  rw [hg]
  have I := C.inv
  rcases run_steps I hb (show t < t + 1 by omega) ht C.pg C.on with ⟨h1, h2⟩ | ⟨h1, R1, h2, h3, h4, h5, h6⟩ | ⟨h1, R2, h2, h3⟩
  · rw [if_pos (by rw [h1]; decide)]
    refine .inr ⟨h1, rfl, fun picks => ?_⟩
    obtain ⟨im', k1, k2⟩ := mount_mix h2 picks
    obtain ⟨c1, c2⟩ := cut_log I hb (show t < t + 1 by omega) ht k2
    exact ⟨im', k1, k2.1, mix_pst k2 (fun i s hs => ⟨(I.pg i s hs).mono (by omega), fun _ => I.pg i s hs⟩) (fun _ _ hb' => nwLog_sealed hb hb') (by omega) ht, c1, c2⟩
  · rw [if_pos (by rw [h1]; decide)]
    refine .inr ⟨h1, rfl, fun picks => ?_⟩
    obtain ⟨im', k1, k2⟩ := mount_mix h2 picks
    have hR := cut_data I hb (show 1 ≤ t + 1 by omega) ht h3 h4 h5 h6 k2
    have hps := mix_pst (t := t) k2 (fun i s hs => ⟨?_, fun hne => ?_⟩) (fun _ _ hb' => nwData_sealed hb hb') (show t < t + 1 by omega) ht
    rotate_left
    · by_cases hi : i < 17
      · exact h5 i s hi hs
      · rw [h6 i (by omega)] at hs
        exact (I.pg i s hs).mono (by omega)
    · cases hw : nwData (t + 1) l i with
      | none => exact absurd hw hne
      | some b =>
        obtain ⟨x, hx, hxi, _⟩ := nwData_spec hw
        have := hb.at_ x hx
        rw [h6 i (by omega)] at hs
        exact I.pg i s hs
    exact ⟨im', k1, k2.1.trans h3, hps, hR.inv I hb (by omega) (by omega) ht, .inr (hR.conts_eq I hb (by omega) ht)⟩
  · rw [if_neg (by rw [h1]; decide)]
    exact .inl ⟨rfl, R2, h3.len, ⟨h2, runAll_on _ _ C.on h1, h3.inv I hb (by omega) (by omega) ht, rfl, C.open_⟩, h3.conts_eq I hb (by omega) ht, rfl⟩

/-- The opening behind a mount. -/
theorem open_back {im' : List Bytes} {n : Nat} (hn : n < 256) (hl : 18 ≤ im'.length) (hs : ∀ s ∈ im', Pst n s) (hI : Inv n (replayed im')) :
    ∃ (t' : Nat) (bs : List Int), t' ≤ n ∧ openAt (rest im') = (rest (replayed im'), ⟨t', bs, false⟩) ∧ Calm (rest (replayed im')) ⟨t', bs, false⟩ (replayed im') t' := by
  obtain ⟨t', h1, h2, h3⟩ := openNum_spec hs (by omega)
  refine ⟨t', _, h2, by rw [open_rest hl, h1], ⟨rfl, rfl, ?_, rfl, rfl⟩⟩
  exact hI.renum (fun s hs' => h3 s (replayN_mem hl _ (targets_spec im').1 s hs'))
theorem Calm.mount {d : Disk} {p : M.Pages} {im : List Bytes} {t : Nat} (C : Calm d p im t) (picks : List Int) : d.mount picks = rest im := mount_rest d C.pg picks
theorem Calm.read {d : Disk} {p : M.Pages} {im : List Bytes} {t : Nat} (C : Calm d p im t) (i : Nat) (hi : i < (conts im).length) : p.read d i = ((conts im)[i], 0) := by
  have := read_rest C.inv C.open_ i hi
  unfold M.Pages.read at this ⊢
  have e1 : d.len = (rest im).len := by unfold Disk.len rest; rw [C.pg]
  have e2 : d.read (17 + (i : Int)) = (rest im).read (17 + (i : Int)) := by
    unfold Disk.read Disk.is Disk.now
    rw [C.on, e1, C.pg]
    rfl
  rw [e1, e2]
  exact this
end Go.Proofs.YtcnhlemenpgkbaaGreatDoor
