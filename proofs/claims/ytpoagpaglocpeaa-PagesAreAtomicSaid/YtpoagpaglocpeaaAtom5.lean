/- Plain law of a cut, joined: a write, the mount, the opening; reading. -/
import Derived.Test.YtpoagpaglocpeaaAtom4
namespace Go.Proofs.Ytpoagpaglocpeaa
set_option linter.unusedSimpArgs false
set_option linter.unusedVariables false
set_option linter.unnecessarySimpa false
open M

theorem rest_seen (im : List Bytes) : (rest im).seen = im := by
  unfold Disk.seen rest
  apply List.ext_getElem?
  intro i
  simp only [List.length_map, List.getElem?_map]
  by_cases hi : i < im.length
  · rw [List.getElem?_range hi, List.getElem?_eq_getElem hi]
    simp [Disk.now, hi, bare1, Pg.now]
  · rw [List.getElem?_eq_none (by simpa using hi), List.getElem?_eq_none (by simpa using hi)]
    rfl
theorem rest_len (im : List Bytes) : (rest im).pg.length = im.length := by simp [rest]

theorem write_on (pg : List Pg) (q : Nat) (hq : q < pg.length) (s : Bytes) : (⟨pg, false, -1⟩ : Disk).write (q : Int) s = (0, ⟨pg.modify q fun p => { p with new := some s }, false, -1⟩) := by
  have his : (⟨pg, false, -1⟩ : Disk).is (q : Int) = true := by unfold Disk.is Disk.len; simp only [Bool.and_eq_true, decide_eq_true_eq]; omega
  unfold Disk.write
  rw [his]
  simp [Disk.step]
theorem modify_now (pg : List Pg) (q : Nat) (s : Bytes) : (pg.modify q fun p => { p with new := some s }).map Pg.now = (pg.map Pg.now).set q s := by
  apply List.ext_getElem?
  intro i
  simp only [List.getElem?_map, List.getElem?_modify, List.getElem?_set, List.length_map]
  by_cases hi : q = i
  · subst hi
    cases h : pg[q]? with
    | none => simp [List.getElem?_eq_none_iff.1 h]
    | some p => simp [(List.getElem?_eq_some_iff.1 h).1, Pg.now]
  · simp [hi]
/-- The steps of a replay, over a disk that shows some pages. -/
theorem run_putsN {im : List Bytes} {ts : List Nat} (hb : ∀ j, j < ts.length → 17 + ts.getD j 0 < im.length) (hl : 18 ≤ im.length) (h16 : ts.length ≤ 16) : ∀ n, n ≤ ts.length → ∃ pg : List Pg, runAll (rest im) (putsN im ts n) = (0, ⟨pg, false, -1⟩) ∧ pg.map Pg.now = replayN im ts n
  | 0, _ => ⟨im.map bare1, rfl, by rw [List.map_map]; exact List.map_id'' (fun _ => rfl) _⟩
  | n + 1, hn => by
    obtain ⟨pg, h1, h2⟩ := run_putsN hb hl h16 n (by omega)
    have hlen : pg.length = im.length := by
      have := congrArg List.length h2
      rw [List.length_map, replayN_length] at this
      exact this
    have hbn := hb n (by omega)
    have e1 : (replayN im ts (n + 1)).getD (1 + n) [] = (replayN im ts n).getD (1 + n) [] := by
      rw [List.getD_eq_getElem?_getD, List.getD_eq_getElem?_getD, replayN, List.getElem?_set_ne (by omega)]
    have hw := write_on pg (17 + ts.getD n 0) (by omega) ((replayN im ts n).getD (1 + n) [])
    refine ⟨pg.modify (17 + ts.getD n 0) fun p => { p with new := some ((replayN im ts n).getD (1 + n) []) }, ?_, ?_⟩
    · rw [putsN, runAll_snoc0 (by rw [h1]), h1, e1]
      simp only [runAll, runStep, hw, if_true]
    · rw [replayN, modify_now, h2]
theorem open_rest {im : List Bytes} (hl : 18 ≤ im.length) : openAt (rest im) = (rest (replayed im), ⟨openNum im, badsFrom 0 ((replayed im).drop 17), false⟩) := by
  have hs := targets_spec im
  have hb : ∀ j, j < (targets im).length → 17 + (targets im).getD j 0 < im.length := by
    intro j hj
    exact hs.2 j _ (by simp [List.getD, hj])
  unfold openAt
  rw [rest_seen]
  congr 1
  unfold openSteps
  obtain ⟨pg, h1, h2⟩ := run_putsN hb hl hs.1 (targets im).length (Nat.le_refl _)
  rw [runAll_snoc0 (by rw [h1]), h1]
  by_cases hT : targets im = []
  · have e : replayed im = im := by unfold replayed; rw [hT]; rfl
    rw [hT] at h1
    have h1 : (0, rest im) = ((0, ⟨pg, false, -1⟩) : Int × Disk) := h1
    rw [if_pos hT, e]
    exact (congrArg Prod.snd h1).symm
  · rw [if_neg hT]
    have hf : (⟨pg, false, -1⟩ : Disk).flush = (0, ⟨pg.map Pg.flush, false, -1⟩) := by simp [Disk.flush, Disk.step]
    simp only [runAll, runStep, hf, if_true]
    unfold rest replayed
    rw [← h2, List.map_map]
    rfl

theorem upd_ge (a : Int) (n : Nat) : a ≤ upd a n := by unfold upd; split <;> omega
theorem fold_num (im : List Bytes) : ∀ (a : Int), a ≤ im.foldl (fun a s => upd (upd a (num (s.take 4))) (num (s.drop 124))) a ∧ ∀ s ∈ im, hdn s ≤ 1073741824 → (hdn s : Int) ≤ im.foldl (fun a s => upd (upd a (num (s.take 4))) (num (s.drop 124))) a := by
  induction im with
  | nil => intro a; exact ⟨Int.le_refl _, by simp⟩
  | cons x r ih =>
    intro a
    obtain ⟨h1, h2⟩ := ih (upd (upd a (num (x.take 4))) (num (x.drop 124)))
    have g1 := upd_ge a (num (x.take 4))
    have g2 := upd_ge (upd a (num (x.take 4))) (num (x.drop 124))
    refine ⟨by rw [List.foldl_cons]; omega, ?_⟩
    intro s hs hle
    rw [List.foldl_cons]
    rcases List.mem_cons.1 hs with rfl | hs
    · have g3 : (hdn s : Int) ≤ upd a (num (s.take 4)) := by
        unfold upd
        unfold hdn at hle ⊢
        rw [if_pos (by omega)]
        omega
      omega
    · exact h2 s hs hle
theorem fold_num_le (im : List Bytes) (t : Nat) : ∀ (a : Int), a ≤ t → (∀ s ∈ im, hdn s ≤ t ∧ tln s ≤ t) → im.foldl (fun a s => upd (upd a (num (s.take 4))) (num (s.drop 124))) a ≤ t := by
  induction im with
  | nil => intro a h _; exact h
  | cons x r ih =>
    intro a h hs
    rw [List.foldl_cons]
    refine ih _ ?_ (fun s hs' => hs s (by simp [hs']))
    have := hs x (by simp)
    unfold hdn tln at this
    unfold upd
    split <;> split <;> omega
theorem openNum_spec {n : Nat} {im : List Bytes} (h : ∀ s ∈ im, Pst n s) (hn : n ≤ 1073741824) : ∃ t' : Nat, openNum im = (t' : Int) ∧ t' ≤ n ∧ ∀ s ∈ im, Pst t' s := by
  obtain ⟨h0, _⟩ := openNum_bound im
  obtain ⟨t', ht⟩ := Int.eq_ofNat_of_zero_le h0
  refine ⟨t', ht, ?_, ?_⟩
  · have := fold_num_le im n 0 (by omega) (fun s hs => ⟨(h s hs).hi, Nat.le_trans (h s hs).lo (h s hs).hi⟩)
    unfold openNum at ht
    omega
  · intro s hs
    have hp := h s hs
    have := (fold_num im 0).2 s hs (by have := hp.hi; omega)
    unfold openNum at ht
    exact ⟨hp.len, by omega, hp.lo, hp.ok⟩

theorem replayN_mem {im : List Bytes} {ts : List Nat} (hl : 18 ≤ im.length) : ∀ n, n ≤ 16 → ∀ s ∈ replayN im ts n, s ∈ im
  | 0, _, s, hs => hs
  | n + 1, hn, s, hs => by
    have ih := replayN_mem (ts := ts) hl n (by omega)
    rcases List.mem_or_eq_of_mem_set hs with hs | rfl
    · exact ih s hs
    · have : 1 + n < (replayN im ts n).length := by rw [replayN_length]; omega
      rw [getD_some (List.getElem?_eq_getElem this)]
      exact ih _ (List.getElem_mem this)

theorem mix_pst {nw : Nat → Option Bytes} {im im' : List Bytes} {t n : Nat} (h : Mix nw im im') (hs : ∀ (i : Nat) s, im[i]? = some s → Pst n s ∧ (nw i ≠ none → Pst t s)) (hn : ∀ (i : Nat) b, nw i = some b → ∃ data : Bytes, data.length = 116 ∧ b = sealed n data) (ht : t < n) (h2 : n < 256) : ∀ s ∈ im', Pst n s := by
  intro s' hs'
  obtain ⟨i, hi, rfl⟩ := List.getElem_of_mem hs'
  have hi' : i < im.length := by rw [← h.1]; exact hi
  have e := List.getElem?_eq_getElem hi'
  have e' := List.getElem?_eq_getElem hi
  rcases h.2 i _ e with k | ⟨b, k, hb, hk⟩
  · rw [e'] at k
    rw [Option.some.inj k]
    exact (hs i _ e).1
  · obtain ⟨data, hd, rfl⟩ := hn i b hb
    rw [e'] at hk
    rw [Option.some.inj hk]
    rcases torn ((hs i _ e).2 (by rw [hb]; simp)) ht h2 hd k with q | q | q
    · rw [q]; exact (hs i _ e).1
    · rw [q]; exact Pst.sealed (by omega) (by omega) hd
    · exact q.1

section
variable {t : Nat} {l : List PW} {im : List Bytes}

theorem Inv.replayed_eq (I : Inv t im) : replayed im = im := by
  unfold replayed
  refine replayN_same I.len (targets_spec im).1 (fun j hj => ?_) _ (Nat.le_refl _)
  exact I.same j _ (by simp [List.getD, hj])
theorem Inv.renum {t' : Nat} (I : Inv t im) (h : ∀ s ∈ im, Pst t' s) : Inv t' im := ⟨I.len, I.few, fun i s hs => h s (List.mem_of_getElem? hs), I.good, I.same⟩
theorem Inv.mem (I : Inv t im) : ∀ s ∈ im, Pst t s := by
  intro s hs
  obtain ⟨i, hi, rfl⟩ := List.getElem_of_mem hs
  exact I.pg i _ (List.getElem?_eq_getElem hi)
theorem nwData_sealed {n : Nat} (hb : Bat im.length l) {i : Nat} {b : Bytes} (h : nwData n l i = some b) : ∃ data : Bytes, data.length = 116 ∧ b = sealed n data := by
  obtain ⟨x, hx, _, e⟩ := nwData_spec h
  exact ⟨x.2, (hb.at_ x hx).2.2, e⟩

/-- A write while the power may fail, the mount and the opening. -/
theorem cut_open (I : Inv t im) (ht : t + 1 < 256) {p : M.Pages} (hp : p.number = t) (m : Int) (l : List PW) (picks : List Int) :
    let g := give ((rest im).setTrip m) p l
    (g.2.1.mount picks).off = false ∧ (g.2.1.mount picks).trip = -1 ∧ (g.2.1.mount picks).pg.length = im.length ∧
    ∃ (t' : Nat) (R : List Bytes) (bs : List Int), t' ≤ t + 1 ∧ openAt (g.2.1.mount picks) = (rest R, ⟨t', bs, false⟩) ∧ R.length = im.length ∧ Inv t' R ∧
      (conts R = conts im ∨ (check ((rest im).setTrip m) p l = 0 ∧ conts R = changed (conts im) l)) ∧ (g.1 = 0 → conts R = changed (conts im) l) ∧ (g.1 ≠ 0 → g.1 ≠ 20 → conts R = conts im) := by
  intro g
  have hpg : ((rest im).setTrip m).pg = im.map bare1 := rfl
  have hoff : ((rest im).setTrip m).off = false := rfl
  have hlen : ((rest im).setTrip m).pg.length = im.length := by rw [hpg]; simp
  -- from pages behind the mount to the end
  have fin : ∀ (im' : List Bytes) (n : Nat), n ≤ t + 1 → im'.length = im.length → (∀ s ∈ im', Pst n s) → Inv n (replayed im') → ∃ (t' : Nat) (bs : List Int), t' ≤ t + 1 ∧ openAt (rest im') = (rest (replayed im'), ⟨t', bs, false⟩) ∧ (replayed im').length = im.length ∧ Inv t' (replayed im') := by
    intro im' n hn hl hs hI
    obtain ⟨t', h1, h2, h3⟩ := openNum_spec hs (by omega)
    refine ⟨t', _, by omega, by rw [open_rest (by rw [hl]; exact I.len), h1], by unfold replayed; rw [replayN_length, hl], ?_⟩
    exact hI.renum (fun s hs' => h3 s (replayN_mem (by rw [hl]; exact I.len) _ (targets_spec im').1 s hs'))
  have done : ∀ im' : List Bytes, g.2.1.mount picks = rest im' → im'.length = im.length → (g.2.1.mount picks).off = false ∧ (g.2.1.mount picks).trip = -1 ∧ (g.2.1.mount picks).pg.length = im.length := by
    intro im' h hl
    rw [h]
    exact ⟨rfl, rfl, by rw [rest_len, hl]⟩
  by_cases hc : check ((rest im).setTrip m) p l = 0
  · have hb : Bat im.length l := by rw [← hlen]; exact Bat.of_check hc
    have hg : g = if (runAll ((rest im).setTrip m) (steps (p.number + 1) l)).1 ≠ 0 then ((runAll ((rest im).setTrip m) (steps (p.number + 1) l)).1, (runAll ((rest im).setTrip m) (steps (p.number + 1) l)).2, { p with closed := true }) else (0, (runAll ((rest im).setTrip m) (steps (p.number + 1) l)).2, { p with number := p.number + 1 }) := by
      show give _ _ _ = _
      unfold give
      rw [if_neg (by simp [hc])]
    have hn : p.number + 1 = ((t + 1 : Nat) : Int) := by omega
    rw [hn] at hg
    rcases run_steps I hb (show t < t + 1 by omega) ht hpg hoff with ⟨h1, h2⟩ | ⟨h1, R1, h2, h3, h4, h5, h6⟩ | ⟨h1, R2, h2, h3⟩
    · rw [if_pos (by rw [h1]; decide), h1] at hg
      have g1 : g.1 = 20 := by rw [hg]
      have g2 : g.2.1 = (runAll ((rest im).setTrip m) (steps (t + 1 : Nat) l)).2 := by rw [hg]
      obtain ⟨im', k1, k2⟩ := mount_mix h2 picks
      have hM : g.2.1.mount picks = rest im' := by rw [g2, k1]
      obtain ⟨c1, c2⟩ := cut_log I hb (show t < t + 1 by omega) ht k2
      have hps := mix_pst k2 (fun i s hs => ⟨(I.pg i s hs).mono (by omega), fun _ => I.pg i s hs⟩) (fun _ _ hb' => nwLog_sealed hb hb') (by omega) ht
      obtain ⟨t', bs, e1, e2, e3, e4⟩ := fin im' (t + 1) (by omega) k2.1 hps c1
      obtain ⟨d1, d2, d3⟩ := done im' hM k2.1
      refine ⟨d1, d2, d3, t', _, bs, e1, by rw [hM]; exact e2, e3, e4, ?_, fun h => ?_, fun _ h => ?_⟩
      · rcases c2 with c2 | c2
        · exact .inl c2
        · exact .inr ⟨hc, c2⟩
      · rw [g1] at h; cases h
      · exact absurd g1 h
    · rw [if_pos (by rw [h1]; decide), h1] at hg
      have g1 : g.1 = 20 := by rw [hg]
      have g2 : g.2.1 = (runAll ((rest im).setTrip m) (steps (t + 1 : Nat) l)).2 := by rw [hg]
      obtain ⟨im', k1, k2⟩ := mount_mix h2 picks
      have hM : g.2.1.mount picks = rest im' := by rw [g2, k1]
      have hR := cut_data I hb (show 1 ≤ t + 1 by omega) ht h3 h4 h5 h6 k2
      have hps := mix_pst (t := t) k2 (fun i s hs => ⟨?_, fun hne => ?_⟩) (fun _ _ hb' => nwData_sealed hb hb') (show t < t + 1 by omega) ht
      rotate_left
      · by_cases hi : i < 17
        · exact h5 i s hi hs
        · rw [h6 i (by omega)] at hs
          exact (I.pg i s hs).mono (by omega)
      · cases hw : nwData (t + 1) l i with
        | none => exact absurd hw hne
        | some b =>
          obtain ⟨x, hx, hxi, _⟩ := nwData_spec hw
          have := hb.at_ x hx
          rw [h6 i (by omega)] at hs
          exact I.pg i s hs
      obtain ⟨t', bs, e1, e2, e3, e4⟩ := fin im' (t + 1) (by omega) (k2.1.trans h3) hps (hR.inv I hb (by omega) (by omega) ht)
      obtain ⟨d1, d2, d3⟩ := done im' hM (k2.1.trans h3)
      have hcon := hR.conts_eq I hb (by omega) ht
      refine ⟨d1, d2, d3, t', _, bs, e1, by rw [hM]; exact e2, e3, e4, .inr ⟨hc, hcon⟩, fun _ => hcon, fun _ h => absurd g1 h⟩
    · rw [if_neg (by rw [h1]; decide)] at hg
      have g1 : g.1 = 0 := by rw [hg]
      have g2 : g.2.1 = (runAll ((rest im).setTrip m) (steps (t + 1 : Nat) l)).2 := by rw [hg]
      have hM : g.2.1.mount picks = rest R2 := by rw [g2]; exact mount_rest _ h2 picks
      have hI2 := h3.inv I hb (by omega) (by omega) ht
      have hrep := hI2.replayed_eq
      obtain ⟨t', bs, e1, e2, e3, e4⟩ := fin R2 (t + 1) (by omega) h3.len hI2.mem (by rw [hrep]; exact hI2)
      obtain ⟨d1, d2, d3⟩ := done R2 hM h3.len
      rw [hrep] at e2 e3 e4
      have hcon := h3.conts_eq I hb (by omega) ht
      refine ⟨d1, d2, d3, t', R2, bs, e1, by rw [hM]; exact e2, e3, e4, .inr ⟨hc, hcon⟩, fun _ => hcon, fun h => absurd g1 h⟩
  · have hg : g = (check ((rest im).setTrip m) p l, (rest im).setTrip m, p) := by
      show give _ _ _ = _
      unfold give
      rw [if_pos hc]
    have hM : g.2.1.mount picks = rest im := by rw [hg]; exact mount_rest _ hpg picks
    have hrep := I.replayed_eq
    obtain ⟨t', bs, e1, e2, e3, e4⟩ := fin im t (by omega) rfl I.mem (by rw [hrep]; exact I)
    obtain ⟨d1, d2, d3⟩ := done im hM rfl
    rw [hrep] at e2 e3 e4
    refine ⟨d1, d2, d3, t', im, bs, e1, by rw [hM]; exact e2, e3, e4, .inl rfl, fun h => ?_, fun _ _ => rfl⟩
    rw [hg] at h
    exact absurd h hc

/-- A write while the power stays on. -/
theorem give_plain (I : Inv t im) (ht : t + 1 < 256) {p : M.Pages} (hp : p.number = t) (hcl : p.closed = false) (l : List PW) :
    ∃ (t' : Nat) (R : List Bytes), t' ≤ t + 1 ∧ (give (rest im) p l).2.1 = rest R ∧ R.length = im.length ∧ Inv t' R ∧ (give (rest im) p l).2.2.number = t' ∧ (give (rest im) p l).2.2.closed = false := by
  by_cases hc : check (rest im) p l = 0
  · have hb : Bat im.length l := by rw [← rest_len im]; exact Bat.of_check hc
    have hg : give (rest im) p l = if (runAll (rest im) (steps (p.number + 1) l)).1 ≠ 0 then ((runAll (rest im) (steps (p.number + 1) l)).1, (runAll (rest im) (steps (p.number + 1) l)).2, { p with closed := true }) else (0, (runAll (rest im) (steps (p.number + 1) l)).2, { p with number := p.number + 1 }) := by
      unfold give
      rw [if_neg (by simp [hc])]
    have hn : p.number + 1 = ((t + 1 : Nat) : Int) := by omega
    rw [hn] at hg
    have hok := runAll_ok (steps (t + 1 : Nat) l) (rest im) rfl rfl (fun q s hq => by
      unfold Disk.is Disk.len
      rw [rest_len]
      have few := hb.few
      have hlen := I.len
      simp only [Bool.and_eq_true, decide_eq_true_eq]
      unfold steps at hq
      rcases List.mem_append.1 hq with hq | hq
      · rcases List.mem_append.1 hq with hq | hq
        · rcases List.mem_append.1 hq with hq | hq
          · obtain ⟨j, x, hj, e⟩ := mem_logs hq
            injection e with e1 e2
            have := (List.getElem?_eq_some_iff.1 hj).1
            omega
          · simp only [List.mem_cons, Stp.put.injEq, reduceCtorEq, List.mem_nil_iff, or_false] at hq
            omega
        · obtain ⟨x, hx, e⟩ := mem_datas hq
          injection e with e1 e2
          have := hb.at_ x hx
          omega
      · simp at hq)
    rcases run_steps I hb (show t < t + 1 by omega) ht (show (rest im).pg = im.map bare1 from rfl) rfl with ⟨h1, _⟩ | ⟨h1, _⟩ | ⟨h1, R2, h2, h3⟩
    · rw [hok.1] at h1; cases h1
    · rw [hok.1] at h1; cases h1
    · rw [if_neg (by rw [h1]; decide)] at hg
      rw [hg]
      refine ⟨t + 1, R2, by omega, ?_, h3.len, h3.inv I hb (by omega) (by omega) ht, rfl, hcl⟩
      show (runAll (rest im) (steps (t + 1 : Nat) l)).2 = rest R2
      unfold rest at hok h2 ⊢
      rw [← h2]
      generalize (runAll ⟨im.map bare1, false, -1⟩ (steps (t + 1 : Nat) l)).2 = D at hok ⊢
      obtain ⟨_, o1, o2, _⟩ := hok
      cases D
      simp only at o1 o2
      subst o1
      subst o2
      rfl
  · have hg : give (rest im) p l = (check (rest im) p l, rest im, p) := by
      unfold give
      rw [if_pos hc]
    rw [hg]
    exact ⟨t, im, by omega, rfl, rfl, I, hp, hcl⟩

/-- Every data page can be read. -/
theorem read_rest (I : Inv t im) {p : M.Pages} (hcl : p.closed = false) (i : Nat) (hi : i < (conts im).length) : p.read (rest im) i = ((conts im)[i], 0) := by
  have hl : (rest im).len = im.length := by unfold Disk.len; rw [rest_len]
  have hi' : 17 + i < im.length := by rw [conts_length] at hi; omega
  have e := List.getElem?_eq_getElem hi'
  have hg := I.good (17 + i) _ (by omega) e
  have hr : (rest im).read (17 + (i : Int)) = (im[17 + i], 0) := by
    have his : (rest im).is (17 + (i : Int)) = true := by unfold Disk.is; rw [hl]; simp only [Bool.and_eq_true, decide_eq_true_eq]; omega
    unfold Disk.read
    rw [his]
    have hn : (rest im).now (17 + (i : Int)).toNat = im[17 + i] := by
      rw [show (17 + (i : Int)).toNat = 17 + i by omega]
      unfold Disk.now rest
      rw [List.getElem?_map, e]
      rfl
    rw [hn]
    rfl
  have hci : (conts im)[i] = (unsealed im[17 + i]).data := by
    have := conts_get im i
    rw [e, List.getElem?_eq_getElem hi] at this
    exact Option.some.inj this
  unfold M.Pages.read
  rw [hcl, hl, hr, hci]
  simp only [hg]
  rw [if_neg (by simp), if_neg (by omega), if_neg (by simp)]
  rfl

/-- A new disk. -/
theorem Inv.fresh (n : Nat) (h1 : 18 ≤ n) (h2 : n ≤ 4096) : Inv 0 (List.replicate n (zeros 128)) := by
  have h0 : (List.replicate n (zeros 128))[0]? = some (zeros 128) := by rw [List.getElem?_replicate, if_pos (by omega)]
  refine ⟨by simpa using h1, by simpa using h2, ?_, ?_, ?_⟩
  · intro i s hs
    rw [List.eq_of_mem_replicate (List.mem_of_getElem? hs)]
    exact Pst.blank 0
  · intro i s _ hs
    rw [List.eq_of_mem_replicate (List.mem_of_getElem? hs), unsealed_blank]
  · intro j x hj
    have : targets (List.replicate n (zeros 128)) = [] := by
      unfold targets
      simp only [getD_some h0, unsealed_blank]
      rw [if_pos (.inl trivial)]
    rw [this] at hj
    simp at hj
theorem new_rest (n : Nat) : Disk.new n = rest (List.replicate n (zeros 128)) := by
  unfold Disk.new rest
  rw [List.map_replicate]
  rfl
theorem open_fresh (n : Nat) (h1 : 18 ≤ n) (h2 : n ≤ 4096) : ∃ bs, openAt (Disk.new n) = (rest (List.replicate n (zeros 128)), ⟨0, bs, false⟩) := by
  have I := Inv.fresh n h1 h2
  obtain ⟨t', e1, e2, _⟩ := openNum_spec I.mem (by omega)
  rw [new_rest, open_rest I.len, I.replayed_eq, e1]
  have : t' = 0 := by omega
  subst this
  exact ⟨_, rfl⟩
end
end Go.Proofs.Ytpoagpaglocpeaa
