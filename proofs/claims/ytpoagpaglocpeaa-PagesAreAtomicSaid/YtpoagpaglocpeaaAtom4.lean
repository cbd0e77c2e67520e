/- Plain law of a cut: the disk's steps, the power that fails, the mount, the opening. -/
import Derived.Test.YtpoagpaglocpeaaAtom3
namespace Go.Proofs.Ytpoagpaglocpeaa
set_option linter.unusedSimpArgs false
set_option linter.unusedVariables false
set_option linter.unnecessarySimpa false
open M

def bare1 (s : Bytes) : Pg := ⟨s, none⟩
/-- A disk with no pending page, its power on. -/
def rest (im : List Bytes) : Disk := ⟨im.map bare1, false, -1⟩

structure Pend (nw : Nat → Option Bytes) (im : List Bytes) (d : Disk) : Prop where
  old : d.pg.map Pg.old = im
  new : ∀ (i : Nat) p b, d.pg[i]? = some p → p.new = some b → nw i = some b

theorem step_cases (d : Disk) : d.step = (20, { d with off := true }) ∨ ∃ tr, d.step = (0, { d with trip := tr }) := by
  unfold Disk.step
  split
  · exact .inl rfl
  · split
    · exact .inr ⟨_, rfl⟩
    · exact .inr ⟨d.trip, rfl⟩
theorem write_cases (d : Disk) (hoff : d.off = false) (i : Nat) (hi : i < d.pg.length) (s : Bytes) : d.write i s = (20, { d with off := true }) ∨ ∃ tr, d.write i s = (0, { d with trip := tr, pg := d.pg.modify i fun p => { p with new := some s } }) := by
  have his : d.is i = true := by unfold Disk.is Disk.len; simp; omega
  unfold Disk.write
  rw [hoff, his]
  rcases step_cases d with h | ⟨tr, h⟩
  · left
    simp [h]
  · right
    refine ⟨tr, ?_⟩
    simp [h, hoff]
theorem flush_cases (d : Disk) (hoff : d.off = false) : d.flush = (20, { d with off := true }) ∨ ∃ tr, d.flush = (0, { d with trip := tr, pg := d.pg.map Pg.flush }) := by
  unfold Disk.flush
  rw [hoff]
  rcases step_cases d with h | ⟨tr, h⟩
  · left
    simp [h]
  · right
    exact ⟨tr, by simp [h, hoff]⟩

section
variable {nw : Nat → Option Bytes} {im : List Bytes}

theorem Pend.len {d : Disk} (h : Pend nw im d) : d.pg.length = im.length := by rw [← h.old]; simp
theorem run_puts : ∀ (sts : List Stp) (d : Disk), Pend nw im d → d.off = false → (∀ st ∈ sts, ∃ (i : Nat) (s : Bytes), st = .put i s ∧ i < im.length ∧ nw i = some s) →
    Pend nw im (runAll d sts).2 ∧ ((runAll d sts).1 = 20 ∨ ((runAll d sts).1 = 0 ∧ (runAll d sts).2.off = false ∧ (∀ (i : Nat) p, d.pg[i]? = some p → p.new ≠ none → ∃ p', (runAll d sts).2.pg[i]? = some p' ∧ p'.new ≠ none) ∧
      ∀ (i : Nat) (s : Bytes), Stp.put i s ∈ sts → ∃ p', (runAll d sts).2.pg[i]? = some p' ∧ p'.new ≠ none))
  | [], d, h, hoff, _ => ⟨h, .inr ⟨rfl, hoff, fun i p hp hn => ⟨p, hp, hn⟩, fun i s hs => by simp at hs⟩⟩
  | st :: r, d, h, hoff, hs => by
    obtain ⟨i, s, rfl, hi, hnw⟩ := hs st (by simp)
    rcases write_cases d hoff i (by rw [h.len]; exact hi) s with hw | ⟨tr, hw⟩
    · have e : runAll d (.put i s :: r) = (20, { d with off := true }) := by simp [runAll, runStep, hw]
      rw [e]
      exact ⟨⟨h.old, h.new⟩, .inl rfl⟩
    · have e : runAll d (.put i s :: r) = runAll { d with trip := tr, pg := d.pg.modify i fun p => { p with new := some s } } r := by simp [runAll, runStep, hw]
      rw [e]
      have hg : ∀ (j : Nat), (d.pg.modify i fun p => { p with new := some s })[j]? = if i = j then (d.pg[j]?).map (fun p => { p with new := some s }) else d.pg[j]? := by
        intro j
        rw [List.getElem?_modify]
        split <;> simp [*]
      have hP : Pend nw im { d with trip := tr, pg := d.pg.modify i fun p => { p with new := some s } } := by
        refine ⟨?_, ?_⟩
        · rw [← h.old]
          apply List.ext_getElem?
          intro j
          rw [List.getElem?_map, List.getElem?_map]
          show Option.map Pg.old ((d.pg.modify i fun p => { p with new := some s })[j]?) = _
          rw [hg]
          split <;> cases d.pg[j]? <;> rfl
        · intro j p b hp hb
          have hp : (d.pg.modify i fun p => { p with new := some s })[j]? = some p := hp
          rw [hg] at hp
          split at hp
          · rename_i hij
            subst hij
            cases hd : d.pg[i]? with
            | none => rw [hd] at hp; cases hp
            | some q =>
              rw [hd] at hp
              have := Option.some.inj hp
              subst this
              rw [← hb]
              exact hnw
          · exact h.new j p b hp hb
      obtain ⟨k1, k2⟩ := run_puts r _ hP hoff (fun st hst => hs st (by simp [hst]))
      refine ⟨k1, ?_⟩
      rcases k2 with k2 | ⟨k2, k3, k4, k5⟩
      · exact .inl k2
      · refine .inr ⟨k2, k3, ?_, ?_⟩
        · intro j p hp hn
          refine (if hij : i = j then ?_ else ?_)
          · exact k4 j { p with new := some s } (by show (d.pg.modify i fun p => { p with new := some s })[j]? = _; rw [hg, if_pos hij, hp]; rfl) (by simp)
          · exact k4 j p (by show (d.pg.modify i fun p => { p with new := some s })[j]? = _; rw [hg, if_neg hij]; exact hp) hn
        · intro j s' hj
          rcases List.mem_cons.1 hj with hj | hj
          · injection hj with h1 h2
            have h1 : j = i := by omega
            subst h1
            have hlt : j < d.pg.length := by rw [h.len]; exact hi
            exact k4 j { (d.pg[j]) with new := some s } (by show (d.pg.modify j fun p => { p with new := some s })[j]? = _; rw [hg, if_pos rfl, List.getElem?_eq_getElem hlt]; rfl) (by simp)
          · exact k5 j s' hj

/-- What stands on the pages behind the mount. -/
theorem tearAll_spec : ∀ (pg : List Pg) (picks : List Int), ∃ im' : List Bytes, tearAll pg picks = im'.map bare1 ∧ im'.length = pg.length ∧
    ∀ (i : Nat) p, pg[i]? = some p → (p.new = none ∧ im'[i]? = some p.old) ∨ ∃ b k, p.new = some b ∧ im'[i]? = some (b.take k ++ p.old.drop k)
  | [], _ => ⟨[], rfl, rfl, by simp⟩
  | p :: r, picks => by
    cases hp : p.new with
    | none =>
      obtain ⟨im', h1, h2, h3⟩ := tearAll_spec r picks
      refine ⟨p.old :: im', ?_, by simp [h2], ?_⟩
      · simp only [tearAll, hp, h1, List.map_cons]
        congr 1
        cases p
        simp only at hp
        subst hp
        rfl
      · intro i q hq
        cases i with
        | zero =>
          have : p = q := by simpa using hq
          subst this
          exact .inl ⟨hp, rfl⟩
        | succ i => exact h3 i q (by simpa using hq)
    | some b =>
      obtain ⟨im', h1, h2, h3⟩ := tearAll_spec r picks.tail
      refine ⟨(b.take (clamp ((picks.head?).getD 128)) ++ p.old.drop (clamp ((picks.head?).getD 128))) :: im', ?_, by simp [h2], ?_⟩
      · simp only [tearAll, hp, h1, List.map_cons]
        congr 1
        unfold Pg.tear
        rw [hp]
        rfl
      · intro i q hq
        cases i with
        | zero =>
          have : p = q := by simpa using hq
          subst this
          exact .inr ⟨b, _, hp, rfl⟩
        | succ i => exact h3 i q (by simpa using hq)
theorem mount_mix {d : Disk} (h : Pend nw im d) (picks : List Int) : ∃ im', d.mount picks = rest im' ∧ Mix nw im im' := by
  obtain ⟨im', h1, h2, h3⟩ := tearAll_spec d.pg picks
  refine ⟨im', ?_, h2.trans h.len, ?_⟩
  · unfold Disk.mount rest
    rw [h1]
  · intro i s hs
    rw [← h.old, List.getElem?_map] at hs
    cases hp : d.pg[i]? with
    | none => rw [hp] at hs; cases hs
    | some p =>
      rw [hp] at hs
      have e : p.old = s := Option.some.inj hs
      rcases h3 i p hp with ⟨_, k⟩ | ⟨b, k, hb, hk⟩
      · left; rw [k, e]
      · right; exact ⟨b, k, h.new i p b hp hb, by rw [hk, e]⟩
theorem mount_rest (d : Disk) (h : d.pg = im.map bare1) (picks : List Int) : d.mount picks = rest im := by
  have hP : Pend (fun _ => none) im d := by
    refine ⟨by rw [h, List.map_map]; exact List.map_id'' (fun _ => rfl) _, fun i p b hp hb => ?_⟩
    rw [h, List.getElem?_map] at hp
    cases hi : im[i]? with
    | none => rw [hi] at hp; cases hp
    | some s =>
      rw [hi] at hp
      have := Option.some.inj hp
      subst this
      cases hb
  obtain ⟨im', h1, h2, h3⟩ := mount_mix hP picks
  have : im' = im := by
    apply List.ext_getElem?
    intro i
    cases hs : im[i]? with
    | none => rw [List.getElem?_eq_none_iff] at hs ⊢; omega
    | some s =>
      rcases h3 i s hs with k | ⟨b, k, hb, _⟩
      · exact k
      · cases hb
  rw [h1, this]

/-- A flush over pending pages. -/
theorem flush_all {d : Disk} (h : Pend nw im d) : ∃ R : List Bytes, d.pg.map Pg.flush = R.map bare1 ∧ R.length = im.length ∧ (∀ i : Nat, nw i = none → R[i]? = im[i]?) ∧ ∀ (i : Nat) p, d.pg[i]? = some p → p.new ≠ none → R[i]? = nw i := by
  refine ⟨d.pg.map Pg.now, ?_, by rw [List.length_map]; exact h.len, ?_, ?_⟩
  · rw [List.map_map]
    rfl
  · intro i hi
    rw [← h.old, List.getElem?_map, List.getElem?_map]
    cases hp : d.pg[i]? with
    | none => rfl
    | some p =>
      cases hn : p.new with
      | none => simp [Pg.now, hn]
      | some b =>
        have := h.new i p b hp hn
        rw [hi] at this
        cases this
  · intro i p hp hn
    rw [List.getElem?_map, hp]
    cases hb : p.new with
    | none => exact absurd hb hn
    | some b =>
      rw [h.new i p b hp hb]
      simp [Pg.now, hb]
end

theorem mem_logs {t : Int} : ∀ {l : List PW} {k : Int} {st : Stp}, st ∈ logs t k l → ∃ (j : Nat) (x : PW), l[j]? = some x ∧ st = .put (k + j) (sealed t x.2)
  | [], k, st, h => by simp [logs] at h
  | x :: l, k, st, h => by
    rcases List.mem_cons.1 h with rfl | h
    · exact ⟨0, x, rfl, by simp⟩
    · obtain ⟨j, y, h1, h2⟩ := mem_logs h
      exact ⟨j + 1, y, by simpa using h1, by rw [h2]; congr 1; omega⟩
theorem logs_mem {t : Int} : ∀ {l : List PW} {k : Int} {j : Nat} {x : PW}, l[j]? = some x → Stp.put (k + j) (sealed t x.2) ∈ logs t k l
  | [], k, j, x, h => by simp at h
  | y :: l, k, 0, x, h => by
    have : y = x := by simpa using h
    subst this
    simp [logs]
  | y :: l, k, j + 1, x, h => by
    have := logs_mem (t := t) (k := k + 1) (show l[j]? = some x by simpa using h)
    rw [show k + 1 + (j : Int) = k + ((j + 1 : Nat) : Int) by omega] at this
    exact List.mem_cons_of_mem _ this
theorem mem_datas {t : Int} : ∀ {l : List PW} {st : Stp}, st ∈ datas t l → ∃ x ∈ l, st = .put (17 + x.1) (sealed t x.2)
  | [], st, h => by simp [datas] at h
  | x :: l, st, h => by
    rcases List.mem_cons.1 h with rfl | h
    · exact ⟨x, by simp, rfl⟩
    · obtain ⟨y, h1, h2⟩ := mem_datas h
      exact ⟨y, by simp [h1], h2⟩
theorem datas_mem {t : Int} : ∀ {l : List PW} {x : PW}, x ∈ l → Stp.put (17 + x.1) (sealed t x.2) ∈ datas t l
  | [], x, h => by simp at h
  | y :: l, x, h => by
    rcases List.mem_cons.1 h with rfl | h
    · simp [datas]
    · exact List.mem_cons_of_mem _ (datas_mem h)
theorem nwData_mem {n : Nat} : ∀ {l : List PW} {x : PW}, l.Pairwise (fun x y => x.1 < y.1) → x ∈ l → ∀ i : Nat, 17 + x.1 = i → nwData n l i = some (sealed n x.2)
  | [], x, _, h, _, _ => by simp at h
  | y :: l, x, hp, h, i, hi => by
    rw [List.pairwise_cons] at hp
    unfold nwData
    rcases List.mem_cons.1 h with rfl | h
    · rw [List.find?_cons_of_pos (by simpa using hi)]
      rfl
    · have := hp.1 x h
      rw [List.find?_cons_of_neg (by simp; omega)]
      exact nwData_mem hp.2 h i hi

section
variable {t n : Nat} {l : List PW} {im : List Bytes}

/-- The steps of a write, on a disk without pending pages. -/
theorem run_steps (I : Inv t im) (hb : Bat im.length l) (ht : t < n) (h2 : n < 256) {d : Disk} (hd : d.pg = im.map bare1) (hoff : d.off = false) :
    ((runAll d (steps n l)).1 = 20 ∧ Pend (nwLog n l) im (runAll d (steps n l)).2) ∨
    ((runAll d (steps n l)).1 = 20 ∧ ∃ R1 : List Bytes, Pend (nwData n l) R1 (runAll d (steps n l)).2 ∧ R1.length = im.length ∧ Full n l R1 ∧ (∀ (i : Nat) s, i < 17 → R1[i]? = some s → Pst n s) ∧ ∀ i : Nat, 17 ≤ i → R1[i]? = im[i]?) ∨
    ((runAll d (steps n l)).1 = 0 ∧ ∃ R2 : List Bytes, (runAll d (steps n l)).2.pg = R2.map bare1 ∧ Res n l im R2) := by
  have h1 : 1 ≤ n := by omega
  have hlen := I.len
  have few := hb.few
  have hPgs : (l.map fun x => x.1.toNat) = pgsOf l := rfl
  have hP0 : Pend (nwLog n l) im d := by
    refine ⟨by rw [hd, List.map_map]; exact List.map_id'' (fun _ => rfl) _, fun i p b hp hpb => ?_⟩
    rw [hd, List.getElem?_map] at hp
    cases hi : im[i]? with
    | none => rw [hi] at hp; cases hp
    | some s =>
      rw [hi] at hp
      have := Option.some.inj hp
      subst this
      cases hpb
  have hS : steps n l = (logs n 1 l ++ [.put 0 (sealed n (record (pgsOf l)))]) ++ (.flush :: (datas n l ++ [.flush])) := by
    unfold steps
    rw [hPgs]
    simp
  have hA : ∀ st ∈ logs n 1 l ++ [.put 0 (sealed n (record (pgsOf l)))], ∃ (i : Nat) (s : Bytes), st = .put i s ∧ i < im.length ∧ nwLog n l i = some s := by
    intro st hst
    rcases List.mem_append.1 hst with hst | hst
    · obtain ⟨j, x, hj, rfl⟩ := mem_logs hst
      have := (List.getElem?_eq_some_iff.1 hj).1
      refine ⟨j + 1, sealed n x.2, by congr 1; omega, by omega, ?_⟩
      simp only [nwLog, hj]
      rfl
    · have : st = .put 0 (sealed n (record (pgsOf l))) := by simpa using hst
      subst this
      exact ⟨0, _, rfl, by omega, rfl⟩
  rw [hS]
  obtain ⟨a1, a2⟩ := run_puts _ d hP0 hoff hA
  rcases a2 with a2 | ⟨a2, a3, _, a5⟩
  · left
    rw [runAll_bad (by rw [a2]; decide)]
    exact ⟨a2, a1⟩
  · rw [runAll_snoc0 a2]
    generalize (runAll d (logs n 1 l ++ [.put 0 (sealed n (record (pgsOf l)))])).2 = d1 at a1 a3 a5 ⊢
    rcases flush_cases d1 a3 with hf | ⟨tr, hf⟩
    · left
      have e : runAll d1 (.flush :: (datas n l ++ [.flush])) = (20, { d1 with off := true }) := by simp [runAll, runStep, hf]
      rw [e]
      exact ⟨rfl, ⟨a1.old, a1.new⟩⟩
    · right
      have e : runAll d1 (.flush :: (datas n l ++ [.flush])) = runAll { d1 with trip := tr, pg := d1.pg.map Pg.flush } (datas n l ++ [.flush]) := by simp [runAll, runStep, hf]
      rw [e]
      obtain ⟨R1, r1, r2, r3, r4⟩ := flush_all a1
      have hfull : Full n l R1 := by
        refine ⟨?_, fun j x hj => ?_⟩
        · obtain ⟨p, hp, hn⟩ := a5 0 _ (List.mem_append.2 (.inr (List.mem_singleton.2 rfl)))
          rw [r4 0 p hp hn]
          rfl
        · have hm := logs_mem (t := n) (k := 1) hj
          rw [show (1 : Int) + (j : Int) = ((j + 1 : Nat) : Int) by omega] at hm
          obtain ⟨p, hp, hn⟩ := a5 (j + 1) _ (List.mem_append.2 (.inl hm))
          rw [show 1 + j = j + 1 by omega, r4 _ p hp hn]
          simp only [nwLog, hj]
          rfl
      have hoth : ∀ i : Nat, 17 ≤ i → R1[i]? = im[i]? := fun i hi => r3 i (nwLog_high hb hi)
      have hlow : ∀ (i : Nat) s, i < 17 → R1[i]? = some s → Pst n s := by
        intro i s hi hs
        cases hw : nwLog n l i with
        | none => rw [r3 i hw] at hs; exact (I.pg i s hs).mono (by omega)
        | some b =>
          obtain ⟨data, hdl, rfl⟩ := nwLog_sealed hb hw
          have : R1[i]? = some (sealed n data) := by
            cases i with
            | zero =>
              rw [hfull.head]
              exact hw
            | succ j =>
              simp only [nwLog] at hw
              cases hj : l[j]? with
              | none => rw [hj] at hw; cases hw
              | some x =>
                rw [hj] at hw
                rw [show j + 1 = 1 + j by omega, hfull.body j x hj]
                exact hw
          rw [this] at hs
          rw [← Option.some.inj hs]
          exact Pst.sealed h1 (by omega) hdl
      have hP1 : Pend (nwData n l) R1 { d1 with trip := tr, pg := d1.pg.map Pg.flush } := by
        refine ⟨?_, fun i p b hp hpb => ?_⟩
        · show (d1.pg.map Pg.flush).map Pg.old = R1
          rw [r1, List.map_map]
          exact List.map_id'' (fun _ => rfl) _
        · have hp : (d1.pg.map Pg.flush)[i]? = some p := hp
          rw [r1, List.getElem?_map] at hp
          cases hi : R1[i]? with
          | none => rw [hi] at hp; cases hp
          | some s =>
            rw [hi] at hp
            have := Option.some.inj hp
            subst this
            cases hpb
      have hD : ∀ st ∈ datas n l, ∃ (i : Nat) (s : Bytes), st = .put i s ∧ i < R1.length ∧ nwData n l i = some s := by
        intro st hst
        obtain ⟨x, hx, rfl⟩ := mem_datas hst
        have hat := hb.at_ x hx
        refine ⟨17 + x.1.toNat, sealed n x.2, by congr 1; omega, by omega, nwData_mem hb.inc hx _ (by omega)⟩
      obtain ⟨b1, b2⟩ := run_puts _ _ hP1 (show ({ d1 with trip := tr, pg := d1.pg.map Pg.flush } : Disk).off = false from a3) hD
      rcases b2 with b2 | ⟨b2, b3, _, b5⟩
      · left
        rw [runAll_bad (by rw [b2]; decide)]
        exact ⟨b2, R1, b1, r2, hfull, hlow, hoth⟩
      · rw [runAll_snoc0 b2]
        generalize (runAll { d1 with trip := tr, pg := d1.pg.map Pg.flush } (datas n l)).2 = d2 at b1 b3 b5 ⊢
        rcases flush_cases d2 b3 with hf2 | ⟨tr2, hf2⟩
        · left
          have e : runAll d2 [.flush] = (20, { d2 with off := true }) := by simp [runAll, runStep, hf2]
          rw [e]
          exact ⟨rfl, R1, ⟨b1.old, b1.new⟩, r2, hfull, hlow, hoth⟩
        · right
          have e : runAll d2 [.flush] = (0, { d2 with trip := tr2, pg := d2.pg.map Pg.flush }) := by simp [runAll, runStep, hf2]
          rw [e]
          obtain ⟨R2, s1, s2, s3, s4⟩ := flush_all b1
          have hk : ∀ i : Nat, (∀ x ∈ l, 17 + x.1 ≠ (i : Int)) → R2[i]? = R1[i]? := by
            intro i hx
            refine s3 i ?_
            cases hw : nwData n l i with
            | none => rfl
            | some b =>
              obtain ⟨x, hx', e, _⟩ := nwData_spec hw
              exact absurd e (hx x hx')
          have hk17 : ∀ i : Nat, i < 17 → R2[i]? = R1[i]? := fun i hi => hk i (fun x hx e => by have := hb.at_ x hx; omega)
          refine ⟨rfl, R2, s1, ⟨s2.trans r2, ⟨by rw [hk17 0 (by omega)]; exact hfull.head, fun j x hj => ?_⟩, fun i s hi hs => hlow i s hi (by rw [← hk17 i hi]; exact hs), fun i hi hx => by rw [hk i hx, hoth i hi], fun x hx => ?_⟩⟩
          · have := (List.getElem?_eq_some_iff.1 hj).1
            rw [hk17 (1 + j) (by omega)]
            exact hfull.body j x hj
          · have hat := hb.at_ x hx
            have hm := datas_mem (t := n) hx
            rw [show 17 + x.1 = ((17 + x.1.toNat : Nat) : Int) by omega] at hm
            obtain ⟨p, hp, hn⟩ := b5 _ _ hm
            rw [s4 _ p hp hn]
            exact nwData_mem hb.inc hx _ (by omega)
end
end Go.Proofs.Ytpoagpaglocpeaa
