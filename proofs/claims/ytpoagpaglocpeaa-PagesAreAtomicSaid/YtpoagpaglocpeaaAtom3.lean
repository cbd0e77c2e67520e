/- Plain law of a cut: what stands on the pages behind a write that was interrupted, and behind the replay. -/
import Derived.Test.YtpoagpaglocpeaaAtom2
namespace Go.Proofs.Ytpoagpaglocpeaa
set_option linter.unusedSimpArgs false
set_option linter.unusedVariables false
set_option linter.unnecessarySimpa false
open M

/-- Pages at rest: whole data pages, numbers up to t, and the log's data stand on its data pages. -/
structure Inv (t : Nat) (im : List Bytes) : Prop where
  len : 18 ≤ im.length
  few : im.length ≤ 4096
  pg : ∀ (i : Nat) s, im[i]? = some s → Pst t s
  good : ∀ (i : Nat) s, 17 ≤ i → im[i]? = some s → (unsealed s).ok = true
  same : ∀ (j x : Nat), (targets im)[j]? = some x → im[17 + x]? = im[1 + j]?

def Mix (nw : Nat → Option Bytes) (im im' : List Bytes) : Prop :=
  im'.length = im.length ∧ ∀ (i : Nat) s, im[i]? = some s → im'[i]? = some s ∨ ∃ b k, nw i = some b ∧ im'[i]? = some (b.take k ++ s.drop k)

def nwLog (n : Nat) (l : List PW) : Nat → Option Bytes
  | 0 => some (sealed n (record (pgsOf l)))
  | j + 1 => (l[j]?).map fun x => sealed n x.2
def nwData (n : Nat) (l : List PW) (i : Nat) : Option Bytes := (l.find? fun x => decide (17 + x.1 = (i : Int))).map fun x => sealed n x.2

/-- The pages behind a write that came through. -/
structure Res (n : Nat) (l : List PW) (im R : List Bytes) : Prop where
  len : R.length = im.length
  full : Full n l R
  low : ∀ (i : Nat) s, i < 17 → R[i]? = some s → Pst n s
  other : ∀ i : Nat, 17 ≤ i → (∀ x ∈ l, 17 + x.1 ≠ (i : Int)) → R[i]? = im[i]?
  new : ∀ x ∈ l, R[17 + x.1.toNat]? = some (sealed n x.2)

/-- The data of all pages. -/
def conts (im : List Bytes) : List Bytes := (im.drop 17).map fun s => (unsealed s).data
def changed (old : List Bytes) (l : List PW) : List Bytes := l.foldl (fun a x => if 0 ≤ x.1 ∧ x.1 < (a.length : Int) then a.set x.1.toNat x.2 else a) old

theorem changed_length : ∀ (l : List PW) (old : List Bytes), (changed old l).length = old.length
  | [], _ => rfl
  | x :: l, old => by
    have := changed_length l (if 0 ≤ x.1 ∧ x.1 < (old.length : Int) then old.set x.1.toNat x.2 else old)
    rw [show changed old (x :: l) = changed (if 0 ≤ x.1 ∧ x.1 < (old.length : Int) then old.set x.1.toNat x.2 else old) l from rfl, this]
    split <;> simp
theorem changed_other : ∀ (l : List PW) (old : List Bytes) (i : Nat), (∀ x ∈ l, x.1 ≠ (i : Int)) → (changed old l)[i]? = old[i]?
  | [], _, _, _ => rfl
  | x :: l, old, i, h => by
    rw [show changed old (x :: l) = changed (if 0 ≤ x.1 ∧ x.1 < (old.length : Int) then old.set x.1.toNat x.2 else old) l from rfl, changed_other l _ i (fun y hy => h y (by simp [hy]))]
    split
    · rw [List.getElem?_set_ne]
      have := h x (by simp)
      omega
    · rfl
theorem changed_new : ∀ (l : List PW) (old : List Bytes) (x : PW), l.Pairwise (fun x y => x.1 < y.1) → x ∈ l → 0 ≤ x.1 → x.1 < (old.length : Int) → (changed old l)[x.1.toNat]? = some x.2
  | [], _, _, _, h, _, _ => by simp at h
  | y :: l, old, x, hp, hx, h0, h1 => by
    rw [show changed old (y :: l) = changed (if 0 ≤ y.1 ∧ y.1 < (old.length : Int) then old.set y.1.toNat y.2 else old) l from rfl]
    rw [List.pairwise_cons] at hp
    rcases List.mem_cons.1 hx with rfl | hx
    · rw [if_pos ⟨h0, h1⟩, changed_other l _ _ (fun z hz => by have := hp.1 z hz; omega), List.getElem?_set_self (by omega)]
    · exact changed_new l _ x hp.2 hx h0 (by split <;> simpa using h1)

theorem conts_get (im : List Bytes) (i : Nat) : (conts im)[i]? = (im[17 + i]?).map fun s => (unsealed s).data := by simp [conts]
theorem conts_length (im : List Bytes) : (conts im).length = im.length - 17 := by simp [conts]

section
variable {t n : Nat} {l : List PW} {im : List Bytes}

theorem Res.inv {R : List Bytes} (h : Res n l im R) (I : Inv t im) (hb : Bat im.length l) (ht : t ≤ n) (h1 : 1 ≤ n) (h2 : n < 256) : Inv n R := by
  have hT := h.full.targets hb h1 (by omega) h.len I.few
  have hdat : ∀ (i : Nat) s, 17 ≤ i → R[i]? = some s → (∃ x ∈ l, s = sealed n x.2 ∧ x.2.length = 116) ∨ im[i]? = some s := by
    intro i s hi hs
    by_cases hx : ∃ x ∈ l, 17 + x.1 = (i : Int)
    · obtain ⟨x, hx, e⟩ := hx
      left
      have := h.new x hx
      have := (hb.at_ x hx)
      rw [show 17 + x.1.toNat = i by omega, hs] at *
      exact ⟨x, hx, Option.some.inj ‹_›, this.2.2⟩
    · right
      rw [← h.other i hi (fun x hx' e => hx ⟨x, hx', e⟩)]
      exact hs
  refine ⟨by rw [h.len]; exact I.len, by rw [h.len]; exact I.few, ?_, ?_, ?_⟩
  · intro i s hs
    by_cases hi : i < 17
    · exact h.low i s hi hs
    · rcases hdat i s (by omega) hs with ⟨x, hx, rfl, h3⟩ | h3
      · exact Pst.sealed h1 (by omega) h3
      · exact (I.pg i s h3).mono ht
  · intro i s hi hs
    rcases hdat i s hi hs with ⟨x, hx, rfl, h3⟩ | h3
    · rw [unsealed_sealed h1 (by omega) h3]
    · exact I.good i s hi h3
  · intro j x hj
    rw [hT] at hj
    unfold pgsOf at hj
    rw [List.getElem?_map] at hj
    cases hl : l[j]? with
    | none => rw [hl] at hj; cases hj
    | some y =>
      rw [hl] at hj
      have e : y.1.toNat = x := Option.some.inj hj
      rw [← e, h.new y (List.mem_of_getElem? hl), h.full.body j y hl]

theorem Res.conts_eq {R : List Bytes} (h : Res n l im R) (I : Inv t im) (hb : Bat im.length l) (h1 : 1 ≤ n) (h2 : n < 256) : conts R = changed (conts im) l := by
  apply List.ext_getElem?
  intro i
  have hlen := I.len
  by_cases hi : 17 + i < im.length
  · by_cases hx : ∃ x ∈ l, 17 + x.1 = ((17 + i : Nat) : Int)
    · obtain ⟨x, hx, e⟩ := hx
      have hat := hb.at_ x hx
      have e2 : i = x.1.toNat := by omega
      subst e2
      rw [changed_new l _ x hb.inc hx hat.1 (by rw [conts_length]; omega), conts_get, h.new x hx, Option.map_some, unsealed_sealed h1 (by omega) hat.2.2]
    · rw [changed_other l _ i (fun x hx' e => hx ⟨x, hx', by omega⟩), conts_get, conts_get, h.other (17 + i) (by omega) (fun x hx' e => hx ⟨x, hx', e⟩)]
  · rw [List.getElem?_eq_none (by rw [conts_length, h.len]; omega), List.getElem?_eq_none (by rw [changed_length, conts_length]; omega)]

theorem nwLog_sealed (hb : Bat im.length l) {i : Nat} {b : Bytes} (h : nwLog n l i = some b) : ∃ data : Bytes, data.length = 116 ∧ b = sealed n data := by
  cases i with
  | zero =>
    have e : sealed n (record (pgsOf l)) = b := Option.some.inj h
    exact ⟨_, record_length _ (by simp [pgsOf]; exact hb.few), e.symm⟩
  | succ j =>
    simp only [nwLog] at h
    cases hl : l[j]? with
    | none => rw [hl] at h; cases h
    | some y =>
      rw [hl] at h
      have e : sealed n y.2 = b := Option.some.inj h
      exact ⟨y.2, (hb.at_ y (List.mem_of_getElem? hl)).2.2, e.symm⟩
theorem nwLog_high (hb : Bat im.length l) {i : Nat} (hi : 17 ≤ i) : nwLog n l i = none := by
  obtain ⟨j, rfl⟩ : ∃ j, i = j + 1 := ⟨i - 1, by omega⟩
  simp only [nwLog]
  have := hb.few
  rw [List.getElem?_eq_none (by omega)]
  rfl
theorem nwData_spec {i : Nat} {b : Bytes} (h : nwData n l i = some b) : ∃ x ∈ l, 17 + x.1 = (i : Int) ∧ b = sealed n x.2 := by
  unfold nwData at h
  cases hf : l.find? (fun x => decide (17 + x.1 = (i : Int))) with
  | none => rw [hf] at h; cases h
  | some x =>
    rw [hf] at h
    have e : sealed n x.2 = b := Option.some.inj h
    exact ⟨x, List.mem_of_find?_eq_some hf, by simpa using List.find?_some hf, e.symm⟩

/-- A complete log is replayed. -/
theorem full_res {im' : List Bytes} (I : Inv t im) (hb : Bat im.length l) (h1 : 1 ≤ n) (h2 : n < 256) (hl : im'.length = im.length) (hf : Full n l im') (hlow : ∀ (i : Nat) s, i < 17 → im'[i]? = some s → Pst n s)
    (ho : ∀ i : Nat, 17 ≤ i → (∀ x ∈ l, 17 + x.1 ≠ (i : Int)) → im'[i]? = im[i]?) : Res n l im (replayed im') := by
  have hT := hf.targets hb h1 (by omega) hl I.few
  have hlen := I.len
  have hpl : (pgsOf l).length = l.length := by simp [pgsOf]
  have hg : ∀ j, (hj : j < l.length) → (pgsOf l).getD j 0 = l[j].1.toNat := by
    intro j hj
    simp [pgsOf, List.getD, hj]
  have hlog : ∀ i : Nat, i < 17 → (replayed im')[i]? = im'[i]? := by
    intro i hi
    unfold replayed
    exact replayN_other _ (fun j _ => by omega)
  refine ⟨?_, ⟨?_, ?_⟩, ?_, ?_, ?_⟩
  · unfold replayed
    rw [replayN_length, hl]
  · rw [hlog 0 (by omega)]; exact hf.head
  · intro j x hj
    have := (List.getElem?_eq_some_iff.1 hj).1
    have := hb.few
    rw [hlog (1 + j) (by omega)]
    exact hf.body j x hj
  · intro i s hi hs
    rw [hlog i hi] at hs
    exact hlow i s hi hs
  · intro i hi hx
    rw [← ho i hi hx]
    unfold replayed
    rw [hT]
    refine replayN_other _ (fun j hj => ?_)
    rw [hpl] at hj
    rw [hg j hj]
    have h3 := hx l[j] (List.getElem_mem hj)
    have h4 := hb.at_ l[j] (List.getElem_mem hj)
    omega
  · intro x hx
    obtain ⟨j, hj, rfl⟩ := List.getElem_of_mem hx
    unfold replayed
    rw [hT, ← hg j hj]
    rw [replayN_at ?_ (by omega) (by rw [hpl]; exact hb.few) ?_ _ j (Nat.le_refl _) (by omega)]
    · exact hf.body j _ (List.getElem?_eq_getElem hj)
    · intro i hi
      rw [hpl] at hi
      rw [hg i hi]
      have := hb.at_ l[i] (List.getElem_mem hi)
      omega
    · intro i k hik hk
      rw [hpl] at hk
      rw [hg i (by omega), hg k hk]
      have h3 := List.pairwise_iff_getElem.1 hb.inc i k (by omega) hk hik
      have h4 := hb.at_ (l[i]'(by omega)) (List.getElem_mem _)
      omega

/-- The power failed ahead of the log's flush. -/
theorem cut_log {im' : List Bytes} (I : Inv t im) (hb : Bat im.length l) (ht : t < n) (h2 : n < 256) (hm : Mix (nwLog n l) im im') : Inv n (replayed im') ∧ (conts (replayed im') = conts im ∨ conts (replayed im') = changed (conts im) l) := by
  have h1 : 1 ≤ n := by omega
  have hlen := I.len
  have few := hb.few
  have hpg : ∀ (i : Nat) s, im[i]? = some s → im'[i]? = some s ∨ (∃ b, nwLog n l i = some b ∧ im'[i]? = some b) ∨ ∃ s', im'[i]? = some s' ∧ Pst n s' ∧ (unsealed s').ok = false := by
    intro i s hs
    rcases hm.2 i s hs with h | ⟨b, k, hb', h⟩
    · exact .inl h
    · obtain ⟨data, hd, rfl⟩ := nwLog_sealed hb hb'
      rcases torn (I.pg i s hs) ht h2 hd k with e | e | e
      · rw [e] at h; exact .inl h
      · rw [e] at h; exact .inr (.inl ⟨_, hb', h⟩)
      · exact .inr (.inr ⟨_, h, e⟩)
  have hdat : ∀ i : Nat, 17 ≤ i → im'[i]? = im[i]? := by
    intro i hi
    cases hs : im[i]? with
    | none => rw [List.getElem?_eq_none_iff] at hs ⊢; rw [hm.1]; exact hs
    | some s =>
      rcases hm.2 i s hs with h | ⟨b, k, hb', h⟩
      · exact h
      · rw [nwLog_high hb hi] at hb'; cases hb'
  have hps : ∀ (i : Nat) s, im'[i]? = some s → Pst n s := by
    intro i s hs
    have hi : i < im.length := by rw [← hm.1]; exact (List.getElem?_eq_some_iff.1 hs).1
    rcases hpg i _ (List.getElem?_eq_getElem hi) with h | ⟨b, hb', h⟩ | ⟨s', h, h3, _⟩
    · rw [hs] at h
      rw [Option.some.inj h]
      exact (I.pg i _ (List.getElem?_eq_getElem hi)).mono (by omega)
    · rw [hs] at h
      rw [Option.some.inj h]
      obtain ⟨data, hd, rfl⟩ := nwLog_sealed hb hb'
      exact Pst.sealed h1 (by omega) hd
    · rw [hs] at h
      rw [Option.some.inj h]
      exact h3
  have hgd : ∀ (i : Nat) s, 17 ≤ i → im'[i]? = some s → (unsealed s).ok = true := fun i s hi hs => I.good i s hi (by rw [← hdat i hi]; exact hs)
  have hct : conts im' = conts im := by
    apply List.ext_getElem?
    intro i
    rw [conts_get, conts_get, hdat (17 + i) (by omega)]
  have keep : (∀ (j x : Nat), (targets im')[j]? = some x → im'[17 + x]? = im'[1 + j]?) → Inv n (replayed im') ∧ (conts (replayed im') = conts im ∨ conts (replayed im') = changed (conts im) l) := by
    intro hs
    have e : replayed im' = im' := by
      unfold replayed
      refine replayN_same (by rw [hm.1]; omega) (targets_spec im').1 (fun j hj => ?_) _ (Nat.le_refl _)
      refine hs j _ ?_
      simp [List.getD, hj]
    rw [e]
    exact ⟨⟨by rw [hm.1]; exact I.len, by rw [hm.1]; exact I.few, hps, hgd, hs⟩, .inl hct⟩
  by_cases hT : targets im' = []
  · exact keep (by rw [hT]; simp)
  · obtain ⟨g1, g2, g3, g4, g5⟩ := targets_elim hT
    have h0 := List.getElem?_eq_getElem (show 0 < im.length by omega)
    have gj : ∀ j, j < tk (unsealed (im'.getD 0 [])) → ∃ s, im'[1 + j]? = some s ∧ (unsealed s).ok = true ∧ (unsealed s).n = (unsealed (im'.getD 0 [])).n := by
      intro j hj
      have := tgood_spec (g4 j hj)
      have hj' : 1 + j < im'.length := by rw [hm.1]; omega
      have e := List.getElem?_eq_getElem hj'
      rw [getD_some e] at this
      exact ⟨_, e, this.1, this.2.1⟩
    rcases hpg 0 _ h0 with h | ⟨b, hb', h⟩ | ⟨s', h, _, h3⟩
    · have e0 : im'.getD 0 [] = im.getD 0 [] := by rw [getD_some h, getD_some h0]
      have hn0 : (unsealed (im'.getD 0 [])).n ≤ t := by
        rw [e0, getD_some h0]
        rw [e0, getD_some h0] at g1
        rw [(ok_numbers g1).2.2]
        exact (I.pg 0 _ h0).hi
      have hold : ∀ j, j < tk (unsealed (im'.getD 0 [])) → im'[1 + j]? = im[1 + j]? := by
        intro j hj
        obtain ⟨s, hs, hok, hn⟩ := gj j hj
        have hj' : 1 + j < im.length := by omega
        have e := List.getElem?_eq_getElem hj'
        rcases hpg (1 + j) _ e with k | ⟨b, kb, k⟩ | ⟨s', k, _, k3⟩
        · rw [k, e]
        · exfalso
          obtain ⟨data, hd, rfl⟩ := nwLog_sealed hb kb
          rw [hs] at k
          rw [Option.some.inj k, unsealed_sealed h1 (by omega) hd] at hn
          simp only at hn
          omega
        · exfalso
          rw [hs] at k
          rw [← Option.some.inj k, hok] at k3
          cases k3
      have hTT : targets im' = targets im := targets_congr hm.1 e0 (fun j hj => by
        rw [← e0] at hj
        rw [List.getD_eq_getElem?_getD, List.getD_eq_getElem?_getD, hold j hj])
      refine keep (fun j x hjx => ?_)
      have hj : j < tk (unsealed (im'.getD 0 [])) := by
        have := (List.getElem?_eq_some_iff.1 hjx).1
        rw [g5, txs_length] at this
        exact this
      rw [hold j hj, hdat (17 + x) (by omega)]
      exact I.same j x (by rw [← hTT]; exact hjx)
    · have hb0 : sealed n (record (pgsOf l)) = b := Option.some.inj hb'
      subst hb0
      have hpl : (pgsOf l).length = l.length := by simp [pgsOf]
      have hr : (record (pgsOf l)).length = 116 := record_length _ (by omega)
      have hu : unsealed (im'.getD 0 []) = ⟨n, record (pgsOf l), true⟩ := by rw [getD_some h, unsealed_sealed h1 (by omega) hr]
      have hk : tk (unsealed (im'.getD 0 [])) = l.length := by
        rw [hu]
        unfold tk
        simp only [if_true]
        rw [record_first _ (by omega), hpl]
      have hfull : Full n l im' := by
        refine ⟨h, fun j x hj => ?_⟩
        have hjl := (List.getElem?_eq_some_iff.1 hj).1
        obtain ⟨s, hs, hok, hn⟩ := gj j (by omega)
        have hn : (unsealed s).n = n := by rw [hn, hu]
        have hj' : 1 + j < im.length := by omega
        have e := List.getElem?_eq_getElem hj'
        rcases hpg (1 + j) _ e with k | ⟨b, kb, k⟩ | ⟨s', k, _, k3⟩
        · exfalso
          have := (I.pg _ _ e).hi
          rw [hs] at k
          have e2 := Option.some.inj k
          rw [← e2, ← (ok_numbers hok).2.2, hn] at this
          omega
        · rw [k, ← kb, show 1 + j = j + 1 by omega]
          simp only [nwLog]
          rw [hj]
          rfl
        · exfalso
          rw [hs] at k
          rw [← Option.some.inj k, hok] at k3
          cases k3
      have R := full_res I hb h1 h2 hm.1 hfull (fun i s _ hs => hps i s hs) (fun i hi _ => hdat i hi)
      exact ⟨R.inv I hb (by omega) h1 h2, .inr (R.conts_eq I hb h1 h2)⟩
    · exfalso
      rw [getD_some h] at g1
      rw [g1] at h3
      cases h3

/-- The power failed behind the log's flush. -/
theorem cut_data {R1 im' : List Bytes} (I : Inv t im) (hb : Bat im.length l) (h1 : 1 ≤ n) (h2 : n < 256) (hl : R1.length = im.length) (hf : Full n l R1) (hlow : ∀ (i : Nat) s, i < 17 → R1[i]? = some s → Pst n s) (ho : ∀ i : Nat, 17 ≤ i → R1[i]? = im[i]?)
    (hm : Mix (nwData n l) R1 im') : Res n l im (replayed im') := by
  have hlen := I.len
  have same : ∀ i : Nat, (∀ x ∈ l, 17 + x.1 ≠ (i : Int)) → im'[i]? = R1[i]? := by
    intro i hx
    cases hs : R1[i]? with
    | none => rw [List.getElem?_eq_none_iff] at hs ⊢; rw [hm.1]; exact hs
    | some s =>
      rcases hm.2 i s hs with h | ⟨b, k, hb', h⟩
      · exact h
      · obtain ⟨x, hx', e, _⟩ := nwData_spec hb'
        exact absurd e (hx x hx')
  have low : ∀ i : Nat, i < 17 → im'[i]? = R1[i]? := fun i hi => same i (fun x hx e => by have := hb.at_ x hx; omega)
  have few := hb.few
  refine full_res I hb h1 h2 (hm.1.trans hl) ⟨by rw [low 0 (by omega)]; exact hf.head, fun j x hj => ?_⟩ (fun i s hi hs => hlow i s hi (by rw [← low i hi]; exact hs)) (fun i hi hx => by rw [same i hx, ho i hi])
  have := (List.getElem?_eq_some_iff.1 hj).1
  rw [low (1 + j) (by omega)]
  exact hf.body j x hj
end
end Go.Proofs.Ytpoagpaglocpeaa
