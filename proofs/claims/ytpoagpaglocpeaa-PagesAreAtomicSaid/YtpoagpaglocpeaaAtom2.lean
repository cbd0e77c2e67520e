/- Plain law of the log: its targets, its replay, over pages of which some were torn. -/
import Derived.Test.YtpoagpaglocpeaaAtom1
namespace Go.Proofs.Ytpoagpaglocpeaa
set_option linter.unusedSimpArgs false
set_option linter.unusedVariables false
set_option linter.unnecessarySimpa false
open M

def pgsOf (l : List PW) : List Nat := l.map fun x => x.1.toNat

/-- The writes of a batch that was accepted. -/
structure Bat (N : Nat) (l : List PW) : Prop where
  ne : l ≠ []
  few : l.length ≤ 16
  at_ : ∀ x ∈ l, 0 ≤ x.1 ∧ x.1 < (N : Int) - 17 ∧ x.2.length = 116
  inc : l.Pairwise fun x y => x.1 < y.1

theorem okFrom_inc {n : Int} : ∀ {l : List PW} {o : Option Int}, okFrom n o l = true → (∀ y, o = some y → ∀ x ∈ l, y < x.1) ∧ l.Pairwise (fun x y => x.1 < y.1)
  | [], o, h => ⟨by simp, List.Pairwise.nil⟩
  | z :: l, o, h => by
    simp only [okFrom, Bool.and_eq_true] at h
    obtain ⟨h1, h2⟩ := okFrom_inc h.2
    have hz : ∀ x ∈ l, z.1 < x.1 := h1 z.1 rfl
    refine ⟨?_, List.Pairwise.cons hz h2⟩
    intro y hy x hx
    subst hy
    have hyz : y < z.1 := by
      have := h.1
      simp only [Bool.not_eq_true', Bool.or_eq_false_iff, decide_eq_false_iff_not] at this
      omega
    rcases List.mem_cons.1 hx with rfl | hx
    · exact hyz
    · have := hz x hx; omega
theorem Bat.of_check {d : Disk} {p : M.Pages} {l : List PW} (h : check d p l = 0) : Bat d.pg.length l := by
  obtain ⟨_, h1, _, h2, h3⟩ := check_ok h
  refine ⟨h2, h1, ?_, (okFrom_inc h3).2⟩
  intro x hx
  have := okFrom_mem h3 x hx
  unfold Disk.len at this
  exact this

section
variable {im : List Bytes}

/-- What is known of a log that has targets. -/
theorem targets_elim (h : targets im ≠ []) : (unsealed (im.getD 0 [])).ok = true ∧ (unsealed (im.getD 0 [])).n ≠ 0 ∧ tk (unsealed (im.getD 0 [])) ≤ 16 ∧ (∀ j, j < tk (unsealed (im.getD 0 [])) → tgood im (unsealed (im.getD 0 [])).n (unsealed (im.getD 0 [])).data j = true) ∧
    targets im = txs (unsealed (im.getD 0 [])).data (tk (unsealed (im.getD 0 []))) := by
  unfold targets at h ⊢
  simp only at h ⊢
  split at h
  · exact absurd rfl h
  · rename_i h1
    split at h
    · rename_i h2
      rw [if_neg h1, if_pos h2]
      refine ⟨?_, by omega, by omega, fun j hj => List.all_eq_true.1 h2.1 j (by simpa using hj), rfl⟩
      cases hk : (unsealed (im.getD 0 [])).ok with
      | true => rfl
      | false => exact absurd (unsealed_n hk) (by omega)
    · exact absurd rfl h
theorem tgood_spec {t : Nat} {data : Bytes} {j : Nat} (h : tgood im t data j = true) : (unsealed (im.getD (1 + j) [])).ok = true ∧ (unsealed (im.getD (1 + j) [])).n = t ∧ (tx data j : Int) < im.length - 17 ∧ (j = 0 ∨ tx data (j - 1) < tx data j) := by
  unfold tgood at h
  simp only [Bool.and_eq_true, Bool.or_eq_true, decide_eq_true_eq] at h
  exact ⟨h.1.1.1, h.1.1.2, h.1.2, h.2⟩

theorem targets_congr {im' : List Bytes} (hl : im'.length = im.length) (h0 : im'.getD 0 [] = im.getD 0 []) (h : ∀ j, j < tk (unsealed (im.getD 0 [])) → im'.getD (1 + j) [] = im.getD (1 + j) []) : targets im' = targets im := by
  have e : (List.range (tk (unsealed (im.getD 0 [])))).all (tgood im' (unsealed (im.getD 0 [])).n (unsealed (im.getD 0 [])).data) = (List.range (tk (unsealed (im.getD 0 [])))).all (tgood im (unsealed (im.getD 0 [])).n (unsealed (im.getD 0 [])).data) := by
    rw [Bool.eq_iff_iff, List.all_eq_true, List.all_eq_true]
    have e1 : ∀ j, j < tk (unsealed (im.getD 0 [])) → tgood im' (unsealed (im.getD 0 [])).n (unsealed (im.getD 0 [])).data j = tgood im (unsealed (im.getD 0 [])).n (unsealed (im.getD 0 [])).data j := by
      intro j hj
      unfold tgood
      rw [h j hj, hl]
    constructor
    · intro k j hj
      rw [← e1 j (by simpa using hj)]
      exact k j hj
    · intro k j hj
      rw [e1 j (by simpa using hj)]
      exact k j hj
  unfold targets
  simp only [h0, e]

/-- The pages that the log's first page names. -/
theorem drop_flat : ∀ (xs : List Nat) (z : Bytes) (j : Nat), j ≤ xs.length → (xs.flatMap (le 2) ++ z).drop (2 * j) = (xs.drop j).flatMap (le 2) ++ z
  | xs, z, 0, _ => by simp
  | [], z, j + 1, h => by simp at h
  | x :: xs, z, j + 1, h => by
    have := drop_flat xs z j (by simpa using h)
    rw [List.flatMap_cons, show 2 * (j + 1) = 2 * j + 1 + 1 by omega]
    simpa [le] using this
theorem tx_record (xs : List Nat) (hx : ∀ x ∈ xs, x < 65536) (j : Nat) (hj : j < xs.length) : tx (record xs) j = xs[j] := by
  have e : record xs = UInt8.ofNat xs.length :: (xs.flatMap (le 2) ++ zeros (116 - (UInt8.ofNat xs.length :: xs.flatMap (le 2)).length)) := rfl
  unfold tx
  rw [e, show 1 + 2 * j = 2 * j + 1 by omega, List.drop_succ_cons, drop_flat _ _ _ (by omega), List.drop_eq_getElem_cons hj, List.flatMap_cons, List.append_assoc]
  rw [List.take_left' (le_length 2 _)]
  exact num_le 2 _ (hx _ (List.getElem_mem hj))
theorem txs_record (xs : List Nat) (hx : ∀ x ∈ xs, x < 65536) : txs (record xs) xs.length = xs := by
  apply List.ext_getElem
  · simp [txs]
  · intro j h1 h2
    simp only [txs, List.getElem_map, List.getElem_range]
    exact tx_record xs hx j h2
theorem record_first (xs : List Nat) (h : xs.length ≤ 16) : ((record xs).getD 0 0).toNat = xs.length := by
  have e : (record xs).getD 0 0 = UInt8.ofNat xs.length := rfl
  rw [e, UInt8.toNat_ofNat']
  omega

/-- The log is complete: all its pages have been written. -/
structure Full (n : Nat) (l : List PW) (im : List Bytes) : Prop where
  head : im[0]? = some (sealed n (record (pgsOf l)))
  body : ∀ (j : Nat) x, l[j]? = some x → im[1 + j]? = some (sealed n x.2)

theorem getD_some {l : List Bytes} {i : Nat} {s : Bytes} (h : l[i]? = some s) : l.getD i [] = s := by simp [List.getD, h]
theorem Full.targets {n N : Nat} {l : List PW} (h : Full n l im) (hb : Bat N l) (h1 : 1 ≤ n) (h2 : n ≤ 1073741824) (hN : im.length = N) (hN' : N ≤ 4096) : M.targets im = pgsOf l := by
  have hpl : (pgsOf l).length = l.length := by simp [pgsOf]
  have hr : (record (pgsOf l)).length = 116 := record_length _ (by rw [hpl]; exact hb.few)
  have hsm : ∀ x ∈ pgsOf l, x < 65536 := by
    intro x hx
    obtain ⟨y, hy, rfl⟩ := List.mem_map.1 hx
    have := hb.at_ y hy
    omega
  have hpos : 0 < l.length := List.length_pos_iff.2 hb.ne
  have hfew := hb.few
  unfold M.targets
  simp only [getD_some h.head, unsealed_sealed h1 h2 hr]
  have hk : tk ⟨n, record (pgsOf l), true⟩ = (pgsOf l).length := by
    unfold tk
    simp only [if_true]
    exact record_first _ (by omega)
  rw [hk, if_neg (by omega), txs_record _ hsm, if_pos]
  refine ⟨?_, rfl⟩
  rw [List.all_eq_true]
  intro j hj
  have hj : j < l.length := by rw [List.mem_range, hpl] at hj; exact hj
  have hlj : l[j]? = some l[j] := List.getElem?_eq_getElem hj
  have hat := hb.at_ l[j] (List.getElem_mem hj)
  have e1 : tx (record (pgsOf l)) j = l[j].1.toNat := by
    rw [tx_record _ hsm j (by omega)]
    simp [pgsOf]
  have e2 : j = 0 ∨ tx (record (pgsOf l)) (j - 1) < tx (record (pgsOf l)) j := by
    by_cases j0 : j = 0
    · exact .inl j0
    · right
      rw [e1, tx_record _ hsm (j - 1) (by omega)]
      have e3 : (pgsOf l)[j - 1]'(by omega) = (l[j - 1]'(by omega)).1.toNat := by simp [pgsOf]
      rw [e3]
      have := List.pairwise_iff_getElem.1 hb.inc (j - 1) j (by omega) hj (by omega)
      have := hb.at_ (l[j - 1]'(by omega)) (List.getElem_mem _)
      omega
  unfold tgood
  rw [getD_some (h.body j _ hlj), unsealed_sealed h1 h2 hat.2.2, e1]
  rw [e1] at e2
  simp only [Bool.and_eq_true, Bool.or_eq_true, decide_eq_true_eq]
  exact ⟨⟨⟨trivial, trivial⟩, by omega⟩, e2⟩

/-- The pages behind the replay. -/
theorem replayN_other {ts : List Nat} {i : Nat} : ∀ (n : Nat), (∀ j, j < n → i ≠ 17 + ts.getD j 0) → (replayN im ts n)[i]? = im[i]?
  | 0, _ => rfl
  | n + 1, h => by
    rw [replayN, List.getElem?_set_ne (by have := h n (by omega); omega)]
    exact replayN_other n (fun j hj => h j (by omega))
theorem replayN_at {ts : List Nat} (hb : ∀ j, j < ts.length → 17 + ts.getD j 0 < im.length) (hl : 18 ≤ im.length) (h16 : ts.length ≤ 16) (hd : ∀ i j, i < j → j < ts.length → ts.getD i 0 ≠ ts.getD j 0) : ∀ (n j : Nat), n ≤ ts.length → j < n → (replayN im ts n)[17 + ts.getD j 0]? = im[1 + j]?
  | 0, j, _, h => by omega
  | n + 1, j, hn, h => by
    rw [replayN]
    by_cases e : j = n
    · subst e
      have h1 : (replayN im ts j)[1 + j]? = im[1 + j]? := replayN_other j (fun i hi => by omega)
      rw [List.getElem?_set_self (by rw [replayN_length]; exact hb j (by omega)), List.getD_eq_getElem?_getD, h1, List.getElem?_eq_getElem (show 1 + j < im.length by omega)]
      rfl
    · rw [List.getElem?_set_ne (by have := hd j n (by omega) (by omega); omega)]
      exact replayN_at hb hl h16 hd n j (by omega) (by omega)
theorem replayN_same {ts : List Nat} (hl : 18 ≤ im.length) (h16 : ts.length ≤ 16) (h : ∀ j, j < ts.length → im[17 + ts.getD j 0]? = im[1 + j]?) : ∀ (n : Nat), n ≤ ts.length → replayN im ts n = im
  | 0, _ => rfl
  | n + 1, hn => by
    rw [replayN, replayN_same hl h16 h n (by omega)]
    have e := h n (by omega)
    have h1 : 1 + n < im.length := by omega
    have e1 := List.getElem?_eq_getElem h1
    rw [getD_some e1]
    rw [e1] at e
    apply List.ext_getElem?
    intro i
    by_cases hi : 17 + ts.getD n 0 = i
    · subst hi
      rw [e, List.getElem?_set_self (List.getElem?_eq_some_iff.1 e).1]
    · rw [List.getElem?_set_ne hi]
end
end Go.Proofs.Ytpoagpaglocpeaa
