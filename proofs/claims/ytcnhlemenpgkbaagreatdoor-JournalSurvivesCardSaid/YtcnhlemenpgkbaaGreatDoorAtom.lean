/- Plain law of torn pages: a page torn between two writes is old, new, or its numbers differ. -/
import Derived.Test.YtcnhlemenpgkbaaGreatDoorModel6
namespace Go.Proofs.YtcnhlemenpgkbaaGreatDoor
set_option linter.unusedSimpArgs false
set_option linter.unusedVariables false
set_option linter.unnecessarySimpa false
open M

def hdn (s : Bytes) : Nat := num (s.take 4)
def tln (s : Bytes) : Nat := num (s.drop 124)

theorem num_le : ∀ (k n : Nat), n < 256 ^ k → num (le k n) = n
  | 0, n, h => by simp at h; subst h; rfl
  | k + 1, n, h => by
    have h' : n / 256 < 256 ^ k := by rw [Nat.pow_succ] at h; omega
    simp only [le, num, num_le k _ h', UInt8.toNat_ofNat']
    omega
theorem le_num : ∀ (s : Bytes), le s.length (num s) = s
  | [] => rfl
  | b :: s => by
    have hb := b.toNat_lt
    have e1 : (b.toNat + 256 * num s) / 256 = num s := by omega
    have e2 : UInt8.ofNat (b.toNat + 256 * num s) = b := by
      apply UInt8.toNat.inj
      rw [UInt8.toNat_ofNat']
      omega
    simp only [List.length_cons, num, le, e1, e2, le_num s]
theorem le4_small {n : Nat} (h : n < 256) : le 4 n = [UInt8.ofNat n, 0, 0, 0] := by
  have : n / 256 = 0 := by omega
  simp [le, this]
theorem four_small {s : Bytes} (hl : s.length = 4) (h : num s < 256) : s = [UInt8.ofNat (num s), 0, 0, 0] := by
  rw [← le4_small h]
  have := le_num s
  rw [hl] at this
  exact this.symm

theorem sealed_eq {n : Nat} {data : Bytes} (h1 : 1 ≤ n) (h2 : n ≤ 1073741824) (h3 : data.length = 116) : sealed n data = (le 4 n ++ data) ++ le 4 (crc (le 4 n ++ data)) ++ le 4 n := by
  unfold sealed
  rw [if_neg (by omega)]
  simp
theorem seal_len {n : Nat} {data : Bytes} (h1 : 1 ≤ n) (h2 : n ≤ 1073741824) (h3 : data.length = 116) : (sealed n data).length = 128 := by
  rw [sealed_eq h1 h2 h3]
  simp [le_length, h3]
theorem sealed_take {n : Nat} {data : Bytes} (h1 : 1 ≤ n) (h2 : n ≤ 1073741824) (h3 : data.length = 116) : (sealed n data).take 4 = le 4 n := by
  rw [sealed_eq h1 h2 h3, List.append_assoc, List.append_assoc]
  exact List.take_left' (le_length 4 n)
theorem sealed_drop {n : Nat} {data : Bytes} (h1 : 1 ≤ n) (h2 : n ≤ 1073741824) (h3 : data.length = 116) : (sealed n data).drop 124 = le 4 n := by
  rw [sealed_eq h1 h2 h3]
  exact List.drop_left' (by simp [le_length, h3])
theorem sealed_mid {n : Nat} {data : Bytes} (h1 : 1 ≤ n) (h2 : n ≤ 1073741824) (h3 : data.length = 116) : ((sealed n data).drop 4).take 116 = data := by
  rw [sealed_eq h1 h2 h3, List.append_assoc, List.append_assoc, List.drop_left' (le_length 4 n)]
  exact List.take_left' h3
theorem unsealed_sealed {n : Nat} {data : Bytes} (h1 : 1 ≤ n) (h2 : n ≤ 1073741824) (h3 : data.length = 116) : unsealed (sealed n data) = ⟨n, data, true⟩ := by
  have hn : num (le 4 n) = n := num_le 4 n (by omega)
  unfold unsealed
  rw [if_neg (by rw [seal_len h1 h2 h3]; omega), sealed_take h1 h2 h3, sealed_mid h1 h2 h3, hn, if_neg (fun h => h.1 rfl)]
theorem unsealed_blank : unsealed (zeros 128) = ⟨0, zeros 116, true⟩ := by
  unfold unsealed
  rw [if_neg (by decide +kernel), if_neg (by decide +kernel)]
  rfl

/-- What is unsealed is whole: its numbers are equal, and are its number. -/
theorem ok_numbers {s : Bytes} (h : (unsealed s).ok = true) : s.length = 128 ∧ tln s = hdn s ∧ (unsealed s).n = hdn s := by
  unfold unsealed at h ⊢
  split at h
  · cases h
  · rename_i hl
    have hl : s.length = 128 := by omega
    rw [if_neg (by omega)]
    split at h
    · cases h
    · rename_i hne
      rw [if_neg hne]
      refine ⟨hl, ?_, rfl⟩
      by_cases h1 : s = zeros 128
      · subst h1; decide +kernel
      · have h2 : s = sealed (num (s.take 4)) ((s.drop 4).take 116) := by
          by_cases h2 : s = sealed (num (s.take 4)) ((s.drop 4).take 116)
          · exact h2
          · exact absurd ⟨h2, h1⟩ hne
        by_cases hb : (num (s.take 4) : Int) < 1 ∨ (1073741824 : Int) < num (s.take 4)
        · exfalso
          have : sealed (num (s.take 4)) ((s.drop 4).take 116) = [] := by
            unfold sealed
            rw [if_pos (by omega)]
          rw [this] at h2
          rw [h2] at hl
          cases hl
        · have e1 : 1 ≤ num (s.take 4) := by omega
          have e2 : num (s.take 4) ≤ 1073741824 := by omega
          have e3 : ((s.drop 4).take 116).length = 116 := by simp; omega
          have := sealed_drop e1 e2 e3
          rw [← h2] at this
          unfold tln hdn
          rw [this]
          exact num_le 4 _ (by omega)

/-- A page of a disk whose writes have numbers up to t: its head is not below its tail; where they are equal it is whole. -/
structure Pst (t : Nat) (s : Bytes) : Prop where
  len : s.length = 128
  hi : hdn s ≤ t
  lo : tln s ≤ hdn s
  ok : tln s = hdn s → (unsealed s).ok = true

theorem Pst.mono {t t' : Nat} {s : Bytes} (h : Pst t s) (ht : t ≤ t') : Pst t' s := ⟨h.len, Nat.le_trans h.hi ht, h.lo, h.ok⟩
theorem Pst.blank (t : Nat) : Pst t (zeros 128) := by
  have e1 : hdn (zeros 128) = 0 := by decide +kernel
  have e2 : tln (zeros 128) = 0 := by decide +kernel
  exact ⟨by simp [zeros], by omega, by omega, fun _ => by rw [unsealed_blank]⟩
theorem Pst.sealed {n : Nat} {data : Bytes} (h1 : 1 ≤ n) (h2 : n ≤ 1073741824) (h3 : data.length = 116) : Pst n (M.sealed n data) := by
  have hn : num (le 4 n) = n := num_le 4 n (by omega)
  have e1 : hdn (M.sealed n data) = n := by unfold hdn; rw [sealed_take h1 h2 h3, hn]
  have e2 : tln (M.sealed n data) = n := by unfold tln; rw [sealed_drop h1 h2 h3, hn]
  exact ⟨seal_len h1 h2 h3, by omega, by omega, fun _ => by rw [unsealed_sealed h1 h2 h3]⟩

theorem torn_head (a b : UInt8) (X Y : Bytes) (k : Nat) (hk : 1 ≤ k) : (([a, 0, 0, 0] ++ X).take k ++ ([b, 0, 0, 0] ++ Y).drop k).take 4 = [a, 0, 0, 0] := by
  match k, hk with
  | 1, _ => rfl
  | 2, _ => rfl
  | 3, _ => rfl
  | k + 4, _ => simp
theorem torn {t n : Nat} {old data : Bytes} (h : Pst t old) (hn : t < n) (hn' : n < 256) (hd : data.length = 116) (k : Nat) :
    (sealed n data).take k ++ old.drop k = old ∨ (sealed n data).take k ++ old.drop k = sealed n data ∨ (Pst n ((sealed n data).take k ++ old.drop k) ∧ (unsealed ((sealed n data).take k ++ old.drop k)).ok = false) := by
  have h1 : 1 ≤ n := by omega
  have h2 : n ≤ 1073741824 := by omega
  have hlo := h.len
  have hln := seal_len h1 h2 hd
  have o4 : old = [UInt8.ofNat (hdn old), 0, 0, 0] ++ old.drop 4 := by
    have e := four_small (s := old.take 4) (by simp; omega) (by have := h.hi; unfold hdn at this; omega)
    unfold hdn
    rw [← e]
    exact (List.take_append_drop 4 old).symm
  have n4 : sealed n data = [UInt8.ofNat n, 0, 0, 0] ++ (sealed n data).drop 4 := by
    rw [← le4_small hn', ← sealed_take h1 h2 hd]
    exact (List.take_append_drop 4 _).symm
  have ot : old.drop 124 = [UInt8.ofNat (tln old), 0, 0, 0] := four_small (by simp; omega) (by have := h.hi; have := h.lo; unfold tln hdn at *; omega)
  have nt : (sealed n data).drop 124 = [UInt8.ofNat n, 0, 0, 0] := by rw [sealed_drop h1 h2 hd, le4_small hn']
  by_cases k0 : k = 0
  · subst k0; left; simp
  by_cases k1 : 124 < k
  · right; left
    have e : old.drop k = (sealed n data).drop k := by
      have a := congrArg (List.drop (k - 124)) ot
      have b := congrArg (List.drop (k - 124)) nt
      rw [List.drop_drop, show 124 + (k - 124) = k by omega] at a b
      rw [a, b]
      obtain ⟨m, hm⟩ : ∃ m, k - 124 = m + 1 := ⟨k - 125, by omega⟩
      rw [hm]
      rfl
    rw [e, List.take_append_drop]
  · right; right
    have hl : ((sealed n data).take k ++ old.drop k).length = 128 := by simp; omega
    have ht : ((sealed n data).take k ++ old.drop k).drop 124 = old.drop 124 := by
      rw [List.drop_append, List.drop_eq_nil_of_le (by simp; omega), List.nil_append, List.length_take, List.drop_drop]
      congr 1
      omega
    have hh : ((sealed n data).take k ++ old.drop k).take 4 = [UInt8.ofNat n, 0, 0, 0] := by
      rw [o4, n4]
      exact torn_head _ _ _ _ k (by omega)
    have e1 : hdn ((sealed n data).take k ++ old.drop k) = n := by
      unfold hdn
      rw [hh, ← le4_small hn']
      exact num_le 4 n (by omega)
    have e2 : tln ((sealed n data).take k ++ old.drop k) = tln old := by unfold tln; rw [ht]
    have e3 := h.hi
    have e4 := h.lo
    refine ⟨⟨hl, by omega, by omega, fun e => by omega⟩, ?_⟩
    cases hk : (unsealed ((sealed n data).take k ++ old.drop k)).ok with
    | false => rfl
    | true => exact absurd (ok_numbers hk).2.1 (by omega)
end Go.Proofs.YtcnhlemenpgkbaaGreatDoor
/- Plain law of the log: its targets, its replay, over pages of which some were torn. -/
namespace Go.Proofs.YtcnhlemenpgkbaaGreatDoor
set_option linter.unusedSimpArgs false
set_option linter.unusedVariables false
set_option linter.unnecessarySimpa false
open M

def pgsOf (l : List PW) : List Nat := l.map fun x => x.1.toNat

/-- The writes of a batch that was accepted. -/
structure Bat (N : Nat) (l : List PW) : Prop where
  ne : l ≠ []
  few : l.length ≤ 16
  at_ : ∀ x ∈ l, 0 ≤ x.1 ∧ x.1 < (N : Int) - 17 ∧ x.2.length = 116
  inc : l.Pairwise fun x y => x.1 < y.1

theorem okFrom_inc {n : Int} : ∀ {l : List PW} {o : Option Int}, okFrom n o l = true → (∀ y, o = some y → ∀ x ∈ l, y < x.1) ∧ l.Pairwise (fun x y => x.1 < y.1)
  | [], o, h => ⟨by simp, List.Pairwise.nil⟩
  | z :: l, o, h => by
    simp only [okFrom, Bool.and_eq_true] at h
    obtain ⟨h1, h2⟩ := okFrom_inc h.2
    have hz : ∀ x ∈ l, z.1 < x.1 := h1 z.1 rfl
    refine ⟨?_, List.Pairwise.cons hz h2⟩
    intro y hy x hx
    subst hy
    have hyz : y < z.1 := by
      have := h.1
      simp only [Bool.not_eq_true', Bool.or_eq_false_iff, decide_eq_false_iff_not] at this
      omega
    rcases List.mem_cons.1 hx with rfl | hx
    · exact hyz
    · have := hz x hx; omega
theorem Bat.of_check {d : Disk} {p : M.Pages} {l : List PW} (h : check d p l = 0) : Bat d.pg.length l := by
  obtain ⟨_, h1, _, h2, h3⟩ := check_ok h
  refine ⟨h2, h1, ?_, (okFrom_inc h3).2⟩
  intro x hx
  have := okFrom_mem h3 x hx
  unfold Disk.len at this
  exact this

section
variable {im : List Bytes}

/-- What is known of a log that has targets. -/
theorem targets_elim (h : targets im ≠ []) : (unsealed (im.getD 0 [])).ok = true ∧ (unsealed (im.getD 0 [])).n ≠ 0 ∧ tk (unsealed (im.getD 0 [])) ≤ 16 ∧ (∀ j, j < tk (unsealed (im.getD 0 [])) → tgood im (unsealed (im.getD 0 [])).n (unsealed (im.getD 0 [])).data j = true) ∧
    targets im = txs (unsealed (im.getD 0 [])).data (tk (unsealed (im.getD 0 []))) := by
  unfold targets at h ⊢
  simp only at h ⊢
  split at h
  · exact absurd rfl h
  · rename_i h1
    split at h
    · rename_i h2
      rw [if_neg h1, if_pos h2]
      refine ⟨?_, by omega, by omega, fun j hj => List.all_eq_true.1 h2.1 j (by simpa using hj), rfl⟩
      cases hk : (unsealed (im.getD 0 [])).ok with
      | true => rfl
      | false => exact absurd (unsealed_n hk) (by omega)
    · exact absurd rfl h
theorem tgood_spec {t : Nat} {data : Bytes} {j : Nat} (h : tgood im t data j = true) : (unsealed (im.getD (1 + j) [])).ok = true ∧ (unsealed (im.getD (1 + j) [])).n = t ∧ (tx data j : Int) < im.length - 17 ∧ (j = 0 ∨ tx data (j - 1) < tx data j) := by
  unfold tgood at h
  simp only [Bool.and_eq_true, Bool.or_eq_true, decide_eq_true_eq] at h
  exact ⟨h.1.1.1, h.1.1.2, h.1.2, h.2⟩

theorem targets_congr {im' : List Bytes} (hl : im'.length = im.length) (h0 : im'.getD 0 [] = im.getD 0 []) (h : ∀ j, j < tk (unsealed (im.getD 0 [])) → im'.getD (1 + j) [] = im.getD (1 + j) []) : targets im' = targets im := by
  have e : (List.range (tk (unsealed (im.getD 0 [])))).all (tgood im' (unsealed (im.getD 0 [])).n (unsealed (im.getD 0 [])).data) = (List.range (tk (unsealed (im.getD 0 [])))).all (tgood im (unsealed (im.getD 0 [])).n (unsealed (im.getD 0 [])).data) := by
    rw [Bool.eq_iff_iff, List.all_eq_true, List.all_eq_true]
    have e1 : ∀ j, j < tk (unsealed (im.getD 0 [])) → tgood im' (unsealed (im.getD 0 [])).n (unsealed (im.getD 0 [])).data j = tgood im (unsealed (im.getD 0 [])).n (unsealed (im.getD 0 [])).data j := by
      intro j hj
      unfold tgood
      rw [h j hj, hl]
    constructor
    · intro k j hj
      rw [← e1 j (by simpa using hj)]
      exact k j hj
    · intro k j hj
      rw [e1 j (by simpa using hj)]
      exact k j hj
  unfold targets
  simp only [h0, e]

/-- The pages that the log's first page names. -/
theorem drop_flat : ∀ (xs : List Nat) (z : Bytes) (j : Nat), j ≤ xs.length → (xs.flatMap (le 2) ++ z).drop (2 * j) = (xs.drop j).flatMap (le 2) ++ z
  | xs, z, 0, _ => by simp
  | [], z, j + 1, h => by simp at h
  | x :: xs, z, j + 1, h => by
    have := drop_flat xs z j (by simpa using h)
    rw [List.flatMap_cons, show 2 * (j + 1) = 2 * j + 1 + 1 by omega]
    simpa [le] using this
theorem tx_record (xs : List Nat) (hx : ∀ x ∈ xs, x < 65536) (j : Nat) (hj : j < xs.length) : tx (record xs) j = xs[j] := by
  have e : record xs = UInt8.ofNat xs.length :: (xs.flatMap (le 2) ++ zeros (116 - (UInt8.ofNat xs.length :: xs.flatMap (le 2)).length)) := rfl
  unfold tx
  rw [e, show 1 + 2 * j = 2 * j + 1 by omega, List.drop_succ_cons, drop_flat _ _ _ (by omega), List.drop_eq_getElem_cons hj, List.flatMap_cons, List.append_assoc]
  rw [List.take_left' (le_length 2 _)]
  exact num_le 2 _ (hx _ (List.getElem_mem hj))
theorem txs_record (xs : List Nat) (hx : ∀ x ∈ xs, x < 65536) : txs (record xs) xs.length = xs := by
  apply List.ext_getElem
  · simp [txs]
  · intro j h1 h2
    simp only [txs, List.getElem_map, List.getElem_range]
    exact tx_record xs hx j h2
theorem record_first (xs : List Nat) (h : xs.length ≤ 16) : ((record xs).getD 0 0).toNat = xs.length := by
  have e : (record xs).getD 0 0 = UInt8.ofNat xs.length := rfl
  rw [e, UInt8.toNat_ofNat']
  omega

/-- The log is complete: all its pages have been written. -/
structure Full (n : Nat) (l : List PW) (im : List Bytes) : Prop where
  head : im[0]? = some (sealed n (record (pgsOf l)))
  body : ∀ (j : Nat) x, l[j]? = some x → im[1 + j]? = some (sealed n x.2)

theorem getD_some {l : List Bytes} {i : Nat} {s : Bytes} (h : l[i]? = some s) : l.getD i [] = s := by simp [List.getD, h]
theorem Full.targets {n N : Nat} {l : List PW} (h : Full n l im) (hb : Bat N l) (h1 : 1 ≤ n) (h2 : n ≤ 1073741824) (hN : im.length = N) (hN' : N ≤ 4096) : M.targets im = pgsOf l := by
  have hpl : (pgsOf l).length = l.length := by simp [pgsOf]
  have hr : (record (pgsOf l)).length = 116 := record_length _ (by rw [hpl]; exact hb.few)
  have hsm : ∀ x ∈ pgsOf l, x < 65536 := by
    intro x hx
    obtain ⟨y, hy, rfl⟩ := List.mem_map.1 hx
    have := hb.at_ y hy
    omega
  have hpos : 0 < l.length := List.length_pos_iff.2 hb.ne
  have hfew := hb.few
  unfold M.targets
  simp only [getD_some h.head, unsealed_sealed h1 h2 hr]
  have hk : tk ⟨n, record (pgsOf l), true⟩ = (pgsOf l).length := by
    unfold tk
    simp only [if_true]
    exact record_first _ (by omega)
  rw [hk, if_neg (by omega), txs_record _ hsm, if_pos]
  refine ⟨?_, rfl⟩
  rw [List.all_eq_true]
  intro j hj
  have hj : j < l.length := by rw [List.mem_range, hpl] at hj; exact hj
  have hlj : l[j]? = some l[j] := List.getElem?_eq_getElem hj
  have hat := hb.at_ l[j] (List.getElem_mem hj)
  have e1 : tx (record (pgsOf l)) j = l[j].1.toNat := by
    rw [tx_record _ hsm j (by omega)]
    simp [pgsOf]
  have e2 : j = 0 ∨ tx (record (pgsOf l)) (j - 1) < tx (record (pgsOf l)) j := by
    by_cases j0 : j = 0
    · exact .inl j0
    · right
      rw [e1, tx_record _ hsm (j - 1) (by omega)]
      have e3 : (pgsOf l)[j - 1]'(by omega) = (l[j - 1]'(by omega)).1.toNat := by simp [pgsOf]
      rw [e3]
      have := List.pairwise_iff_getElem.1 hb.inc (j - 1) j (by omega) hj (by omega)
      have := hb.at_ (l[j - 1]'(by omega)) (List.getElem_mem _)
      omega
  unfold tgood
  rw [getD_some (h.body j _ hlj), unsealed_sealed h1 h2 hat.2.2, e1]
  rw [e1] at e2
  simp only [Bool.and_eq_true, Bool.or_eq_true, decide_eq_true_eq]
  exact ⟨⟨⟨trivial, trivial⟩, by omega⟩, e2⟩

/-- The pages behind the replay. -/
theorem replayN_other {ts : List Nat} {i : Nat} : ∀ (n : Nat), (∀ j, j < n → i ≠ 17 + ts.getD j 0) → (replayN im ts n)[i]? = im[i]?
  | 0, _ => rfl
  | n + 1, h => by
    rw [replayN, List.getElem?_set_ne (by have := h n (by omega); omega)]
    exact replayN_other n (fun j hj => h j (by omega))
theorem replayN_at {ts : List Nat} (hb : ∀ j, j < ts.length → 17 + ts.getD j 0 < im.length) (hl : 18 ≤ im.length) (h16 : ts.length ≤ 16) (hd : ∀ i j, i < j → j < ts.length → ts.getD i 0 ≠ ts.getD j 0) : ∀ (n j : Nat), n ≤ ts.length → j < n → (replayN im ts n)[17 + ts.getD j 0]? = im[1 + j]?
  | 0, j, _, h => by omega
  | n + 1, j, hn, h => by
    rw [replayN]
    by_cases e : j = n
    · subst e
      have h1 : (replayN im ts j)[1 + j]? = im[1 + j]? := replayN_other j (fun i hi => by omega)
      rw [List.getElem?_set_self (by rw [replayN_length]; exact hb j (by omega)), List.getD_eq_getElem?_getD, h1, List.getElem?_eq_getElem (show 1 + j < im.length by omega)]
      rfl
    · rw [List.getElem?_set_ne (by have := hd j n (by omega) (by omega); omega)]
      exact replayN_at hb hl h16 hd n j (by omega) (by omega)
theorem replayN_same {ts : List Nat} (hl : 18 ≤ im.length) (h16 : ts.length ≤ 16) (h : ∀ j, j < ts.length → im[17 + ts.getD j 0]? = im[1 + j]?) : ∀ (n : Nat), n ≤ ts.length → replayN im ts n = im
  | 0, _ => rfl
  | n + 1, hn => by
    rw [replayN, replayN_same hl h16 h n (by omega)]
    have e := h n (by omega)
    have h1 : 1 + n < im.length := by omega
    have e1 := List.getElem?_eq_getElem h1
    rw [getD_some e1]
    rw [e1] at e
    apply List.ext_getElem?
    intro i
    by_cases hi : 17 + ts.getD n 0 = i
    · subst hi
      rw [e, List.getElem?_set_self (List.getElem?_eq_some_iff.1 e).1]
    · rw [List.getElem?_set_ne hi]
end
end Go.Proofs.YtcnhlemenpgkbaaGreatDoor
/- Plain law of a cut: what stands on the pages behind a write that was interrupted, and behind the replay. -/
namespace Go.Proofs.YtcnhlemenpgkbaaGreatDoor
set_option linter.unusedSimpArgs false
set_option linter.unusedVariables false
set_option linter.unnecessarySimpa false
open M

/-- Pages at rest: whole data pages, numbers up to t, and the log's data stand on its data pages. -/
structure Inv (t : Nat) (im : List Bytes) : Prop where
  len : 18 ≤ im.length
  few : im.length ≤ 4096
  pg : ∀ (i : Nat) s, im[i]? = some s → Pst t s
  good : ∀ (i : Nat) s, 17 ≤ i → im[i]? = some s → (unsealed s).ok = true
  same : ∀ (j x : Nat), (targets im)[j]? = some x → im[17 + x]? = im[1 + j]?

def Mix (nw : Nat → Option Bytes) (im im' : List Bytes) : Prop :=
  im'.length = im.length ∧ ∀ (i : Nat) s, im[i]? = some s → im'[i]? = some s ∨ ∃ b k, nw i = some b ∧ im'[i]? = some (b.take k ++ s.drop k)

def nwLog (n : Nat) (l : List PW) : Nat → Option Bytes
  | 0 => some (sealed n (record (pgsOf l)))
  | j + 1 => (l[j]?).map fun x => sealed n x.2
def nwData (n : Nat) (l : List PW) (i : Nat) : Option Bytes := (l.find? fun x => decide (17 + x.1 = (i : Int))).map fun x => sealed n x.2

/-- The pages behind a write that came through. -/
structure Res (n : Nat) (l : List PW) (im R : List Bytes) : Prop where
  len : R.length = im.length
  full : Full n l R
  low : ∀ (i : Nat) s, i < 17 → R[i]? = some s → Pst n s
  other : ∀ i : Nat, 17 ≤ i → (∀ x ∈ l, 17 + x.1 ≠ (i : Int)) → R[i]? = im[i]?
  new : ∀ x ∈ l, R[17 + x.1.toNat]? = some (sealed n x.2)

/-- The data of all pages. -/
def conts (im : List Bytes) : List Bytes := (im.drop 17).map fun s => (unsealed s).data
def changed (old : List Bytes) (l : List PW) : List Bytes := l.foldl (fun a x => if 0 ≤ x.1 ∧ x.1 < (a.length : Int) then a.set x.1.toNat x.2 else a) old

theorem changed_length : ∀ (l : List PW) (old : List Bytes), (changed old l).length = old.length
  | [], _ => rfl
  | x :: l, old => by
    have := changed_length l (if 0 ≤ x.1 ∧ x.1 < (old.length : Int) then old.set x.1.toNat x.2 else old)
    rw [show changed old (x :: l) = changed (if 0 ≤ x.1 ∧ x.1 < (old.length : Int) then old.set x.1.toNat x.2 else old) l from rfl, this]
    split <;> simp
theorem changed_other : ∀ (l : List PW) (old : List Bytes) (i : Nat), (∀ x ∈ l, x.1 ≠ (i : Int)) → (changed old l)[i]? = old[i]?
  | [], _, _, _ => rfl
  | x :: l, old, i, h => by
    rw [show changed old (x :: l) = changed (if 0 ≤ x.1 ∧ x.1 < (old.length : Int) then old.set x.1.toNat x.2 else old) l from rfl, changed_other l _ i (fun y hy => h y (by simp [hy]))]
    split
    · rw [List.getElem?_set_ne]
      have := h x (by simp)
      omega
    · rfl
theorem changed_new : ∀ (l : List PW) (old : List Bytes) (x : PW), l.Pairwise (fun x y => x.1 < y.1) → x ∈ l → 0 ≤ x.1 → x.1 < (old.length : Int) → (changed old l)[x.1.toNat]? = some x.2
  | [], _, _, _, h, _, _ => by simp at h
  | y :: l, old, x, hp, hx, h0, h1 => by
    rw [show changed old (y :: l) = changed (if 0 ≤ y.1 ∧ y.1 < (old.length : Int) then old.set y.1.toNat y.2 else old) l from rfl]
    rw [List.pairwise_cons] at hp
    rcases List.mem_cons.1 hx with rfl | hx
    · rw [if_pos ⟨h0, h1⟩, changed_other l _ _ (fun z hz => by have := hp.1 z hz; omega), List.getElem?_set_self (by omega)]
    · exact changed_new l _ x hp.2 hx h0 (by split <;> simpa using h1)

theorem conts_get (im : List Bytes) (i : Nat) : (conts im)[i]? = (im[17 + i]?).map fun s => (unsealed s).data := by simp [conts]
theorem conts_length (im : List Bytes) : (conts im).length = im.length - 17 := by simp [conts]

section
variable {t n : Nat} {l : List PW} {im : List Bytes}

theorem Res.inv {R : List Bytes} (h : Res n l im R) (I : Inv t im) (hb : Bat im.length l) (ht : t ≤ n) (h1 : 1 ≤ n) (h2 : n < 256) : Inv n R := by
  have hT := h.full.targets hb h1 (by omega) h.len I.few
  have hdat : ∀ (i : Nat) s, 17 ≤ i → R[i]? = some s → (∃ x ∈ l, s = sealed n x.2 ∧ x.2.length = 116) ∨ im[i]? = some s := by
    intro i s hi hs
    by_cases hx : ∃ x ∈ l, 17 + x.1 = (i : Int)
    · obtain ⟨x, hx, e⟩ := hx
      left
      have := h.new x hx
      have := (hb.at_ x hx)
      rw [show 17 + x.1.toNat = i by omega, hs] at *
      exact ⟨x, hx, Option.some.inj ‹_›, this.2.2⟩
    · right
      rw [← h.other i hi (fun x hx' e => hx ⟨x, hx', e⟩)]
      exact hs
  refine ⟨by rw [h.len]; exact I.len, by rw [h.len]; exact I.few, ?_, ?_, ?_⟩
  · intro i s hs
    by_cases hi : i < 17
    · exact h.low i s hi hs
    · rcases hdat i s (by omega) hs with ⟨x, hx, rfl, h3⟩ | h3
      · exact Pst.sealed h1 (by omega) h3
      · exact (I.pg i s h3).mono ht
  · intro i s hi hs
    rcases hdat i s hi hs with ⟨x, hx, rfl, h3⟩ | h3
    · rw [unsealed_sealed h1 (by omega) h3]
    · exact I.good i s hi h3
  · intro j x hj
    rw [hT] at hj
    unfold pgsOf at hj
    rw [List.getElem?_map] at hj
    cases hl : l[j]? with
    | none => rw [hl] at hj; cases hj
    | some y =>
      rw [hl] at hj
      have e : y.1.toNat = x := Option.some.inj hj
      rw [← e, h.new y (List.mem_of_getElem? hl), h.full.body j y hl]

theorem Res.conts_eq {R : List Bytes} (h : Res n l im R) (I : Inv t im) (hb : Bat im.length l) (h1 : 1 ≤ n) (h2 : n < 256) : conts R = changed (conts im) l := by
  apply List.ext_getElem?
  intro i
  have hlen := I.len
  by_cases hi : 17 + i < im.length
  · by_cases hx : ∃ x ∈ l, 17 + x.1 = ((17 + i : Nat) : Int)
    · obtain ⟨x, hx, e⟩ := hx
      have hat := hb.at_ x hx
      have e2 : i = x.1.toNat := by omega
      subst e2
      rw [changed_new l _ x hb.inc hx hat.1 (by rw [conts_length]; omega), conts_get, h.new x hx, Option.map_some, unsealed_sealed h1 (by omega) hat.2.2]
    · rw [changed_other l _ i (fun x hx' e => hx ⟨x, hx', by omega⟩), conts_get, conts_get, h.other (17 + i) (by omega) (fun x hx' e => hx ⟨x, hx', e⟩)]
  · rw [List.getElem?_eq_none (by rw [conts_length, h.len]; omega), List.getElem?_eq_none (by rw [changed_length, conts_length]; omega)]

theorem nwLog_sealed (hb : Bat im.length l) {i : Nat} {b : Bytes} (h : nwLog n l i = some b) : ∃ data : Bytes, data.length = 116 ∧ b = sealed n data := by
  cases i with
  | zero =>
    have e : sealed n (record (pgsOf l)) = b := Option.some.inj h
    exact ⟨_, record_length _ (by simp [pgsOf]; exact hb.few), e.symm⟩
  | succ j =>
    simp only [nwLog] at h
    cases hl : l[j]? with
    | none => rw [hl] at h; cases h
    | some y =>
      rw [hl] at h
      have e : sealed n y.2 = b := Option.some.inj h
      exact ⟨y.2, (hb.at_ y (List.mem_of_getElem? hl)).2.2, e.symm⟩
theorem nwLog_high (hb : Bat im.length l) {i : Nat} (hi : 17 ≤ i) : nwLog n l i = none := by
  obtain ⟨j, rfl⟩ : ∃ j, i = j + 1 := ⟨i - 1, by omega⟩
  simp only [nwLog]
  have := hb.few
  rw [List.getElem?_eq_none (by omega)]
  rfl
theorem nwData_spec {i : Nat} {b : Bytes} (h : nwData n l i = some b) : ∃ x ∈ l, 17 + x.1 = (i : Int) ∧ b = sealed n x.2 := by
  unfold nwData at h
  cases hf : l.find? (fun x => decide (17 + x.1 = (i : Int))) with
  | none => rw [hf] at h; cases h
  | some x =>
    rw [hf] at h
    have e : sealed n x.2 = b := Option.some.inj h
    exact ⟨x, List.mem_of_find?_eq_some hf, by simpa using List.find?_some hf, e.symm⟩

/-- A complete log is replayed. -/
theorem full_res {im' : List Bytes} (I : Inv t im) (hb : Bat im.length l) (h1 : 1 ≤ n) (h2 : n < 256) (hl : im'.length = im.length) (hf : Full n l im') (hlow : ∀ (i : Nat) s, i < 17 → im'[i]? = some s → Pst n s)
    (ho : ∀ i : Nat, 17 ≤ i → (∀ x ∈ l, 17 + x.1 ≠ (i : Int)) → im'[i]? = im[i]?) : Res n l im (replayed im') := by
  have hT := hf.targets hb h1 (by omega) hl I.few
  have hlen := I.len
  have hpl : (pgsOf l).length = l.length := by simp [pgsOf]
  have hg : ∀ j, (hj : j < l.length) → (pgsOf l).getD j 0 = l[j].1.toNat := by
    intro j hj
    simp [pgsOf, List.getD, hj]
  have hlog : ∀ i : Nat, i < 17 → (replayed im')[i]? = im'[i]? := by
    intro i hi
    unfold replayed
    exact replayN_other _ (fun j _ => by omega)
  refine ⟨?_, ⟨?_, ?_⟩, ?_, ?_, ?_⟩
  · unfold replayed
    rw [replayN_length, hl]
  · rw [hlog 0 (by omega)]; exact hf.head
  · intro j x hj
    have := (List.getElem?_eq_some_iff.1 hj).1
    have := hb.few
    rw [hlog (1 + j) (by omega)]
    exact hf.body j x hj
  · intro i s hi hs
    rw [hlog i hi] at hs
    exact hlow i s hi hs
  · intro i hi hx
    rw [← ho i hi hx]
    unfold replayed
    rw [hT]
    refine replayN_other _ (fun j hj => ?_)
    rw [hpl] at hj
    rw [hg j hj]
    have h3 := hx l[j] (List.getElem_mem hj)
    have h4 := hb.at_ l[j] (List.getElem_mem hj)
    omega
  · intro x hx
    obtain ⟨j, hj, rfl⟩ := List.getElem_of_mem hx
    unfold replayed
    rw [hT, ← hg j hj]
    rw [replayN_at ?_ (by omega) (by rw [hpl]; exact hb.few) ?_ _ j (Nat.le_refl _) (by omega)]
    · exact hf.body j _ (List.getElem?_eq_getElem hj)
    · intro i hi
      rw [hpl] at hi
      rw [hg i hi]
      have := hb.at_ l[i] (List.getElem_mem hi)
      omega
    · intro i k hik hk
      rw [hpl] at hk
      rw [hg i (by omega), hg k hk]
      have h3 := List.pairwise_iff_getElem.1 hb.inc i k (by omega) hk hik
      have h4 := hb.at_ (l[i]'(by omega)) (List.getElem_mem _)
      omega

/-- The power failed ahead of the log's flush. -/
theorem cut_log {im' : List Bytes} (I : Inv t im) (hb : Bat im.length l) (ht : t < n) (h2 : n < 256) (hm : Mix (nwLog n l) im im') : Inv n (replayed im') ∧ (conts (replayed im') = conts im ∨ conts (replayed im') = changed (conts im) l) := by
  have h1 : 1 ≤ n := by omega
  have hlen := I.len
  have few := hb.few
  have hpg : ∀ (i : Nat) s, im[i]? = some s → im'[i]? = some s ∨ (∃ b, nwLog n l i = some b ∧ im'[i]? = some b) ∨ ∃ s', im'[i]? = some s' ∧ Pst n s' ∧ (unsealed s').ok = false := by
    intro i s hs
    rcases hm.2 i s hs with h | ⟨b, k, hb', h⟩
    · exact .inl h
    · obtain ⟨data, hd, rfl⟩ := nwLog_sealed hb hb'
      rcases torn (I.pg i s hs) ht h2 hd k with e | e | e
      · rw [e] at h; exact .inl h
      · rw [e] at h; exact .inr (.inl ⟨_, hb', h⟩)
      · exact .inr (.inr ⟨_, h, e⟩)
  have hdat : ∀ i : Nat, 17 ≤ i → im'[i]? = im[i]? := by
    intro i hi
    cases hs : im[i]? with
    | none => rw [List.getElem?_eq_none_iff] at hs ⊢; rw [hm.1]; exact hs
    | some s =>
      rcases hm.2 i s hs with h | ⟨b, k, hb', h⟩
      · exact h
      · rw [nwLog_high hb hi] at hb'; cases hb'
  have hps : ∀ (i : Nat) s, im'[i]? = some s → Pst n s := by
    intro i s hs
    have hi : i < im.length := by rw [← hm.1]; exact (List.getElem?_eq_some_iff.1 hs).1
    rcases hpg i _ (List.getElem?_eq_getElem hi) with h | ⟨b, hb', h⟩ | ⟨s', h, h3, _⟩
    · rw [hs] at h
      rw [Option.some.inj h]
      exact (I.pg i _ (List.getElem?_eq_getElem hi)).mono (by omega)
    · rw [hs] at h
      rw [Option.some.inj h]
      obtain ⟨data, hd, rfl⟩ := nwLog_sealed hb hb'
      exact Pst.sealed h1 (by omega) hd
    · rw [hs] at h
      rw [Option.some.inj h]
      exact h3
  have hgd : ∀ (i : Nat) s, 17 ≤ i → im'[i]? = some s → (unsealed s).ok = true := fun i s hi hs => I.good i s hi (by rw [← hdat i hi]; exact hs)
  have hct : conts im' = conts im := by
    apply List.ext_getElem?
    intro i
    rw [conts_get, conts_get, hdat (17 + i) (by omega)]
  have keep : (∀ (j x : Nat), (targets im')[j]? = some x → im'[17 + x]? = im'[1 + j]?) → Inv n (replayed im') ∧ (conts (replayed im') = conts im ∨ conts (replayed im') = changed (conts im) l) := by
    intro hs
    have e : replayed im' = im' := by
      unfold replayed
      refine replayN_same (by rw [hm.1]; omega) (targets_spec im').1 (fun j hj => ?_) _ (Nat.le_refl _)
      refine hs j _ ?_
      simp [List.getD, hj]
    rw [e]
    exact ⟨⟨by rw [hm.1]; exact I.len, by rw [hm.1]; exact I.few, hps, hgd, hs⟩, .inl hct⟩
  by_cases hT : targets im' = []
  · exact keep (by rw [hT]; simp)
  · obtain ⟨g1, g2, g3, g4, g5⟩ := targets_elim hT
    have h0 := List.getElem?_eq_getElem (show 0 < im.length by omega)
    have gj : ∀ j, j < tk (unsealed (im'.getD 0 [])) → ∃ s, im'[1 + j]? = some s ∧ (unsealed s).ok = true ∧ (unsealed s).n = (unsealed (im'.getD 0 [])).n := by
      intro j hj
      have := tgood_spec (g4 j hj)
      have hj' : 1 + j < im'.length := by rw [hm.1]; omega
      have e := List.getElem?_eq_getElem hj'
      rw [getD_some e] at this
      exact ⟨_, e, this.1, this.2.1⟩
    rcases hpg 0 _ h0 with h | ⟨b, hb', h⟩ | ⟨s', h, _, h3⟩
    · have e0 : im'.getD 0 [] = im.getD 0 [] := by rw [getD_some h, getD_some h0]
      have hn0 : (unsealed (im'.getD 0 [])).n ≤ t := by
        rw [e0, getD_some h0]
        rw [e0, getD_some h0] at g1
        rw [(ok_numbers g1).2.2]
        exact (I.pg 0 _ h0).hi
      have hold : ∀ j, j < tk (unsealed (im'.getD 0 [])) → im'[1 + j]? = im[1 + j]? := by
        intro j hj
        obtain ⟨s, hs, hok, hn⟩ := gj j hj
        have hj' : 1 + j < im.length := by omega
        have e := List.getElem?_eq_getElem hj'
        rcases hpg (1 + j) _ e with k | ⟨b, kb, k⟩ | ⟨s', k, _, k3⟩
        · rw [k, e]
        · exfalso
          obtain ⟨data, hd, rfl⟩ := nwLog_sealed hb kb
          rw [hs] at k
          rw [Option.some.inj k, unsealed_sealed h1 (by omega) hd] at hn
          simp only at hn
          omega
        · exfalso
          rw [hs] at k
          rw [← Option.some.inj k, hok] at k3
          cases k3
      have hTT : targets im' = targets im := targets_congr hm.1 e0 (fun j hj => by
        rw [← e0] at hj
        rw [List.getD_eq_getElem?_getD, List.getD_eq_getElem?_getD, hold j hj])
      refine keep (fun j x hjx => ?_)
      have hj : j < tk (unsealed (im'.getD 0 [])) := by
        have := (List.getElem?_eq_some_iff.1 hjx).1
        rw [g5, txs_length] at this
        exact this
      rw [hold j hj, hdat (17 + x) (by omega)]
      exact I.same j x (by rw [← hTT]; exact hjx)
    · have hb0 : sealed n (record (pgsOf l)) = b := Option.some.inj hb'
      subst hb0
      have hpl : (pgsOf l).length = l.length := by simp [pgsOf]
      have hr : (record (pgsOf l)).length = 116 := record_length _ (by omega)
      have hu : unsealed (im'.getD 0 []) = ⟨n, record (pgsOf l), true⟩ := by rw [getD_some h, unsealed_sealed h1 (by omega) hr]
      have hk : tk (unsealed (im'.getD 0 [])) = l.length := by
        rw [hu]
        unfold tk
        simp only [if_true]
        rw [record_first _ (by omega), hpl]
      have hfull : Full n l im' := by
        refine ⟨h, fun j x hj => ?_⟩
        have hjl := (List.getElem?_eq_some_iff.1 hj).1
        obtain ⟨s, hs, hok, hn⟩ := gj j (by omega)
        have hn : (unsealed s).n = n := by rw [hn, hu]
        have hj' : 1 + j < im.length := by omega
        have e := List.getElem?_eq_getElem hj'
        rcases hpg (1 + j) _ e with k | ⟨b, kb, k⟩ | ⟨s', k, _, k3⟩
        · exfalso
          have := (I.pg _ _ e).hi
          rw [hs] at k
          have e2 := Option.some.inj k
          rw [← e2, ← (ok_numbers hok).2.2, hn] at this
          omega
        · rw [k, ← kb, show 1 + j = j + 1 by omega]
          simp only [nwLog]
          rw [hj]
          rfl
        · exfalso
          rw [hs] at k
          rw [← Option.some.inj k, hok] at k3
          cases k3
      have R := full_res I hb h1 h2 hm.1 hfull (fun i s _ hs => hps i s hs) (fun i hi _ => hdat i hi)
      exact ⟨R.inv I hb (by omega) h1 h2, .inr (R.conts_eq I hb h1 h2)⟩
    · exfalso
      rw [getD_some h] at g1
      rw [g1] at h3
      cases h3

/-- The power failed behind the log's flush. -/
theorem cut_data {R1 im' : List Bytes} (I : Inv t im) (hb : Bat im.length l) (h1 : 1 ≤ n) (h2 : n < 256) (hl : R1.length = im.length) (hf : Full n l R1) (hlow : ∀ (i : Nat) s, i < 17 → R1[i]? = some s → Pst n s) (ho : ∀ i : Nat, 17 ≤ i → R1[i]? = im[i]?)
    (hm : Mix (nwData n l) R1 im') : Res n l im (replayed im') := by
  have hlen := I.len
  have same : ∀ i : Nat, (∀ x ∈ l, 17 + x.1 ≠ (i : Int)) → im'[i]? = R1[i]? := by
    intro i hx
    cases hs : R1[i]? with
    | none => rw [List.getElem?_eq_none_iff] at hs ⊢; rw [hm.1]; exact hs
    | some s =>
      rcases hm.2 i s hs with h | ⟨b, k, hb', h⟩
      · exact h
      · obtain ⟨x, hx', e, _⟩ := nwData_spec hb'
        exact absurd e (hx x hx')
  have low : ∀ i : Nat, i < 17 → im'[i]? = R1[i]? := fun i hi => same i (fun x hx e => by have := hb.at_ x hx; omega)
  have few := hb.few
  refine full_res I hb h1 h2 (hm.1.trans hl) ⟨by rw [low 0 (by omega)]; exact hf.head, fun j x hj => ?_⟩ (fun i s hi hs => hlow i s hi (by rw [← low i hi]; exact hs)) (fun i hi hx => by rw [same i hx, ho i hi])
  have := (List.getElem?_eq_some_iff.1 hj).1
  rw [low (1 + j) (by omega)]
  exact hf.body j x hj
end
end Go.Proofs.YtcnhlemenpgkbaaGreatDoor
/- Plain law of a cut: the disk's steps, the power that fails, the mount, the opening. -/
namespace Go.Proofs.YtcnhlemenpgkbaaGreatDoor
set_option linter.unusedSimpArgs false
set_option linter.unusedVariables false
set_option linter.unnecessarySimpa false
open M

def bare1 (s : Bytes) : Pg := ⟨s, none⟩
/-- A disk with no pending page, its power on. -/
def rest (im : List Bytes) : Disk := ⟨im.map bare1, false, -1⟩

structure Pend (nw : Nat → Option Bytes) (im : List Bytes) (d : Disk) : Prop where
  old : d.pg.map Pg.old = im
  new : ∀ (i : Nat) p b, d.pg[i]? = some p → p.new = some b → nw i = some b

theorem step_cases (d : Disk) : d.step = (20, { d with off := true }) ∨ ∃ tr, d.step = (0, { d with trip := tr }) := by
  unfold Disk.step
  split
  · exact .inl rfl
  · split
    · exact .inr ⟨_, rfl⟩
    · exact .inr ⟨d.trip, rfl⟩
theorem write_cases (d : Disk) (hoff : d.off = false) (i : Nat) (hi : i < d.pg.length) (s : Bytes) : d.write i s = (20, { d with off := true }) ∨ ∃ tr, d.write i s = (0, { d with trip := tr, pg := d.pg.modify i fun p => { p with new := some s } }) := by
  have his : d.is i = true := by unfold Disk.is Disk.len; simp; omega
  unfold Disk.write
  rw [hoff, his]
  rcases step_cases d with h | ⟨tr, h⟩
  · left
    simp [h]
  · right
    refine ⟨tr, ?_⟩
    simp [h, hoff]
theorem flush_cases (d : Disk) (hoff : d.off = false) : d.flush = (20, { d with off := true }) ∨ ∃ tr, d.flush = (0, { d with trip := tr, pg := d.pg.map Pg.flush }) := by
  unfold Disk.flush
  rw [hoff]
  rcases step_cases d with h | ⟨tr, h⟩
  · left
    simp [h]
  · right
    exact ⟨tr, by simp [h, hoff]⟩

section
variable {nw : Nat → Option Bytes} {im : List Bytes}

theorem Pend.len {d : Disk} (h : Pend nw im d) : d.pg.length = im.length := by rw [← h.old]; simp
theorem run_puts : ∀ (sts : List Stp) (d : Disk), Pend nw im d → d.off = false → (∀ st ∈ sts, ∃ (i : Nat) (s : Bytes), st = .put i s ∧ i < im.length ∧ nw i = some s) →
    Pend nw im (runAll d sts).2 ∧ ((runAll d sts).1 = 20 ∨ ((runAll d sts).1 = 0 ∧ (runAll d sts).2.off = false ∧ (∀ (i : Nat) p, d.pg[i]? = some p → p.new ≠ none → ∃ p', (runAll d sts).2.pg[i]? = some p' ∧ p'.new ≠ none) ∧
      ∀ (i : Nat) (s : Bytes), Stp.put i s ∈ sts → ∃ p', (runAll d sts).2.pg[i]? = some p' ∧ p'.new ≠ none))
  | [], d, h, hoff, _ => ⟨h, .inr ⟨rfl, hoff, fun i p hp hn => ⟨p, hp, hn⟩, fun i s hs => by simp at hs⟩⟩
  | st :: r, d, h, hoff, hs => by
    obtain ⟨i, s, rfl, hi, hnw⟩ := hs st (by simp)
    rcases write_cases d hoff i (by rw [h.len]; exact hi) s with hw | ⟨tr, hw⟩
    · have e : runAll d (.put i s :: r) = (20, { d with off := true }) := by simp [runAll, runStep, hw]
      rw [e]
      exact ⟨⟨h.old, h.new⟩, .inl rfl⟩
    · have e : runAll d (.put i s :: r) = runAll { d with trip := tr, pg := d.pg.modify i fun p => { p with new := some s } } r := by simp [runAll, runStep, hw]
      rw [e]
      have hg : ∀ (j : Nat), (d.pg.modify i fun p => { p with new := some s })[j]? = if i = j then (d.pg[j]?).map (fun p => { p with new := some s }) else d.pg[j]? := by
        intro j
        rw [List.getElem?_modify]
        split <;> simp [*]
      have hP : Pend nw im { d with trip := tr, pg := d.pg.modify i fun p => { p with new := some s } } := by
        refine ⟨?_, ?_⟩
        · rw [← h.old]
          apply List.ext_getElem?
          intro j
          rw [List.getElem?_map, List.getElem?_map]
          show Option.map Pg.old ((d.pg.modify i fun p => { p with new := some s })[j]?) = _
          rw [hg]
          split <;> cases d.pg[j]? <;> rfl
        · intro j p b hp hb
          have hp : (d.pg.modify i fun p => { p with new := some s })[j]? = some p := hp
          rw [hg] at hp
          split at hp
          · rename_i hij
            subst hij
            cases hd : d.pg[i]? with
            | none => rw [hd] at hp; cases hp
            | some q =>
              rw [hd] at hp
              have := Option.some.inj hp
              subst this
              rw [← hb]
              exact hnw
          · exact h.new j p b hp hb
      obtain ⟨k1, k2⟩ := run_puts r _ hP hoff (fun st hst => hs st (by simp [hst]))
      refine ⟨k1, ?_⟩
      rcases k2 with k2 | ⟨k2, k3, k4, k5⟩
      · exact .inl k2
      · refine .inr ⟨k2, k3, ?_, ?_⟩
        · intro j p hp hn
          refine (if hij : i = j then ?_ else ?_)
          · exact k4 j { p with new := some s } (by show (d.pg.modify i fun p => { p with new := some s })[j]? = _; rw [hg, if_pos hij, hp]; rfl) (by simp)
          · exact k4 j p (by show (d.pg.modify i fun p => { p with new := some s })[j]? = _; rw [hg, if_neg hij]; exact hp) hn
        · intro j s' hj
          rcases List.mem_cons.1 hj with hj | hj
          · injection hj with h1 h2
            have h1 : j = i := by omega
            subst h1
            have hlt : j < d.pg.length := by rw [h.len]; exact hi
            exact k4 j { (d.pg[j]) with new := some s } (by show (d.pg.modify j fun p => { p with new := some s })[j]? = _; rw [hg, if_pos rfl, List.getElem?_eq_getElem hlt]; rfl) (by simp)
          · exact k5 j s' hj

/-- What stands on the pages behind the mount. -/
theorem tearAll_spec : ∀ (pg : List Pg) (picks : List Int), ∃ im' : List Bytes, tearAll pg picks = im'.map bare1 ∧ im'.length = pg.length ∧
    ∀ (i : Nat) p, pg[i]? = some p → (p.new = none ∧ im'[i]? = some p.old) ∨ ∃ b k, p.new = some b ∧ im'[i]? = some (b.take k ++ p.old.drop k)
  | [], _ => ⟨[], rfl, rfl, by simp⟩
  | p :: r, picks => by
    cases hp : p.new with
    | none =>
      obtain ⟨im', h1, h2, h3⟩ := tearAll_spec r picks
      refine ⟨p.old :: im', ?_, by simp [h2], ?_⟩
      · simp only [tearAll, hp, h1, List.map_cons]
        congr 1
        cases p
        simp only at hp
        subst hp
        rfl
      · intro i q hq
        cases i with
        | zero =>
          have : p = q := by simpa using hq
          subst this
          exact .inl ⟨hp, rfl⟩
        | succ i => exact h3 i q (by simpa using hq)
    | some b =>
      obtain ⟨im', h1, h2, h3⟩ := tearAll_spec r picks.tail
      refine ⟨(b.take (clamp ((picks.head?).getD 128)) ++ p.old.drop (clamp ((picks.head?).getD 128))) :: im', ?_, by simp [h2], ?_⟩
      · simp only [tearAll, hp, h1, List.map_cons]
        congr 1
        unfold Pg.tear
        rw [hp]
        rfl
      · intro i q hq
        cases i with
        | zero =>
          have : p = q := by simpa using hq
          subst this
          exact .inr ⟨b, _, hp, rfl⟩
        | succ i => exact h3 i q (by simpa using hq)
theorem mount_mix {d : Disk} (h : Pend nw im d) (picks : List Int) : ∃ im', d.mount picks = rest im' ∧ Mix nw im im' := by
  obtain ⟨im', h1, h2, h3⟩ := tearAll_spec d.pg picks
  refine ⟨im', ?_, h2.trans h.len, ?_⟩
  · unfold Disk.mount rest
    rw [h1]
  · intro i s hs
    rw [← h.old, List.getElem?_map] at hs
    cases hp : d.pg[i]? with
    | none => rw [hp] at hs; cases hs
    | some p =>
      rw [hp] at hs
      have e : p.old = s := Option.some.inj hs
      rcases h3 i p hp with ⟨_, k⟩ | ⟨b, k, hb, hk⟩
      · left; rw [k, e]
      · right; exact ⟨b, k, h.new i p b hp hb, by rw [hk, e]⟩
theorem mount_rest (d : Disk) (h : d.pg = im.map bare1) (picks : List Int) : d.mount picks = rest im := by
  have hP : Pend (fun _ => none) im d := by
    refine ⟨by rw [h, List.map_map]; exact List.map_id'' (fun _ => rfl) _, fun i p b hp hb => ?_⟩
    rw [h, List.getElem?_map] at hp
    cases hi : im[i]? with
    | none => rw [hi] at hp; cases hp
    | some s =>
      rw [hi] at hp
      have := Option.some.inj hp
      subst this
      cases hb
  obtain ⟨im', h1, h2, h3⟩ := mount_mix hP picks
  have : im' = im := by
    apply List.ext_getElem?
    intro i
    cases hs : im[i]? with
    | none => rw [List.getElem?_eq_none_iff] at hs ⊢; omega
    | some s =>
      rcases h3 i s hs with k | ⟨b, k, hb, _⟩
      · exact k
      · cases hb
  rw [h1, this]

/-- A flush over pending pages. -/
theorem flush_all {d : Disk} (h : Pend nw im d) : ∃ R : List Bytes, d.pg.map Pg.flush = R.map bare1 ∧ R.length = im.length ∧ (∀ i : Nat, nw i = none → R[i]? = im[i]?) ∧ ∀ (i : Nat) p, d.pg[i]? = some p → p.new ≠ none → R[i]? = nw i := by
  refine ⟨d.pg.map Pg.now, ?_, by rw [List.length_map]; exact h.len, ?_, ?_⟩
  · rw [List.map_map]
    rfl
  · intro i hi
    rw [← h.old, List.getElem?_map, List.getElem?_map]
    cases hp : d.pg[i]? with
    | none => rfl
    | some p =>
      cases hn : p.new with
      | none => simp [Pg.now, hn]
      | some b =>
        have := h.new i p b hp hn
        rw [hi] at this
        cases this
  · intro i p hp hn
    rw [List.getElem?_map, hp]
    cases hb : p.new with
    | none => exact absurd hb hn
    | some b =>
      rw [h.new i p b hp hb]
      simp [Pg.now, hb]
end

theorem mem_logs {t : Int} : ∀ {l : List PW} {k : Int} {st : Stp}, st ∈ logs t k l → ∃ (j : Nat) (x : PW), l[j]? = some x ∧ st = .put (k + j) (sealed t x.2)
  | [], k, st, h => by simp [logs] at h
  | x :: l, k, st, h => by
    rcases List.mem_cons.1 h with rfl | h
    · exact ⟨0, x, rfl, by simp⟩
    · obtain ⟨j, y, h1, h2⟩ := mem_logs h
      exact ⟨j + 1, y, by simpa using h1, by rw [h2]; congr 1; omega⟩
theorem logs_mem {t : Int} : ∀ {l : List PW} {k : Int} {j : Nat} {x : PW}, l[j]? = some x → Stp.put (k + j) (sealed t x.2) ∈ logs t k l
  | [], k, j, x, h => by simp at h
  | y :: l, k, 0, x, h => by
    have : y = x := by simpa using h
    subst this
    simp [logs]
  | y :: l, k, j + 1, x, h => by
    have := logs_mem (t := t) (k := k + 1) (show l[j]? = some x by simpa using h)
    rw [show k + 1 + (j : Int) = k + ((j + 1 : Nat) : Int) by omega] at this
    exact List.mem_cons_of_mem _ this
theorem mem_datas {t : Int} : ∀ {l : List PW} {st : Stp}, st ∈ datas t l → ∃ x ∈ l, st = .put (17 + x.1) (sealed t x.2)
  | [], st, h => by simp [datas] at h
  | x :: l, st, h => by
    rcases List.mem_cons.1 h with rfl | h
    · exact ⟨x, by simp, rfl⟩
    · obtain ⟨y, h1, h2⟩ := mem_datas h
      exact ⟨y, by simp [h1], h2⟩
theorem datas_mem {t : Int} : ∀ {l : List PW} {x : PW}, x ∈ l → Stp.put (17 + x.1) (sealed t x.2) ∈ datas t l
  | [], x, h => by simp at h
  | y :: l, x, h => by
    rcases List.mem_cons.1 h with rfl | h
    · simp [datas]
    · exact List.mem_cons_of_mem _ (datas_mem h)
theorem nwData_mem {n : Nat} : ∀ {l : List PW} {x : PW}, l.Pairwise (fun x y => x.1 < y.1) → x ∈ l → ∀ i : Nat, 17 + x.1 = i → nwData n l i = some (sealed n x.2)
  | [], x, _, h, _, _ => by simp at h
  | y :: l, x, hp, h, i, hi => by
    rw [List.pairwise_cons] at hp
    unfold nwData
    rcases List.mem_cons.1 h with rfl | h
    · rw [List.find?_cons_of_pos (by simpa using hi)]
      rfl
    · have := hp.1 x h
      rw [List.find?_cons_of_neg (by simp; omega)]
      exact nwData_mem hp.2 h i hi

section
variable {t n : Nat} {l : List PW} {im : List Bytes}

/-- The steps of a write, on a disk without pending pages. -/
theorem run_steps (I : Inv t im) (hb : Bat im.length l) (ht : t < n) (h2 : n < 256) {d : Disk} (hd : d.pg = im.map bare1) (hoff : d.off = false) :
    ((runAll d (steps n l)).1 = 20 ∧ Pend (nwLog n l) im (runAll d (steps n l)).2) ∨
    ((runAll d (steps n l)).1 = 20 ∧ ∃ R1 : List Bytes, Pend (nwData n l) R1 (runAll d (steps n l)).2 ∧ R1.length = im.length ∧ Full n l R1 ∧ (∀ (i : Nat) s, i < 17 → R1[i]? = some s → Pst n s) ∧ ∀ i : Nat, 17 ≤ i → R1[i]? = im[i]?) ∨
    ((runAll d (steps n l)).1 = 0 ∧ ∃ R2 : List Bytes, (runAll d (steps n l)).2.pg = R2.map bare1 ∧ Res n l im R2) := by
  have h1 : 1 ≤ n := by omega
  have hlen := I.len
  have few := hb.few
  have hPgs : (l.map fun x => x.1.toNat) = pgsOf l := rfl
  have hP0 : Pend (nwLog n l) im d := by
    refine ⟨by rw [hd, List.map_map]; exact List.map_id'' (fun _ => rfl) _, fun i p b hp hpb => ?_⟩
    rw [hd, List.getElem?_map] at hp
    cases hi : im[i]? with
    | none => rw [hi] at hp; cases hp
    | some s =>
      rw [hi] at hp
      have := Option.some.inj hp
      subst this
      cases hpb
  have hS : steps n l = (logs n 1 l ++ [.put 0 (sealed n (record (pgsOf l)))]) ++ (.flush :: (datas n l ++ [.flush])) := by
    unfold steps
    rw [hPgs]
    simp
  have hA : ∀ st ∈ logs n 1 l ++ [.put 0 (sealed n (record (pgsOf l)))], ∃ (i : Nat) (s : Bytes), st = .put i s ∧ i < im.length ∧ nwLog n l i = some s := by
    intro st hst
    rcases List.mem_append.1 hst with hst | hst
    · obtain ⟨j, x, hj, rfl⟩ := mem_logs hst
      have := (List.getElem?_eq_some_iff.1 hj).1
      refine ⟨j + 1, sealed n x.2, by congr 1; omega, by omega, ?_⟩
      simp only [nwLog, hj]
      rfl
    · have : st = .put 0 (sealed n (record (pgsOf l))) := by simpa using hst
      subst this
      exact ⟨0, _, rfl, by omega, rfl⟩
  rw [hS]
  obtain ⟨a1, a2⟩ := run_puts _ d hP0 hoff hA
  rcases a2 with a2 | ⟨a2, a3, _, a5⟩
  · left
    rw [runAll_bad (by rw [a2]; decide)]
    exact ⟨a2, a1⟩
  · rw [runAll_snoc0 a2]
    generalize (runAll d (logs n 1 l ++ [.put 0 (sealed n (record (pgsOf l)))])).2 = d1 at a1 a3 a5 ⊢
    rcases flush_cases d1 a3 with hf | ⟨tr, hf⟩
    · left
      have e : runAll d1 (.flush :: (datas n l ++ [.flush])) = (20, { d1 with off := true }) := by simp [runAll, runStep, hf]
      rw [e]
      exact ⟨rfl, ⟨a1.old, a1.new⟩⟩
    · right
      have e : runAll d1 (.flush :: (datas n l ++ [.flush])) = runAll { d1 with trip := tr, pg := d1.pg.map Pg.flush } (datas n l ++ [.flush]) := by simp [runAll, runStep, hf]
      rw [e]
      obtain ⟨R1, r1, r2, r3, r4⟩ := flush_all a1
      have hfull : Full n l R1 := by
        refine ⟨?_, fun j x hj => ?_⟩
        · obtain ⟨p, hp, hn⟩ := a5 0 _ (List.mem_append.2 (.inr (List.mem_singleton.2 rfl)))
          rw [r4 0 p hp hn]
          rfl
        · have hm := logs_mem (t := n) (k := 1) hj
          rw [show (1 : Int) + (j : Int) = ((j + 1 : Nat) : Int) by omega] at hm
          obtain ⟨p, hp, hn⟩ := a5 (j + 1) _ (List.mem_append.2 (.inl hm))
          rw [show 1 + j = j + 1 by omega, r4 _ p hp hn]
          simp only [nwLog, hj]
          rfl
      have hoth : ∀ i : Nat, 17 ≤ i → R1[i]? = im[i]? := fun i hi => r3 i (nwLog_high hb hi)
      have hlow : ∀ (i : Nat) s, i < 17 → R1[i]? = some s → Pst n s := by
        intro i s hi hs
        cases hw : nwLog n l i with
        | none => rw [r3 i hw] at hs; exact (I.pg i s hs).mono (by omega)
        | some b =>
          obtain ⟨data, hdl, rfl⟩ := nwLog_sealed hb hw
          have : R1[i]? = some (sealed n data) := by
            cases i with
            | zero =>
              rw [hfull.head]
              exact hw
            | succ j =>
              simp only [nwLog] at hw
              cases hj : l[j]? with
              | none => rw [hj] at hw; cases hw
              | some x =>
                rw [hj] at hw
                rw [show j + 1 = 1 + j by omega, hfull.body j x hj]
                exact hw
          rw [this] at hs
          rw [← Option.some.inj hs]
          exact Pst.sealed h1 (by omega) hdl
      have hP1 : Pend (nwData n l) R1 { d1 with trip := tr, pg := d1.pg.map Pg.flush } := by
        refine ⟨?_, fun i p b hp hpb => ?_⟩
        · show (d1.pg.map Pg.flush).map Pg.old = R1
          rw [r1, List.map_map]
          exact List.map_id'' (fun _ => rfl) _
        · have hp : (d1.pg.map Pg.flush)[i]? = some p := hp
          rw [r1, List.getElem?_map] at hp
          cases hi : R1[i]? with
          | none => rw [hi] at hp; cases hp
          | some s =>
            rw [hi] at hp
            have := Option.some.inj hp
            subst this
            cases hpb
      have hD : ∀ st ∈ datas n l, ∃ (i : Nat) (s : Bytes), st = .put i s ∧ i < R1.length ∧ nwData n l i = some s := by
        intro st hst
        obtain ⟨x, hx, rfl⟩ := mem_datas hst
        have hat := hb.at_ x hx
        refine ⟨17 + x.1.toNat, sealed n x.2, by congr 1; omega, by omega, nwData_mem hb.inc hx _ (by omega)⟩
      obtain ⟨b1, b2⟩ := run_puts _ _ hP1 (show ({ d1 with trip := tr, pg := d1.pg.map Pg.flush } : Disk).off = false from a3) hD
      rcases b2 with b2 | ⟨b2, b3, _, b5⟩
      · left
        rw [runAll_bad (by rw [b2]; decide)]
        exact ⟨b2, R1, b1, r2, hfull, hlow, hoth⟩
      · rw [runAll_snoc0 b2]
        generalize (runAll { d1 with trip := tr, pg := d1.pg.map Pg.flush } (datas n l)).2 = d2 at b1 b3 b5 ⊢
        rcases flush_cases d2 b3 with hf2 | ⟨tr2, hf2⟩
        · left
          have e : runAll d2 [.flush] = (20, { d2 with off := true }) := by simp [runAll, runStep, hf2]
          rw [e]
          exact ⟨rfl, R1, ⟨b1.old, b1.new⟩, r2, hfull, hlow, hoth⟩
        · right
          have e : runAll d2 [.flush] = (0, { d2 with trip := tr2, pg := d2.pg.map Pg.flush }) := by simp [runAll, runStep, hf2]
          rw [e]
          obtain ⟨R2, s1, s2, s3, s4⟩ := flush_all b1
          have hk : ∀ i : Nat, (∀ x ∈ l, 17 + x.1 ≠ (i : Int)) → R2[i]? = R1[i]? := by
            intro i hx
            refine s3 i ?_
            cases hw : nwData n l i with
            | none => rfl
            | some b =>
              obtain ⟨x, hx', e, _⟩ := nwData_spec hw
              exact absurd e (hx x hx')
          have hk17 : ∀ i : Nat, i < 17 → R2[i]? = R1[i]? := fun i hi => hk i (fun x hx e => by have := hb.at_ x hx; omega)
          refine ⟨rfl, R2, s1, ⟨s2.trans r2, ⟨by rw [hk17 0 (by omega)]; exact hfull.head, fun j x hj => ?_⟩, fun i s hi hs => hlow i s hi (by rw [← hk17 i hi]; exact hs), fun i hi hx => by rw [hk i hx, hoth i hi], fun x hx => ?_⟩⟩
          · have := (List.getElem?_eq_some_iff.1 hj).1
            rw [hk17 (1 + j) (by omega)]
            exact hfull.body j x hj
          · have hat := hb.at_ x hx
            have hm := datas_mem (t := n) hx
            rw [show 17 + x.1 = ((17 + x.1.toNat : Nat) : Int) by omega] at hm
            obtain ⟨p, hp, hn⟩ := b5 _ _ hm
            rw [s4 _ p hp hn]
            exact nwData_mem hb.inc hx _ (by omega)
end
end Go.Proofs.YtcnhlemenpgkbaaGreatDoor
/- Plain law of a cut, joined: a write, the mount, the opening; reading. -/
namespace Go.Proofs.YtcnhlemenpgkbaaGreatDoor
set_option linter.unusedSimpArgs false
set_option linter.unusedVariables false
set_option linter.unnecessarySimpa false
open M

theorem rest_seen (im : List Bytes) : (rest im).seen = im := by
  unfold Disk.seen rest
  apply List.ext_getElem?
  intro i
  simp only [List.length_map, List.getElem?_map]
  by_cases hi : i < im.length
  · rw [List.getElem?_range hi, List.getElem?_eq_getElem hi]
    simp [Disk.now, hi, bare1, Pg.now]
  · rw [List.getElem?_eq_none (by simpa using hi), List.getElem?_eq_none (by simpa using hi)]
    rfl
theorem rest_len (im : List Bytes) : (rest im).pg.length = im.length := by simp [rest]

theorem write_on (pg : List Pg) (q : Nat) (hq : q < pg.length) (s : Bytes) : (⟨pg, false, -1⟩ : Disk).write (q : Int) s = (0, ⟨pg.modify q fun p => { p with new := some s }, false, -1⟩) := by
  have his : (⟨pg, false, -1⟩ : Disk).is (q : Int) = true := by unfold Disk.is Disk.len; simp only [Bool.and_eq_true, decide_eq_true_eq]; omega
  unfold Disk.write
  rw [his]
  simp [Disk.step]
theorem modify_now (pg : List Pg) (q : Nat) (s : Bytes) : (pg.modify q fun p => { p with new := some s }).map Pg.now = (pg.map Pg.now).set q s := by
  apply List.ext_getElem?
  intro i
  simp only [List.getElem?_map, List.getElem?_modify, List.getElem?_set, List.length_map]
  by_cases hi : q = i
  · subst hi
    cases h : pg[q]? with
    | none => simp [List.getElem?_eq_none_iff.1 h]
    | some p => simp [(List.getElem?_eq_some_iff.1 h).1, Pg.now]
  · simp [hi]
/-- The steps of a replay, over a disk that shows some pages. -/
theorem run_putsN {im : List Bytes} {ts : List Nat} (hb : ∀ j, j < ts.length → 17 + ts.getD j 0 < im.length) (hl : 18 ≤ im.length) (h16 : ts.length ≤ 16) : ∀ n, n ≤ ts.length → ∃ pg : List Pg, runAll (rest im) (putsN im ts n) = (0, ⟨pg, false, -1⟩) ∧ pg.map Pg.now = replayN im ts n
  | 0, _ => ⟨im.map bare1, rfl, by rw [List.map_map]; exact List.map_id'' (fun _ => rfl) _⟩
  | n + 1, hn => by
    obtain ⟨pg, h1, h2⟩ := run_putsN hb hl h16 n (by omega)
    have hlen : pg.length = im.length := by
      have := congrArg List.length h2
      rw [List.length_map, replayN_length] at this
      exact this
    have hbn := hb n (by omega)
    have e1 : (replayN im ts (n + 1)).getD (1 + n) [] = (replayN im ts n).getD (1 + n) [] := by
      rw [List.getD_eq_getElem?_getD, List.getD_eq_getElem?_getD, replayN, List.getElem?_set_ne (by omega)]
    have hw := write_on pg (17 + ts.getD n 0) (by omega) ((replayN im ts n).getD (1 + n) [])
    refine ⟨pg.modify (17 + ts.getD n 0) fun p => { p with new := some ((replayN im ts n).getD (1 + n) []) }, ?_, ?_⟩
    · rw [putsN, runAll_snoc0 (by rw [h1]), h1, e1]
      simp only [runAll, runStep, hw, if_true]
    · rw [replayN, modify_now, h2]
theorem open_rest {im : List Bytes} (hl : 18 ≤ im.length) : openAt (rest im) = (rest (replayed im), ⟨openNum im, badsFrom 0 ((replayed im).drop 17), false⟩) := by
  have hs := targets_spec im
  have hb : ∀ j, j < (targets im).length → 17 + (targets im).getD j 0 < im.length := by
    intro j hj
    exact hs.2 j _ (by simp [List.getD, hj])
  unfold openAt
  rw [rest_seen]
  congr 1
  unfold openSteps
  obtain ⟨pg, h1, h2⟩ := run_putsN hb hl hs.1 (targets im).length (Nat.le_refl _)
  rw [runAll_snoc0 (by rw [h1]), h1]
  by_cases hT : targets im = []
  · have e : replayed im = im := by unfold replayed; rw [hT]; rfl
    rw [hT] at h1
    have h1 : (0, rest im) = ((0, ⟨pg, false, -1⟩) : Int × Disk) := h1
    rw [if_pos hT, e]
    exact (congrArg Prod.snd h1).symm
  · rw [if_neg hT]
    have hf : (⟨pg, false, -1⟩ : Disk).flush = (0, ⟨pg.map Pg.flush, false, -1⟩) := by simp [Disk.flush, Disk.step]
    simp only [runAll, runStep, hf, if_true]
    unfold rest replayed
    rw [← h2, List.map_map]
    rfl

theorem upd_ge (a : Int) (n : Nat) : a ≤ upd a n := by unfold upd; split <;> omega
theorem fold_num (im : List Bytes) : ∀ (a : Int), a ≤ im.foldl (fun a s => upd (upd a (num (s.take 4))) (num (s.drop 124))) a ∧ ∀ s ∈ im, hdn s ≤ 1073741824 → (hdn s : Int) ≤ im.foldl (fun a s => upd (upd a (num (s.take 4))) (num (s.drop 124))) a := by
  induction im with
  | nil => intro a; exact ⟨Int.le_refl _, by simp⟩
  | cons x r ih =>
    intro a
    obtain ⟨h1, h2⟩ := ih (upd (upd a (num (x.take 4))) (num (x.drop 124)))
    have g1 := upd_ge a (num (x.take 4))
    have g2 := upd_ge (upd a (num (x.take 4))) (num (x.drop 124))
    refine ⟨by rw [List.foldl_cons]; omega, ?_⟩
    intro s hs hle
    rw [List.foldl_cons]
    rcases List.mem_cons.1 hs with rfl | hs
    · have g3 : (hdn s : Int) ≤ upd a (num (s.take 4)) := by
        unfold upd
        unfold hdn at hle ⊢
        rw [if_pos (by omega)]
        omega
      omega
    · exact h2 s hs hle
theorem fold_num_le (im : List Bytes) (t : Nat) : ∀ (a : Int), a ≤ t → (∀ s ∈ im, hdn s ≤ t ∧ tln s ≤ t) → im.foldl (fun a s => upd (upd a (num (s.take 4))) (num (s.drop 124))) a ≤ t := by
  induction im with
  | nil => intro a h _; exact h
  | cons x r ih =>
    intro a h hs
    rw [List.foldl_cons]
    refine ih _ ?_ (fun s hs' => hs s (by simp [hs']))
    have := hs x (by simp)
    unfold hdn tln at this
    unfold upd
    split <;> split <;> omega
theorem openNum_spec {n : Nat} {im : List Bytes} (h : ∀ s ∈ im, Pst n s) (hn : n ≤ 1073741824) : ∃ t' : Nat, openNum im = (t' : Int) ∧ t' ≤ n ∧ ∀ s ∈ im, Pst t' s := by
  obtain ⟨h0, _⟩ := openNum_bound im
  obtain ⟨t', ht⟩ := Int.eq_ofNat_of_zero_le h0
  refine ⟨t', ht, ?_, ?_⟩
  · have := fold_num_le im n 0 (by omega) (fun s hs => ⟨(h s hs).hi, Nat.le_trans (h s hs).lo (h s hs).hi⟩)
    unfold openNum at ht
    omega
  · intro s hs
    have hp := h s hs
    have := (fold_num im 0).2 s hs (by have := hp.hi; omega)
    unfold openNum at ht
    exact ⟨hp.len, by omega, hp.lo, hp.ok⟩

theorem replayN_mem {im : List Bytes} {ts : List Nat} (hl : 18 ≤ im.length) : ∀ n, n ≤ 16 → ∀ s ∈ replayN im ts n, s ∈ im
  | 0, _, s, hs => hs
  | n + 1, hn, s, hs => by
    have ih := replayN_mem (ts := ts) hl n (by omega)
    rcases List.mem_or_eq_of_mem_set hs with hs | rfl
    · exact ih s hs
    · have : 1 + n < (replayN im ts n).length := by rw [replayN_length]; omega
      rw [getD_some (List.getElem?_eq_getElem this)]
      exact ih _ (List.getElem_mem this)

theorem mix_pst {nw : Nat → Option Bytes} {im im' : List Bytes} {t n : Nat} (h : Mix nw im im') (hs : ∀ (i : Nat) s, im[i]? = some s → Pst n s ∧ (nw i ≠ none → Pst t s)) (hn : ∀ (i : Nat) b, nw i = some b → ∃ data : Bytes, data.length = 116 ∧ b = sealed n data) (ht : t < n) (h2 : n < 256) : ∀ s ∈ im', Pst n s := by
  intro s' hs'
  obtain ⟨i, hi, rfl⟩ := List.getElem_of_mem hs'
  have hi' : i < im.length := by rw [← h.1]; exact hi
  have e := List.getElem?_eq_getElem hi'
  have e' := List.getElem?_eq_getElem hi
  rcases h.2 i _ e with k | ⟨b, k, hb, hk⟩
  · rw [e'] at k
    rw [Option.some.inj k]
    exact (hs i _ e).1
  · obtain ⟨data, hd, rfl⟩ := hn i b hb
    rw [e'] at hk
    rw [Option.some.inj hk]
    rcases torn ((hs i _ e).2 (by rw [hb]; simp)) ht h2 hd k with q | q | q
    · rw [q]; exact (hs i _ e).1
    · rw [q]; exact Pst.sealed (by omega) (by omega) hd
    · exact q.1

section
variable {t : Nat} {l : List PW} {im : List Bytes}

theorem Inv.replayed_eq (I : Inv t im) : replayed im = im := by
  unfold replayed
  refine replayN_same I.len (targets_spec im).1 (fun j hj => ?_) _ (Nat.le_refl _)
  exact I.same j _ (by simp [List.getD, hj])
theorem Inv.renum {t' : Nat} (I : Inv t im) (h : ∀ s ∈ im, Pst t' s) : Inv t' im := ⟨I.len, I.few, fun i s hs => h s (List.mem_of_getElem? hs), I.good, I.same⟩
theorem Inv.mem (I : Inv t im) : ∀ s ∈ im, Pst t s := by
  intro s hs
  obtain ⟨i, hi, rfl⟩ := List.getElem_of_mem hs
  exact I.pg i _ (List.getElem?_eq_getElem hi)
theorem nwData_sealed {n : Nat} (hb : Bat im.length l) {i : Nat} {b : Bytes} (h : nwData n l i = some b) : ∃ data : Bytes, data.length = 116 ∧ b = sealed n data := by
  obtain ⟨x, hx, _, e⟩ := nwData_spec h
  exact ⟨x.2, (hb.at_ x hx).2.2, e⟩

/-- A write while the power may fail, the mount and the opening. -/
theorem cut_open (I : Inv t im) (ht : t + 1 < 256) {p : M.Pages} (hp : p.number = t) (m : Int) (l : List PW) (picks : List Int) :
    let g := give ((rest im).setTrip m) p l
    (g.2.1.mount picks).off = false ∧ (g.2.1.mount picks).trip = -1 ∧ (g.2.1.mount picks).pg.length = im.length ∧
    ∃ (t' : Nat) (R : List Bytes) (bs : List Int), t' ≤ t + 1 ∧ openAt (g.2.1.mount picks) = (rest R, ⟨t', bs, false⟩) ∧ R.length = im.length ∧ Inv t' R ∧
      (conts R = conts im ∨ (check ((rest im).setTrip m) p l = 0 ∧ conts R = changed (conts im) l)) ∧ (g.1 = 0 → conts R = changed (conts im) l) ∧ (g.1 ≠ 0 → g.1 ≠ 20 → conts R = conts im) := by
  intro g
  have hpg : ((rest im).setTrip m).pg = im.map bare1 := rfl
  have hoff : ((rest im).setTrip m).off = false := rfl
  have hlen : ((rest im).setTrip m).pg.length = im.length := by rw [hpg]; simp
  -- from pages behind the mount to the end
  have fin : ∀ (im' : List Bytes) (n : Nat), n ≤ t + 1 → im'.length = im.length → (∀ s ∈ im', Pst n s) → Inv n (replayed im') → ∃ (t' : Nat) (bs : List Int), t' ≤ t + 1 ∧ openAt (rest im') = (rest (replayed im'), ⟨t', bs, false⟩) ∧ (replayed im').length = im.length ∧ Inv t' (replayed im') := by
    intro im' n hn hl hs hI
    obtain ⟨t', h1, h2, h3⟩ := openNum_spec hs (by omega)
    refine ⟨t', _, by omega, by rw [open_rest (by rw [hl]; exact I.len), h1], by unfold replayed; rw [replayN_length, hl], ?_⟩
    exact hI.renum (fun s hs' => h3 s (replayN_mem (by rw [hl]; exact I.len) _ (targets_spec im').1 s hs'))
  have done : ∀ im' : List Bytes, g.2.1.mount picks = rest im' → im'.length = im.length → (g.2.1.mount picks).off = false ∧ (g.2.1.mount picks).trip = -1 ∧ (g.2.1.mount picks).pg.length = im.length := by
    intro im' h hl
    rw [h]
    exact ⟨rfl, rfl, by rw [rest_len, hl]⟩
  by_cases hc : check ((rest im).setTrip m) p l = 0
  · have hb : Bat im.length l := by rw [← hlen]; exact Bat.of_check hc
    have hg : g = if (runAll ((rest im).setTrip m) (steps (p.number + 1) l)).1 ≠ 0 then ((runAll ((rest im).setTrip m) (steps (p.number + 1) l)).1, (runAll ((rest im).setTrip m) (steps (p.number + 1) l)).2, { p with closed := true }) else (0, (runAll ((rest im).setTrip m) (steps (p.number + 1) l)).2, { p with number := p.number + 1 }) := by
      show give _ _ _ = _
      unfold give
      rw [if_neg (by simp [hc])]
    have hn : p.number + 1 = ((t + 1 : Nat) : Int) := by omega
    rw [hn] at hg
    rcases run_steps I hb (show t < t + 1 by omega) ht hpg hoff with ⟨h1, h2⟩ | ⟨h1, R1, h2, h3, h4, h5, h6⟩ | ⟨h1, R2, h2, h3⟩
    · rw [if_pos (by rw [h1]; decide), h1] at hg
      have g1 : g.1 = 20 := by rw [hg]
      have g2 : g.2.1 = (runAll ((rest im).setTrip m) (steps (t + 1 : Nat) l)).2 := by rw [hg]
      obtain ⟨im', k1, k2⟩ := mount_mix h2 picks
      have hM : g.2.1.mount picks = rest im' := by rw [g2, k1]
      obtain ⟨c1, c2⟩ := cut_log I hb (show t < t + 1 by omega) ht k2
      have hps := mix_pst k2 (fun i s hs => ⟨(I.pg i s hs).mono (by omega), fun _ => I.pg i s hs⟩) (fun _ _ hb' => nwLog_sealed hb hb') (by omega) ht
      obtain ⟨t', bs, e1, e2, e3, e4⟩ := fin im' (t + 1) (by omega) k2.1 hps c1
      obtain ⟨d1, d2, d3⟩ := done im' hM k2.1
      refine ⟨d1, d2, d3, t', _, bs, e1, by rw [hM]; exact e2, e3, e4, ?_, fun h => ?_, fun _ h => ?_⟩
      · rcases c2 with c2 | c2
        · exact .inl c2
        · exact .inr ⟨hc, c2⟩
      · rw [g1] at h; cases h
      · exact absurd g1 h
    · rw [if_pos (by rw [h1]; decide), h1] at hg
      have g1 : g.1 = 20 := by rw [hg]
      have g2 : g.2.1 = (runAll ((rest im).setTrip m) (steps (t + 1 : Nat) l)).2 := by rw [hg]
      obtain ⟨im', k1, k2⟩ := mount_mix h2 picks
      have hM : g.2.1.mount picks = rest im' := by rw [g2, k1]
      have hR := cut_data I hb (show 1 ≤ t + 1 by omega) ht h3 h4 h5 h6 k2
      have hps := mix_pst (t := t) k2 (fun i s hs => ⟨?_, fun hne => ?_⟩) (fun _ _ hb' => nwData_sealed hb hb') (show t < t + 1 by omega) ht
      rotate_left
      · by_cases hi : i < 17
        · exact h5 i s hi hs
        · rw [h6 i (by omega)] at hs
          exact (I.pg i s hs).mono (by omega)
      · cases hw : nwData (t + 1) l i with
        | none => exact absurd hw hne
        | some b =>
          obtain ⟨x, hx, hxi, _⟩ := nwData_spec hw
          have := hb.at_ x hx
          rw [h6 i (by omega)] at hs
          exact I.pg i s hs
      obtain ⟨t', bs, e1, e2, e3, e4⟩ := fin im' (t + 1) (by omega) (k2.1.trans h3) hps (hR.inv I hb (by omega) (by omega) ht)
      obtain ⟨d1, d2, d3⟩ := done im' hM (k2.1.trans h3)
      have hcon := hR.conts_eq I hb (by omega) ht
      refine ⟨d1, d2, d3, t', _, bs, e1, by rw [hM]; exact e2, e3, e4, .inr ⟨hc, hcon⟩, fun _ => hcon, fun _ h => absurd g1 h⟩
    · rw [if_neg (by rw [h1]; decide)] at hg
      have g1 : g.1 = 0 := by rw [hg]
      have g2 : g.2.1 = (runAll ((rest im).setTrip m) (steps (t + 1 : Nat) l)).2 := by rw [hg]
      have hM : g.2.1.mount picks = rest R2 := by rw [g2]; exact mount_rest _ h2 picks
      have hI2 := h3.inv I hb (by omega) (by omega) ht
      have hrep := hI2.replayed_eq
      obtain ⟨t', bs, e1, e2, e3, e4⟩ := fin R2 (t + 1) (by omega) h3.len hI2.mem (by rw [hrep]; exact hI2)
      obtain ⟨d1, d2, d3⟩ := done R2 hM h3.len
      rw [hrep] at e2 e3 e4
      have hcon := h3.conts_eq I hb (by omega) ht
      refine ⟨d1, d2, d3, t', R2, bs, e1, by rw [hM]; exact e2, e3, e4, .inr ⟨hc, hcon⟩, fun _ => hcon, fun h => absurd g1 h⟩
  · have hg : g = (check ((rest im).setTrip m) p l, (rest im).setTrip m, p) := by
      show give _ _ _ = _
      unfold give
      rw [if_pos hc]
    have hM : g.2.1.mount picks = rest im := by rw [hg]; exact mount_rest _ hpg picks
    have hrep := I.replayed_eq
    obtain ⟨t', bs, e1, e2, e3, e4⟩ := fin im t (by omega) rfl I.mem (by rw [hrep]; exact I)
    obtain ⟨d1, d2, d3⟩ := done im hM rfl
    rw [hrep] at e2 e3 e4
    refine ⟨d1, d2, d3, t', im, bs, e1, by rw [hM]; exact e2, e3, e4, .inl rfl, fun h => ?_, fun _ _ => rfl⟩
    rw [hg] at h
    exact absurd h hc

/-- A write while the power stays on. -/
theorem give_plain (I : Inv t im) (ht : t + 1 < 256) {p : M.Pages} (hp : p.number = t) (hcl : p.closed = false) (l : List PW) :
    ∃ (t' : Nat) (R : List Bytes), t' ≤ t + 1 ∧ (give (rest im) p l).2.1 = rest R ∧ R.length = im.length ∧ Inv t' R ∧ (give (rest im) p l).2.2.number = t' ∧ (give (rest im) p l).2.2.closed = false := by
  by_cases hc : check (rest im) p l = 0
  · have hb : Bat im.length l := by rw [← rest_len im]; exact Bat.of_check hc
    have hg : give (rest im) p l = if (runAll (rest im) (steps (p.number + 1) l)).1 ≠ 0 then ((runAll (rest im) (steps (p.number + 1) l)).1, (runAll (rest im) (steps (p.number + 1) l)).2, { p with closed := true }) else (0, (runAll (rest im) (steps (p.number + 1) l)).2, { p with number := p.number + 1 }) := by
      unfold give
      rw [if_neg (by simp [hc])]
    have hn : p.number + 1 = ((t + 1 : Nat) : Int) := by omega
    rw [hn] at hg
    have hok := runAll_ok (steps (t + 1 : Nat) l) (rest im) rfl rfl (fun q s hq => by
      unfold Disk.is Disk.len
      rw [rest_len]
      have few := hb.few
      have hlen := I.len
      simp only [Bool.and_eq_true, decide_eq_true_eq]
      unfold steps at hq
      rcases List.mem_append.1 hq with hq | hq
      · rcases List.mem_append.1 hq with hq | hq
        · rcases List.mem_append.1 hq with hq | hq
          · obtain ⟨j, x, hj, e⟩ := mem_logs hq
            injection e with e1 e2
            have := (List.getElem?_eq_some_iff.1 hj).1
            omega
          · simp only [List.mem_cons, Stp.put.injEq, reduceCtorEq, List.mem_nil_iff, or_false] at hq
            omega
        · obtain ⟨x, hx, e⟩ := mem_datas hq
          injection e with e1 e2
          have := hb.at_ x hx
          omega
      · simp at hq)
    rcases run_steps I hb (show t < t + 1 by omega) ht (show (rest im).pg = im.map bare1 from rfl) rfl with ⟨h1, _⟩ | ⟨h1, _⟩ | ⟨h1, R2, h2, h3⟩
    · rw [hok.1] at h1; cases h1
    · rw [hok.1] at h1; cases h1
    · rw [if_neg (by rw [h1]; decide)] at hg
      rw [hg]
      refine ⟨t + 1, R2, by omega, ?_, h3.len, h3.inv I hb (by omega) (by omega) ht, rfl, hcl⟩
      show (runAll (rest im) (steps (t + 1 : Nat) l)).2 = rest R2
      unfold rest at hok h2 ⊢
      rw [← h2]
      generalize (runAll ⟨im.map bare1, false, -1⟩ (steps (t + 1 : Nat) l)).2 = D at hok ⊢
      obtain ⟨_, o1, o2, _⟩ := hok
      cases D
      simp only at o1 o2
      subst o1
      subst o2
      rfl
  · have hg : give (rest im) p l = (check (rest im) p l, rest im, p) := by
      unfold give
      rw [if_pos hc]
    rw [hg]
    exact ⟨t, im, by omega, rfl, rfl, I, hp, hcl⟩

/-- Every data page can be read. -/
theorem read_rest (I : Inv t im) {p : M.Pages} (hcl : p.closed = false) (i : Nat) (hi : i < (conts im).length) : p.read (rest im) i = ((conts im)[i], 0) := by
  have hl : (rest im).len = im.length := by unfold Disk.len; rw [rest_len]
  have hi' : 17 + i < im.length := by rw [conts_length] at hi; omega
  have e := List.getElem?_eq_getElem hi'
  have hg := I.good (17 + i) _ (by omega) e
  have hr : (rest im).read (17 + (i : Int)) = (im[17 + i], 0) := by
    have his : (rest im).is (17 + (i : Int)) = true := by unfold Disk.is; rw [hl]; simp only [Bool.and_eq_true, decide_eq_true_eq]; omega
    unfold Disk.read
    rw [his]
    have hn : (rest im).now (17 + (i : Int)).toNat = im[17 + i] := by
      rw [show (17 + (i : Int)).toNat = 17 + i by omega]
      unfold Disk.now rest
      rw [List.getElem?_map, e]
      rfl
    rw [hn]
    rfl
  have hci : (conts im)[i] = (unsealed im[17 + i]).data := by
    have := conts_get im i
    rw [e, List.getElem?_eq_getElem hi] at this
    exact Option.some.inj this
  unfold M.Pages.read
  rw [hcl, hl, hr, hci]
  simp only [hg]
  rw [if_neg (by simp), if_neg (by omega), if_neg (by simp)]
  rfl

/-- A new disk. -/
theorem Inv.fresh (n : Nat) (h1 : 18 ≤ n) (h2 : n ≤ 4096) : Inv 0 (List.replicate n (zeros 128)) := by
  have h0 : (List.replicate n (zeros 128))[0]? = some (zeros 128) := by rw [List.getElem?_replicate, if_pos (by omega)]
  refine ⟨by simpa using h1, by simpa using h2, ?_, ?_, ?_⟩
  · intro i s hs
    rw [List.eq_of_mem_replicate (List.mem_of_getElem? hs)]
    exact Pst.blank 0
  · intro i s _ hs
    rw [List.eq_of_mem_replicate (List.mem_of_getElem? hs), unsealed_blank]
  · intro j x hj
    have : targets (List.replicate n (zeros 128)) = [] := by
      unfold targets
      simp only [getD_some h0, unsealed_blank]
      rw [if_pos (.inl trivial)]
    rw [this] at hj
    simp at hj
theorem new_rest (n : Nat) : Disk.new n = rest (List.replicate n (zeros 128)) := by
  unfold Disk.new rest
  rw [List.map_replicate]
  rfl
theorem open_fresh (n : Nat) (h1 : 18 ≤ n) (h2 : n ≤ 4096) : ∃ bs, openAt (Disk.new n) = (rest (List.replicate n (zeros 128)), ⟨0, bs, false⟩) := by
  have I := Inv.fresh n h1 h2
  obtain ⟨t', e1, e2, _⟩ := openNum_spec I.mem (by omega)
  rw [new_rest, open_rest I.len, I.replayed_eq, e1]
  have : t' = 0 := by omega
  subst this
  exact ⟨_, rfl⟩
end
end Go.Proofs.YtcnhlemenpgkbaaGreatDoor
