/- Plain law of torn pages: a page torn between two writes is old, new, or its numbers differ. -/
import Derived.Test.YtpoagpaglocpeaaModel6
namespace Go.Proofs.Ytpoagpaglocpeaa
set_option linter.unusedSimpArgs false
set_option linter.unusedVariables false
set_option linter.unnecessarySimpa false
open M

def hdn (s : Bytes) : Nat := num (s.take 4)
def tln (s : Bytes) : Nat := num (s.drop 124)

theorem num_le : ∀ (k n : Nat), n < 256 ^ k → num (le k n) = n
  | 0, n, h => by simp at h; subst h; rfl
  | k + 1, n, h => by
    have h' : n / 256 < 256 ^ k := by rw [Nat.pow_succ] at h; omega
    simp only [le, num, num_le k _ h', UInt8.toNat_ofNat']
    omega
theorem le_num : ∀ (s : Bytes), le s.length (num s) = s
  | [] => rfl
  | b :: s => by
    have hb := b.toNat_lt
    have e1 : (b.toNat + 256 * num s) / 256 = num s := by omega
    have e2 : UInt8.ofNat (b.toNat + 256 * num s) = b := by
      apply UInt8.toNat.inj
      rw [UInt8.toNat_ofNat']
      omega
    simp only [List.length_cons, num, le, e1, e2, le_num s]
theorem le4_small {n : Nat} (h : n < 256) : le 4 n = [UInt8.ofNat n, 0, 0, 0] := by
  have : n / 256 = 0 := by omega
  simp [le, this]
theorem four_small {s : Bytes} (hl : s.length = 4) (h : num s < 256) : s = [UInt8.ofNat (num s), 0, 0, 0] := by
  rw [← le4_small h]
  have := le_num s
  rw [hl] at this
  exact this.symm

theorem sealed_eq {n : Nat} {data : Bytes} (h1 : 1 ≤ n) (h2 : n ≤ 1073741824) (h3 : data.length = 116) : sealed n data = (le 4 n ++ data) ++ le 4 (crc (le 4 n ++ data)) ++ le 4 n := by
  unfold sealed
  rw [if_neg (by omega)]
  simp
theorem seal_len {n : Nat} {data : Bytes} (h1 : 1 ≤ n) (h2 : n ≤ 1073741824) (h3 : data.length = 116) : (sealed n data).length = 128 := by
  rw [sealed_eq h1 h2 h3]
  simp [le_length, h3]
theorem sealed_take {n : Nat} {data : Bytes} (h1 : 1 ≤ n) (h2 : n ≤ 1073741824) (h3 : data.length = 116) : (sealed n data).take 4 = le 4 n := by
  rw [sealed_eq h1 h2 h3, List.append_assoc, List.append_assoc]
  exact List.take_left' (le_length 4 n)
theorem sealed_drop {n : Nat} {data : Bytes} (h1 : 1 ≤ n) (h2 : n ≤ 1073741824) (h3 : data.length = 116) : (sealed n data).drop 124 = le 4 n := by
  rw [sealed_eq h1 h2 h3]
  exact List.drop_left' (by simp [le_length, h3])
theorem sealed_mid {n : Nat} {data : Bytes} (h1 : 1 ≤ n) (h2 : n ≤ 1073741824) (h3 : data.length = 116) : ((sealed n data).drop 4).take 116 = data := by
  rw [sealed_eq h1 h2 h3, List.append_assoc, List.append_assoc, List.drop_left' (le_length 4 n)]
  exact List.take_left' h3
theorem unsealed_sealed {n : Nat} {data : Bytes} (h1 : 1 ≤ n) (h2 : n ≤ 1073741824) (h3 : data.length = 116) : unsealed (sealed n data) = ⟨n, data, true⟩ := by
  have hn : num (le 4 n) = n := num_le 4 n (by omega)
  unfold unsealed
  rw [if_neg (by rw [seal_len h1 h2 h3]; omega), sealed_take h1 h2 h3, sealed_mid h1 h2 h3, hn, if_neg (fun h => h.1 rfl)]
theorem unsealed_blank : unsealed (zeros 128) = ⟨0, zeros 116, true⟩ := by
  unfold unsealed
  rw [if_neg (by decide +kernel), if_neg (by decide +kernel)]
  rfl

/-- What is unsealed is whole: its numbers are equal, and are its number. -/
theorem ok_numbers {s : Bytes} (h : (unsealed s).ok = true) : s.length = 128 ∧ tln s = hdn s ∧ (unsealed s).n = hdn s := by
  unfold unsealed at h ⊢
  split at h
  · cases h
  · rename_i hl
    have hl : s.length = 128 := by omega
    rw [if_neg (by omega)]
    split at h
    · cases h
    · rename_i hne
      rw [if_neg hne]
      refine ⟨hl, ?_, rfl⟩
      by_cases h1 : s = zeros 128
      · subst h1; decide +kernel
      · have h2 : s = sealed (num (s.take 4)) ((s.drop 4).take 116) := by
          by_cases h2 : s = sealed (num (s.take 4)) ((s.drop 4).take 116)
          · exact h2
          · exact absurd ⟨h2, h1⟩ hne
        by_cases hb : (num (s.take 4) : Int) < 1 ∨ (1073741824 : Int) < num (s.take 4)
        · exfalso
          have : sealed (num (s.take 4)) ((s.drop 4).take 116) = [] := by
            unfold sealed
            rw [if_pos (by omega)]
          rw [this] at h2
          rw [h2] at hl
          cases hl
        · have e1 : 1 ≤ num (s.take 4) := by omega
          have e2 : num (s.take 4) ≤ 1073741824 := by omega
          have e3 : ((s.drop 4).take 116).length = 116 := by simp; omega
          have := sealed_drop e1 e2 e3
          rw [← h2] at this
          unfold tln hdn
          rw [this]
          exact num_le 4 _ (by omega)

/-- A page of a disk whose writes have numbers up to t: its head is not below its tail; where they are equal it is whole. -/
structure Pst (t : Nat) (s : Bytes) : Prop where
  len : s.length = 128
  hi : hdn s ≤ t
  lo : tln s ≤ hdn s
  ok : tln s = hdn s → (unsealed s).ok = true

theorem Pst.mono {t t' : Nat} {s : Bytes} (h : Pst t s) (ht : t ≤ t') : Pst t' s := ⟨h.len, Nat.le_trans h.hi ht, h.lo, h.ok⟩
theorem Pst.blank (t : Nat) : Pst t (zeros 128) := by
  have e1 : hdn (zeros 128) = 0 := by decide +kernel
  have e2 : tln (zeros 128) = 0 := by decide +kernel
  exact ⟨by simp [zeros], by omega, by omega, fun _ => by rw [unsealed_blank]⟩
theorem Pst.sealed {n : Nat} {data : Bytes} (h1 : 1 ≤ n) (h2 : n ≤ 1073741824) (h3 : data.length = 116) : Pst n (M.sealed n data) := by
  have hn : num (le 4 n) = n := num_le 4 n (by omega)
  have e1 : hdn (M.sealed n data) = n := by unfold hdn; rw [sealed_take h1 h2 h3, hn]
  have e2 : tln (M.sealed n data) = n := by unfold tln; rw [sealed_drop h1 h2 h3, hn]
  exact ⟨seal_len h1 h2 h3, by omega, by omega, fun _ => by rw [unsealed_sealed h1 h2 h3]⟩

theorem torn_head (a b : UInt8) (X Y : Bytes) (k : Nat) (hk : 1 ≤ k) : (([a, 0, 0, 0] ++ X).take k ++ ([b, 0, 0, 0] ++ Y).drop k).take 4 = [a, 0, 0, 0] := by
  match k, hk with
  | 1, _ => rfl
  | 2, _ => rfl
  | 3, _ => rfl
  | k + 4, _ => simp
theorem torn {t n : Nat} {old data : Bytes} (h : Pst t old) (hn : t < n) (hn' : n < 256) (hd : data.length = 116) (k : Nat) :
    (sealed n data).take k ++ old.drop k = old ∨ (sealed n data).take k ++ old.drop k = sealed n data ∨ (Pst n ((sealed n data).take k ++ old.drop k) ∧ (unsealed ((sealed n data).take k ++ old.drop k)).ok = false) := by
  have h1 : 1 ≤ n := by omega
  have h2 : n ≤ 1073741824 := by omega
  have hlo := h.len
  have hln := seal_len h1 h2 hd
  have o4 : old = [UInt8.ofNat (hdn old), 0, 0, 0] ++ old.drop 4 := by
    have e := four_small (s := old.take 4) (by simp; omega) (by have := h.hi; unfold hdn at this; omega)
    unfold hdn
    rw [← e]
    exact (List.take_append_drop 4 old).symm
  have n4 : sealed n data = [UInt8.ofNat n, 0, 0, 0] ++ (sealed n data).drop 4 := by
    rw [← le4_small hn', ← sealed_take h1 h2 hd]
    exact (List.take_append_drop 4 _).symm
  have ot : old.drop 124 = [UInt8.ofNat (tln old), 0, 0, 0] := four_small (by simp; omega) (by have := h.hi; have := h.lo; unfold tln hdn at *; omega)
  have nt : (sealed n data).drop 124 = [UInt8.ofNat n, 0, 0, 0] := by rw [sealed_drop h1 h2 hd, le4_small hn']
  by_cases k0 : k = 0
  · subst k0; left; simp
  by_cases k1 : 124 < k
  · right; left
    have e : old.drop k = (sealed n data).drop k := by
      have a := congrArg (List.drop (k - 124)) ot
      have b := congrArg (List.drop (k - 124)) nt
      rw [List.drop_drop, show 124 + (k - 124) = k by omega] at a b
      rw [a, b]
      obtain ⟨m, hm⟩ : ∃ m, k - 124 = m + 1 := ⟨k - 125, by omega⟩
      rw [hm]
      rfl
    rw [e, List.take_append_drop]
  · right; right
    have hl : ((sealed n data).take k ++ old.drop k).length = 128 := by simp; omega
    have ht : ((sealed n data).take k ++ old.drop k).drop 124 = old.drop 124 := by
      rw [List.drop_append, List.drop_eq_nil_of_le (by simp; omega), List.nil_append, List.length_take, List.drop_drop]
      congr 1
      omega
    have hh : ((sealed n data).take k ++ old.drop k).take 4 = [UInt8.ofNat n, 0, 0, 0] := by
      rw [o4, n4]
      exact torn_head _ _ _ _ k (by omega)
    have e1 : hdn ((sealed n data).take k ++ old.drop k) = n := by
      unfold hdn
      rw [hh, ← le4_small hn']
      exact num_le 4 n (by omega)
    have e2 : tln ((sealed n data).take k ++ old.drop k) = tln old := by unfold tln; rw [ht]
    have e3 := h.hi
    have e4 := h.lo
    refine ⟨⟨hl, by omega, by omega, fun e => by omega⟩, ?_⟩
    cases hk : (unsealed ((sealed n data).take k ++ old.drop k)).ok with
    | false => rfl
    | true => exact absurd (ok_numbers hk).2.1 (by omega)
end Go.Proofs.Ytpoagpaglocpeaa
