/- Plain model of a write: its steps. -/
import Derived.Test.YtcnhlemenpgkbaaGreatDoorPages5
namespace Go.Proofs.YtcnhlemenpgkbaaGreatDoor
set_option linter.unusedSimpArgs false
set_option linter.unusedVariables false
set_option linter.unnecessarySimpa false
open M

def logs (t : Int) : Int → List PW → List Stp
  | _, [] => []
  | k, x :: r => .put k (sealed t x.2) :: logs t (k + 1) r
def datas (t : Int) : List PW → List Stp
  | [] => []
  | x :: r => .put (17 + x.1) (sealed t x.2) :: datas t r
theorem logs_snoc (t : Int) : ∀ (l : List PW) (k : Int) (x : PW), logs t k (l ++ [x]) = logs t k l ++ [.put (k + l.length) (sealed t x.2)]
  | [], k, x => by simp [logs]
  | y :: l, k, x => by
    simp only [List.cons_append, logs, logs_snoc t l (k + 1) x, List.length_cons]
    congr 4
    omega
theorem datas_snoc (t : Int) : ∀ (l : List PW) (x : PW), datas t (l ++ [x]) = datas t l ++ [.put (17 + x.1) (sealed t x.2)]
  | [], x => by simp [datas]
  | y :: l, x => by simp only [List.cons_append, datas, datas_snoc t l x]
theorem logs_length (t : Int) : ∀ (l : List PW) (k : Int), (logs t k l).length = l.length
  | [], _ => rfl
  | x :: l, k => by simp [logs, logs_length t l]
theorem datas_length (t : Int) : ∀ (l : List PW), (datas t l).length = l.length
  | [] => rfl
  | x :: l => by simp [datas, datas_length t l]

def steps (t : Int) (l : List PW) : List Stp :=
  (logs t 1 l ++ [.put 0 (sealed t (record (l.map fun x => x.1.toNat))), .flush]) ++ datas t l ++ [.flush]

/-- Giving pages new data. -/
def give (d : Disk) (p : M.Pages) (l : List PW) : Int × Disk × M.Pages :=
  if check d p l ≠ 0 then (check d p l, d, p)
  else if (runAll d (steps (p.number + 1) l)).1 ≠ 0 then ((runAll d (steps (p.number + 1) l)).1, (runAll d (steps (p.number + 1) l)).2, { p with closed := true })
  else (0, (runAll d (steps (p.number + 1) l)).2, { p with number := p.number + 1 })

theorem sealed_length {n : Int} {data : Bytes} (h1 : 1 ≤ n) (h2 : n ≤ 1073741824) (h3 : data.length = 116) : (sealed n data).length = 128 := by
  unfold sealed
  rw [if_neg (by omega)]
  simp [le_length, h3]
theorem record_length (l : List Nat) (h : l.length ≤ 16) : (record l).length = 116 := by
  have := flat_le_length l
  simp only [record, List.length_append, List.length_cons, this, zeros, List.length_replicate]
  omega
theorem okFrom_mem {n : Int} : ∀ {l : List PW} {o : Option Int}, okFrom n o l = true → ∀ x ∈ l, 0 ≤ x.1 ∧ x.1 < n ∧ x.2.length = 116
  | [], _, _, x, hx => by simp at hx
  | y :: l, o, h, x, hx => by
    simp only [okFrom, Bool.and_eq_true, Bool.not_eq_true', Bool.or_eq_false_iff, decide_eq_false_iff_not] at h
    rcases List.mem_cons.1 hx with rfl | hx
    · exact ⟨by omega, by omega, by omega⟩
    · exact okFrom_mem h.2 x hx
theorem check_ok {d : Disk} {p : M.Pages} {l : List PW} (h : check d p l = 0) : p.closed = false ∧ l.length ≤ 16 ∧ p.number < 1073741824 ∧ l ≠ [] ∧ okFrom (d.len - 17) none l = true := by
  unfold check at h
  split at h
  · simp at h
  · rename_i h1
    split at h
    · simp at h
    · rename_i h2
      split at h
      · simp at h
      · rename_i h3
        split at h
        · rename_i h4
          exact ⟨by simpa using h1, by omega, by omega, h3, h4⟩
        · simp at h
end Go.Proofs.YtcnhlemenpgkbaaGreatDoor
