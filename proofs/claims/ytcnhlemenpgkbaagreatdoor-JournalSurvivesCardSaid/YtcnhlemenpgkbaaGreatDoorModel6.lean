/- Plain model of opening: the replay, its steps, the damaged pages. -/
import Derived.Test.YtcnhlemenpgkbaaGreatDoorModel5
namespace Go.Proofs.YtcnhlemenpgkbaaGreatDoor
set_option linter.unusedSimpArgs false
set_option linter.unusedVariables false
set_option linter.unnecessarySimpa false
namespace M
def replayN (im : List Bytes) (ts : List Nat) : Nat → List Bytes
  | 0 => im
  | n + 1 => (replayN im ts n).set (17 + ts.getD n 0) ((replayN im ts n).getD (1 + n) [])
/-- The pages behind the replay. -/
def replayed (im : List Bytes) : List Bytes := replayN im (targets im) (targets im).length
/-- The data pages that are damaged; the first is number k. -/
def badsFrom : Nat → List Bytes → List Int
  | _, [] => []
  | k, s :: r => if (unsealed s).ok then badsFrom (k + 1) r else (k : Int) :: badsFrom (k + 1) r
def Disk.seen (d : Disk) : List Bytes := (List.range d.pg.length).map d.now
end M
open M
def putsN (im : List Bytes) (ts : List Nat) : Nat → List Stp
  | 0 => []
  | n + 1 => putsN im ts n ++ [.put ((17 + ts.getD n 0 : Nat) : Int) ((replayN im ts (n + 1)).getD (1 + n) [])]
/-- The steps of the replay. -/
def openSteps (im : List Bytes) : List Stp := putsN im (targets im) (targets im).length ++ if targets im = [] then [] else [.flush]
/-- Opening: the disk behind it, and the pages. -/
def openAt (d : Disk) : Disk × M.Pages := ((runAll d (openSteps d.seen)).2, ⟨openNum d.seen, badsFrom 0 ((replayed d.seen).drop 17), false⟩)

theorem replayN_length (im : List Bytes) (ts : List Nat) : ∀ n, (replayN im ts n).length = im.length
  | 0 => rfl
  | n + 1 => by simp [replayN, replayN_length im ts n]
theorem putsN_length (im : List Bytes) (ts : List Nat) : ∀ n, (putsN im ts n).length = n
  | 0 => rfl
  | n + 1 => by simp [putsN, putsN_length im ts n]
theorem replayN_128 {im : List Bytes} {ts : List Nat} (h : ∀ s ∈ im, s.length = 128) (hl : 17 ≤ im.length) : ∀ n, n ≤ 16 → ∀ s ∈ replayN im ts n, s.length = 128
  | 0, _ => h
  | n + 1, hn => by
    have ih := replayN_128 (ts := ts) h hl n (by omega)
    intro s hs
    rcases List.mem_or_eq_of_mem_set hs with hs | rfl
    · exact ih s hs
    · have : 1 + n < (replayN im ts n).length := by rw [replayN_length]; omega
      simp only [List.getD_eq_getElem?_getD, List.getElem?_eq_getElem this, Option.getD_some]
      exact ih _ (List.getElem_mem this)
theorem targets_spec (im : List Bytes) : (targets im).length ≤ 16 ∧ ∀ (n x : Nat), (targets im)[n]? = some x → 17 + x < im.length := by
  unfold targets
  simp only
  split
  · simp
  · rename_i h
    split
    · rename_i h2
      refine ⟨by rw [txs_length]; omega, fun n x hx => ?_⟩
      have hn : n < tk (unsealed (im.getD 0 [])) := by
        have := (List.getElem?_eq_some_iff.1 hx).1
        rwa [txs_length] at this
      have hg := List.all_eq_true.1 h2.1 n (by simpa using hn)
      have hx' : tx (unsealed (im.getD 0 [])).data n = x := by
        unfold txs at hx
        rw [List.getElem?_map, List.getElem?_range hn] at hx
        simpa using hx
      unfold tgood at hg
      rw [hx'] at hg
      simp only [Bool.and_eq_true, decide_eq_true_eq] at hg
      omega
    · simp
theorem badsFrom_snoc : ∀ (l : List Bytes) (k : Nat) (s : Bytes), badsFrom k (l ++ [s]) = badsFrom k l ++ if (unsealed s).ok then [] else [((k + l.length : Nat) : Int)]
  | [], k, s => by
    simp only [List.nil_append, badsFrom, List.length_nil, Nat.add_zero]
  | x :: l, k, s => by
    simp only [List.cons_append, badsFrom, badsFrom_snoc l (k + 1) s, List.length_cons]
    rw [show k + 1 + l.length = k + (l.length + 1) by omega]
    split <;> simp
theorem badsFrom_length : ∀ (l : List Bytes) (k : Nat), (badsFrom k l).length ≤ l.length
  | [], _ => by simp [badsFrom]
  | x :: l, k => by
    have := badsFrom_length l (k + 1)
    simp only [badsFrom]
    split <;> simp <;> omega

/-- A disk whose power is on and does not fail takes every step. -/
theorem runAll_ok : ∀ (sts : List Stp) (d : Disk), d.off = false → d.trip = -1 → (∀ p s, Stp.put p s ∈ sts → d.is p = true) →
    (runAll d sts).1 = 0 ∧ (runAll d sts).2.off = false ∧ (runAll d sts).2.trip = -1 ∧ (runAll d sts).2.pg.length = d.pg.length
  | [], d, h1, h2, _ => ⟨rfl, h1, h2, rfl⟩
  | x :: r, d, h1, h2, h3 => by
    have hs : d.step = (0, d) := by simp [Disk.step, h2]
    have hx : (runStep d x).1 = 0 ∧ (runStep d x).2.off = false ∧ (runStep d x).2.trip = -1 ∧ (runStep d x).2.pg.length = d.pg.length := by
      cases x with
      | put p s =>
        have := h3 p s (by simp)
        simp [runStep, Disk.write, h1, this, hs, h2]
      | flush => simp [runStep, Disk.flush, h1, hs, h2]
    obtain ⟨k1, k2, k3, k4⟩ := runAll_ok r (runStep d x).2 hx.2.1 hx.2.2.1 (fun p s hp => by
      have := h3 p s (by simp [hp])
      unfold Disk.is Disk.len at this ⊢
      rw [hx.2.2.2]
      exact this)
    simp only [runAll, hx.1, if_true]
    exact ⟨k1, k2, k3, k4.trans hx.2.2.2⟩
theorem mem_putsN {im : List Bytes} {ts : List Nat} : ∀ {n : Nat} {p : Int} {s : Bytes}, Stp.put p s ∈ putsN im ts n → ∃ j, j < n ∧ p = ((17 + ts.getD j 0 : Nat) : Int)
  | 0, p, s, h => by simp [putsN] at h
  | n + 1, p, s, h => by
    simp only [putsN, List.mem_append, List.mem_singleton] at h
    rcases h with h | h
    · obtain ⟨j, hj, e⟩ := mem_putsN h
      exact ⟨j, by omega, e⟩
    · injection h with h1 h2
      exact ⟨n, by omega, h1⟩
theorem openSteps_ok {d : Disk} {im : List Bytes} (hl : im.length = d.pg.length) (h1 : d.off = false) (h2 : d.trip = -1) :
    (runAll d (openSteps im)).1 = 0 ∧ (runAll d (openSteps im)).2.off = false ∧ (runAll d (openSteps im)).2.trip = -1 ∧ (runAll d (openSteps im)).2.pg.length = d.pg.length := by
  refine runAll_ok _ d h1 h2 fun p s hp => ?_
  unfold openSteps at hp
  rcases List.mem_append.1 hp with hp | hp
  · obtain ⟨j, hj, rfl⟩ := mem_putsN hp
    have := (targets_spec im).2 j ((targets im).getD j 0) (by simp [List.getD, List.getElem?_eq_getElem hj])
    unfold Disk.is Disk.len
    simp only [Bool.and_eq_true, decide_eq_true_eq]
    omega
  · split at hp <;> simp at hp
end Go.Proofs.YtcnhlemenpgkbaaGreatDoor
