/- Plain model of opening: the log, the numbers, the damaged pages. -/
import Derived.Test.YtcnhlemenpgkbaaGreatDoorPages7
namespace Go.Proofs.YtcnhlemenpgkbaaGreatDoor
set_option linter.unusedSimpArgs false
set_option linter.unusedVariables false
set_option linter.unnecessarySimpa false
namespace M

/-- The page number that the log's first page names at place j. -/
def tx (data : Bytes) (j : Nat) : Nat := num ((data.drop (1 + 2 * j)).take 2)
def txs (data : Bytes) (k : Nat) : List Nat := (List.range k).map (tx data)
def tgood (im : List Bytes) (t : Nat) (data : Bytes) (j : Nat) : Bool :=
  (unsealed (im.getD (1 + j) [])).ok && decide ((unsealed (im.getD (1 + j) [])).n = t) && decide ((tx data j : Int) < im.length - 17) && (decide (j = 0) || decide (tx data (j - 1) < tx data j))
def tk (u : Un) : Nat := if u.ok then (u.data.getD 0 0).toNat else 0
/-- The data pages of the log in some pages; none, if it is not complete. -/
def targets (im : List Bytes) : List Nat :=
  let u := unsealed (im.getD 0 [])
  if u.n = 0 ∨ tk u < 1 ∨ 16 < tk u then []
  else if (List.range (tk u)).all (tgood im u.n u.data) ∧ record (txs u.data (tk u)) = u.data then txs u.data (tk u) else []
end M
open M
theorem txs_succ (data : Bytes) (k : Nat) : txs data (k + 1) = txs data k ++ [tx data k] := by simp [txs, List.range_succ]
theorem txs_length (data : Bytes) (k : Nat) : (txs data k).length = k := by simp [txs]
theorem txs_get (data : Bytes) (k j : Nat) (h : j < k) : (natv (txs data k))[j]? = some (.int .i64 (tx data j)) := by simp [natv, txs, h]
theorem tx_lt (data : Bytes) (j : Nat) : tx data j < 65536 := by
  have h : ∀ (s : Bytes), s.length ≤ 2 → num s < 65536 := by
    intro s hs
    match s, hs with
    | [], _ => decide
    | [a], _ => have := a.toNat_lt; simp [num]; omega
    | [a, b], _ => have := a.toNat_lt; have := b.toNat_lt; simp [num]; omega
    | a :: b :: c :: r, hs => simp at hs
  exact h _ (by rw [List.length_take]; omega)
theorem all_false {im : List Bytes} {t : Nat} {data : Bytes} {k n : Nat} (h : tgood im t data n = false) (hn : n < k) : (List.range k).all (tgood im t data) = false := by
  rw [List.all_eq_false]
  exact ⟨n, by simpa using hn, by simp [h]⟩
end Go.Proofs.YtcnhlemenpgkbaaGreatDoor
