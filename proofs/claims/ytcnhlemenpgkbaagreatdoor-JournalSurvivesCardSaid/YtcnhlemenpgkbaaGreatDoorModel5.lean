/- Plain model of opening. -/
import Derived.Test.YtcnhlemenpgkbaaGreatDoorPages9
namespace Go.Proofs.YtcnhlemenpgkbaaGreatDoor
set_option linter.unusedSimpArgs false
set_option linter.unusedVariables false
set_option linter.unnecessarySimpa false
namespace M
def upd (a : Int) (n : Nat) : Int := if (n : Int) ≤ 1073741824 then max a n else a
/-- The greatest number of a write that stands on the pages. -/
def openNum (im : List Bytes) : Int := im.foldl (fun a s => upd (upd a (num (s.take 4))) (num (s.drop 124))) 0
end M
open M
theorem openNum_snoc (im : List Bytes) (s : Bytes) : openNum (im ++ [s]) = upd (upd (openNum im) (num (s.take 4))) (num (s.drop 124)) := by simp [openNum]
theorem upd_bound {a : Int} {n : Nat} (h0 : 0 ≤ a) (h1 : a ≤ 1073741824) : 0 ≤ upd a n ∧ upd a n ≤ 1073741824 := by
  unfold upd
  split <;> omega
theorem openNum_bound : ∀ (im : List Bytes), 0 ≤ openNum im ∧ openNum im ≤ 1073741824 := by
  intro im
  unfold openNum
  suffices h : ∀ (im : List Bytes) (a : Int), 0 ≤ a → a ≤ 1073741824 → 0 ≤ im.foldl (fun a s => upd (upd a (num (s.take 4))) (num (s.drop 124))) a ∧ im.foldl (fun a s => upd (upd a (num (s.take 4))) (num (s.drop 124))) a ≤ 1073741824 from h im 0 (by omega) (by omega)
  intro im
  induction im with
  | nil => intro a h0 h1; exact ⟨h0, h1⟩
  | cons s r ih =>
    intro a h0 h1
    have b1 := upd_bound (n := num (s.take 4)) h0 h1
    have b2 := upd_bound (n := num (s.drop 124)) b1.1 b1.2
    exact ih _ b2.1 b2.2
end Go.Proofs.YtcnhlemenpgkbaaGreatDoor
