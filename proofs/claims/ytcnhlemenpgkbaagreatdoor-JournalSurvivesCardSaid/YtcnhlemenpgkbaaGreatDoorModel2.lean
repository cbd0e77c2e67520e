/- Plain model of the pages: what is read, checked, written. -/
import Derived.Test.YtcnhlemenpgkbaaGreatDoorModel
namespace Go.Proofs.YtcnhlemenpgkbaaGreatDoor
set_option linter.unusedSimpArgs false
set_option linter.unusedVariables false
set_option linter.unnecessarySimpa false
namespace M

structure Pages where
  number : Int
  bad : List Int
  closed : Bool

abbrev PW := Int × Bytes

/-- Pages that increase strictly, exist, and have data of the right size; the one before is 'last'. -/
def okFrom (n : Int) : Option Int → List PW → Bool
  | _, [] => true
  | last, x :: r => !(decide (x.1 < 0) || decide (n ≤ x.1) || decide (x.2.length ≠ 116) || (match last with | some y => decide (x.1 ≤ y) | none => false)) && okFrom n (some x.1) r

def check (d : Disk) (p : Pages) (l : List PW) : Int :=
  if p.closed then 20
  else if 16 < l.length ∨ 1073741824 ≤ p.number then 2
  else if l = [] then 1
  else if okFrom (d.len - 17) none l then 0 else 1

def Pages.read (d : Disk) (p : Pages) (i : Int) : Bytes × Int :=
  if p.closed then ([], 20)
  else if i < 0 ∨ d.len - 17 ≤ i then ([], 1)
  else if (d.read (17 + i)).2 ≠ 0 then ([], (d.read (17 + i)).2)
  else if (unsealed (d.read (17 + i)).1).ok then ((unsealed (d.read (17 + i)).1).data, 0) else ([], 7)

end M
end Go.Proofs.YtcnhlemenpgkbaaGreatDoor
