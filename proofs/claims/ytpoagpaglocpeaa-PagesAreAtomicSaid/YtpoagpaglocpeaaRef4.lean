/- The specification's disk: what is pending; mounting. -/
import Derived.Test.YtpoagpaglocpeaaRef3
import Derived.Test.YtpoagpaglocpeaaPages7
namespace Go.Proofs.Ytpoagpaglocpeaa
set_option linter.unusedSimpArgs false
set_option linter.unusedVariables false
set_option linter.unnecessarySimpa false
open Go.RowKit M

theorem pendingFrom_snoc : ∀ (l : List Pg) (k : Nat) (p : Pg), pendingFrom k (l ++ [p]) = pendingFrom k l ++ if p.new.isSome then [((k + l.length : Nat) : Int)] else []
  | [], k, p => by
    simp only [List.nil_append, pendingFrom, List.length_nil, Nat.add_zero]
  | q :: l, k, p => by
    simp only [List.cons_append, pendingFrom, pendingFrom_snoc l (k + 1) p, List.length_cons]
    rw [show k + 1 + l.length = k + (l.length + 1) by omega]
    split <;> simp

section
variable {w : World} {L : RL} {d : Disk}

end
end Go.Proofs.Ytpoagpaglocpeaa
