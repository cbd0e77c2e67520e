/- The specification's disk: its contents; a bit that rots; a new disk. -/
import Derived.Test.YtpoagpaglocpeaaRef4
import Derived.Test.YtpoagpaglocpeaaPages10
namespace Go.Proofs.Ytpoagpaglocpeaa
set_option linter.unusedSimpArgs false
set_option linter.unusedVariables false
set_option linter.unnecessarySimpa false
open Go.RowKit M

section
variable {P : Program} {ops : Array Oper} {Q : Exit → Act → World → Prop} {a : Act} {w : World} {rest : List Oper} {o : Oper}
theorem run_text (src dst : TypeId) (x : Operand) (ho : o.op = .convert src dst x) (e : TypeId) (hs : P.underlying src = some (.slice e)) (he : P.underlying e = some (.int .u8)) (hd : P.underlying dst = some .string)
    (g off len cap : Nat) (hx : a.eval x = .slice (some ⟨g, off, none⟩) len cap) (t : TypeId) (cs : Array Value) (fr : Nat × Nat) (s : Bytes) (hg : w.heap[g]? = some (.cells cs t fr)) (hl : s.length = len)
    (hv : ∀ j, j < len → cs[off + j]? = (cellsOf s)[j]?) : (execOp a.eval o).run P w = .ok (.value (str s)) w := by
  have hc := run_convert_bytes_arg (P := P) w src e hs he g off len cap (s.map fun x => (x.toNat : Int)) (by simpa using hl) (fun i hi => by
    rw [cell_of_row w g _ cs t fr hg, hv i hi]
    have hi' : i < s.length := by omega
    simp [cellsOf, List.getD, hi']) dst hd
  unfold execOp
  simp only [ho, hx, Sem.run_bind, hc, Result.andThen_ok, strOf_nums]
  rfl
end

theorem heap_setCell_any (w : World) (g i : Nat) (cs : Array Value) (t : TypeId) (fz : Nat × Nat) (v : Value) (hg : w.heap[g]? = some (.cells cs t fz)) : (w.setCell ⟨g, i, none⟩ v).heap[g]? = some (.cells (cs.setIfInBounds i v) t fz) := by
  simp only [World.setCell, Array.getElem?_modify, if_true, hg]
  rfl

section
variable {w : World} {L : RL} {d : Disk}

end
end Go.Proofs.Ytpoagpaglocpeaa
