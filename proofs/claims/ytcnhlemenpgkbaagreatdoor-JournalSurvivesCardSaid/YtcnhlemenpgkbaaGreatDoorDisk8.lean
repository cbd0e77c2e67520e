/- The disk: a bit that rots. -/
import Derived.Test.YtcnhlemenpgkbaaGreatDoorDisk7
namespace Go.Proofs.YtcnhlemenpgkbaaGreatDoor
set_option linter.unusedSimpArgs false
set_option linter.unusedVariables false
set_option linter.unnecessarySimpa false
open Go.RowKit M

theorem flip_val (x : UInt8) (r : Nat) (hr : r < 8) : bits .xor .u8 (x.toNat : Int) (IntKind.u8.wrap (2 ^ r)) = ((x ^^^ UInt8.ofNat (2 ^ r)).toNat : Int) := by
  have hp : (2 : Int) ^ r < 256 ∧ 0 ≤ (2 : Int) ^ r := by
    have : r = 0 ∨ r = 1 ∨ r = 2 ∨ r = 3 ∨ r = 4 ∨ r = 5 ∨ r = 6 ∨ r = 7 := by omega
    rcases this with rfl | rfl | rfl | rfl | rfl | rfl | rfl | rfl <;> decide
  have hn : (2 : Nat) ^ r < 256 := by
    have : ((2 ^ r : Nat) : Int) < 256 := by push_cast; exact hp.1
    omega
  have hx : x.toNat < 256 := x.toNat_lt
  rw [IntWalk.u8_in _ (by omega), u8_xor _ _ (by omega) (by omega) hp.2 hp.1, UInt8.toNat_xor, UInt8.toNat_ofNat']
  have e : ((2 : Int) ^ r).toNat = 2 ^ r := by
    have : ((2 ^ r : Nat) : Int) = (2 : Int) ^ r := by push_cast; rfl
    omega
  rw [e, Int.toNat_natCast, Nat.mod_eq_of_lt (by simpa using hn)]

theorem cellsOf_set (s : Bytes) (q : Nat) (y : UInt8) : cellsOf (s.set q y) = (cellsOf s).set q (.int .u8 y.toNat) := by simp [cellsOf, List.map_set]

theorem rows_flip (pg : List Pg) (m q : Nat) (p : Pg) (y : UInt8) (ho : ∀ x ∈ pg, x.old.length = 128) (hp : pg[m]? = some p) (hq : q < 128) :
    rows (pg.set m { p with old := p.old.set q y }) = (rows pg).set (m * 128 + q) (.int .u8 y.toNat) := by
  obtain ⟨hm, hpm⟩ := List.getElem?_eq_some_iff.1 hp
  have hol := ho p (List.mem_of_getElem? hp)
  obtain ⟨X, Z, hR, hX⟩ := rows_split pg m p ho hp
  have hc : (cellsOf p.old).length = 128 := by rw [cellsOf_length, hol]
  rw [rows_set pg m _ ho (by simpa using hol) hm, hR, ← hX]
  have e1 : (X ++ cellsOf p.old ++ Z).take X.length = X := by rw [List.append_assoc, List.take_left']; rfl
  have e2 : (X ++ cellsOf p.old ++ Z).drop (X.length + 128) = Z := by
    rw [show X.length + 128 = (X ++ cellsOf p.old).length from by simp [hc], List.drop_left']; rfl
  rw [e1, e2, cellsOf_set, List.set_append_left _ _ (by simp [hc]; omega), List.set_append_right _ _ (by omega), Nat.add_sub_cancel_left]

section
variable {w : World} {L : DL} {d : Disk}

end
end Go.Proofs.YtcnhlemenpgkbaaGreatDoor
