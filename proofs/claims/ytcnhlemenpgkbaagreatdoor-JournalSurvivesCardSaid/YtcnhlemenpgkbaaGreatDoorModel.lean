/- Plain model of the disk and the pages: lists of bytes, no program in sight. -/
import Derived.Below
namespace Go.Proofs.YtcnhlemenpgkbaaGreatDoor
set_option linter.unusedSimpArgs false
set_option linter.unusedVariables false
set_option linter.unnecessarySimpa false
namespace M

abbrev Bytes := List UInt8

/-- A number as 'k' bytes, the least significant first. -/
def le : Nat → Nat → Bytes
  | 0, _ => []
  | k + 1, n => UInt8.ofNat n :: le k (n / 256)

/-- The number of some bytes, the least significant first. -/
def num : Bytes → Nat
  | [] => 0
  | b :: s => b.toNat + 256 * num s

def crcBit (c : Nat) : Nat := if c % 2 = 1 then (c / 2) ^^^ 3988292384 else c / 2
def crcBits : Nat → Nat → Nat
  | 0, c => c
  | k + 1, c => crcBits k (crcBit c)
def crcByte (c : Nat) (b : UInt8) : Nat := crcBits 8 (c ^^^ b.toNat)
def crcFold (c : Nat) (s : Bytes) : Nat := s.foldl crcByte c
def crc (s : Bytes) : Nat := crcFold 4294967295 s ^^^ 4294967295

def zeros (n : Nat) : Bytes := List.replicate n 0

def sealed (n : Int) (data : Bytes) : Bytes :=
  if n < 1 ∨ 1073741824 < n ∨ data.length ≠ 116 then []
  else (le 4 n.toNat ++ data) ++ le 4 (crc (le 4 n.toNat ++ data)) ++ le 4 n.toNat

structure Un where
  n : Nat
  data : Bytes
  ok : Bool

def unsealed (page : Bytes) : Un :=
  if page.length ≠ 128 then ⟨0, [], false⟩
  else if page ≠ sealed (num (page.take 4)) ((page.drop 4).take 116) ∧ page ≠ zeros 128 then ⟨0, [], false⟩
  else ⟨num (page.take 4), (page.drop 4).take 116, true⟩

/-- The data of the first page of the log. -/
def record (l : List Nat) : Bytes :=
  let s := UInt8.ofNat l.length :: l.flatMap (le 2)
  s ++ zeros (116 - s.length)

/-- A page of a disk: its content, and its pending content. -/
structure Pg where
  old : Bytes
  new : Option Bytes

def Pg.now (p : Pg) : Bytes := p.new.getD p.old

structure Disk where
  pg : List Pg
  off : Bool
  trip : Int

def Disk.new (n : Nat) : Disk := ⟨List.replicate n ⟨zeros 128, none⟩, false, -1⟩
def Disk.len (d : Disk) : Int := d.pg.length
def Disk.is (d : Disk) (i : Int) : Bool := decide (0 ≤ i) && decide (i < d.len)
def Disk.now (d : Disk) (i : Nat) : Bytes := ((d.pg[i]?).getD ⟨[], none⟩).now

/-- A step: its error, and the disk behind it. -/
def Disk.step (d : Disk) : Int × Disk :=
  if d.trip = 0 then (20, { d with off := true })
  else if 0 < d.trip then (0, { d with trip := d.trip - 1 })
  else (0, d)

def Disk.read (d : Disk) (i : Int) : Bytes × Int :=
  if d.off then ([], 20) else if d.is i then (d.now i.toNat, 0) else ([], 1)

/-- A whole page is written. -/
def Disk.write (d : Disk) (i : Int) (s : Bytes) : Int × Disk :=
  if d.off then (20, d)
  else if !d.is i then (1, d)
  else if (d.step).1 ≠ 0 then d.step
  else (0, { d.step.2 with pg := d.pg.modify i.toNat fun p => { p with new := some s } })

def Pg.flush (p : Pg) : Pg := ⟨p.now, none⟩

def Disk.flush (d : Disk) : Int × Disk :=
  if d.off then (20, d)
  else if (d.step).1 ≠ 0 then d.step
  else (0, { d.step.2 with pg := d.pg.map Pg.flush })

def Disk.setTrip (d : Disk) (n : Int) : Disk := { d with trip := max n (-1) }

def clamp (p : Int) : Nat := (min (max p 0) 128).toNat
def Pg.tear (p : Pg) (k : Nat) : Pg := match p.new with
  | none => p
  | some b => ⟨b.take k ++ p.old.drop k, none⟩
def tearAll : List Pg → List Int → List Pg
  | [], _ => []
  | p :: r, picks => match p.new with
    | none => p :: tearAll r picks
    | some _ => p.tear (clamp ((picks.head?).getD 128)) :: tearAll r picks.tail
def Disk.mount (d : Disk) (picks : List Int) : Disk := ⟨tearAll d.pg picks, false, -1⟩

def flipBit (s : Bytes) (bit : Nat) : Bytes := s.modify (bit / 8) fun b => b ^^^ UInt8.ofNat (2 ^ (bit % 8))
def Disk.rot (d : Disk) (i bit : Int) : Int × Disk :=
  if !d.is i || decide (bit < 0) || decide (1024 ≤ bit) then (1, d)
  else (0, { d with pg := d.pg.modify i.toNat fun p => { p with old := flipBit p.old bit.toNat } })

def Disk.image (d : Disk) : List Bytes := d.pg.map Pg.old
def pendingFrom : Nat → List Pg → List Int
  | _, [] => []
  | k, p :: r => if p.new.isSome then (k : Int) :: pendingFrom (k + 1) r else pendingFrom (k + 1) r
def Disk.pending (d : Disk) : List Int := pendingFrom 0 d.pg

end M
end Go.Proofs.YtcnhlemenpgkbaaGreatDoor
