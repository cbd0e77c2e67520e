/- How the disk of the model lies in memory; what a call leaves alone. -/
import Derived.WalkKit
import Derived.WalkLawsBesides
import Derived.KernelRfl
import Derived.Deep.Draws
import Derived.RangeFuncRecord
import Derived.Lib.Hide
import Derived.Test.YtcnhlemenpgkbaaGreatDoorModel
namespace Go.Proofs.YtcnhlemenpgkbaaGreatDoor
set_option linter.unusedSimpArgs false
set_option linter.unusedVariables false
set_option linter.unnecessarySimpa false
open Go.RowKit

/-- All blocks that lay there are as they were, but for those named. -/
structure Fr (S : List Nat) (w w' : World) : Prop where
  os : w'.os = w.os
  tape : w'.tape = w.tape
  output : w'.output = w.output
  size : w.heap.size ≤ w'.heap.size
  block : ∀ k, k < w.heap.size → k ∉ S → w'.heap[k]? = w.heap[k]?

theorem Fr.refl (S : List Nat) (w : World) : Fr S w w := ⟨rfl, rfl, rfl, Nat.le_refl _, fun _ _ _ => rfl⟩
theorem Fr.trans {S : List Nat} {a b c : World} (h : Fr S a b) (k : Fr S b c) : Fr S a c :=
  ⟨k.os.trans h.os, k.tape.trans h.tape, k.output.trans h.output, Nat.le_trans h.size k.size, fun i hi hn => (k.block i (Nat.lt_of_lt_of_le hi h.size) hn).trans (h.block i hi hn)⟩
theorem Fr.mono {S S' : List Nat} {w w' : World} (h : Fr S w w') (hs : ∀ k ∈ S, k ∈ S') : Fr S' w w' :=
  ⟨h.os, h.tape, h.output, h.size, fun k hk hn => h.block k hk (fun e => hn (hs k e))⟩
theorem Fr.any {S : List Nat} {w w' : World} (h : Fr [] w w') : Fr S w w' := h.mono (by simp)
/-- A call inside: what it may have turned is named, or was not there at the begin. -/
theorem Fr.then {S S' : List Nat} {a b c : World} (h : Fr S a b) (k : Fr S' b c) (hs : ∀ i ∈ S', i ∈ S ∨ a.heap.size ≤ i) : Fr S a c :=
  ⟨k.os.trans h.os, k.tape.trans h.tape, k.output.trans h.output, Nat.le_trans h.size k.size, fun i hi hn =>
    (k.block i (Nat.lt_of_lt_of_le hi h.size) (fun e => by rcases hs i e with x | x; exact hn x; omega)).trans (h.block i hi hn)⟩
theorem Fr.alloc {S : List Nat} {a w : World} (h : Fr S a w) (o : Obj) : Fr S a (w.alloc o) :=
  h.trans ⟨rfl, rfl, rfl, by simp, fun k hk _ => Below.heap_alloc _ _ _ hk⟩
theorem Fr.setCell {S : List Nat} {a w : World} (h : Fr S a w) {p : Addr} (hp : p.block ∈ S ∨ a.heap.size ≤ p.block) (v : Value) : Fr S a (w.setCell p v) :=
  h.then (S' := [p.block]) ⟨rfl, rfl, rfl, by simp, fun k _ hn => Below.heap_setCell _ _ _ _ (by simpa using hn)⟩ (by simpa using hp)
theorem Fr.drew {S : List Nat} {a w : World} (h : Fr S a w) : Fr S a w.drew := ⟨h.os, h.tape, h.output, h.size, h.block⟩
theorem Fr.drewN {S : List Nat} {a w : World} (h : Fr S a w) (n : Nat) : Fr S a (w.drewN n) := ⟨h.os, h.tape, h.output, h.size, h.block⟩
theorem Fr.below {w w' : World} (h : Below w.heap.size w w') : Fr [] w w' := ⟨h.os, h.tape, h.output, h.size, fun k hk _ => h.block k hk⟩
theorem Fr.toBelow {S : List Nat} {w w' : World} (h : Fr S w w') {B : Nat} (hB : B ≤ w.heap.size) (hs : ∀ k ∈ S, B ≤ k) : Below B w w' :=
  ⟨h.os, h.tape, h.output, h.size, fun k hk => h.block k (by omega) (fun e => by have := hs k e; omega)⟩
theorem Fr.grown {S : List Nat} {a w w' : World} {row : Option Nat} (h : Fr S a w) (hg : w.grownBy w' row) (hr : ∀ k, row = some k → k ∈ S ∨ a.heap.size ≤ k) : Fr S a w' := by
  refine h.then (S' := row.toList) ⟨hg.os, hg.tape, hg.output, hg.size, fun k hk hn => hg.block k hk (fun e => hn (by simp [← e]))⟩ ?_
  intro i hi
  exact hr i (by simpa [Option.mem_toList, eq_comm] using hi)
theorem heap_setRow_other (w : World) (g k : Nat) (cs : Array Value) (h : k ≠ g) : (w.setRow g cs).heap[k]? = w.heap[k]? := by
  simp only [World.setRow, Array.getElem?_modify]
  rw [if_neg (by omega)]
theorem Fr.setRow {S : List Nat} {a w : World} (h : Fr S a w) {g : Nat} (hp : g ∈ S ∨ a.heap.size ≤ g) (cs : Array Value) : Fr S a (w.setRow g cs) :=
  h.then (S' := [g]) ⟨rfl, rfl, rfl, by simp, fun k _ hn => heap_setRow_other _ _ _ _ (by simpa using hn)⟩ (by simpa using hp)
theorem Fr.putObj {S : List Nat} {a w : World} (h : Fr S a w) {g : Nat} (hp : g ∈ S ∨ a.heap.size ≤ g) (o : Obj) : Fr S a (w.putObj g o) :=
  h.then (S' := [g]) ⟨rfl, rfl, rfl, by simp, fun k _ hn => World.putObj_heap_other (by simpa using hn)⟩ (by simpa using hp)
theorem Fr.heap {S : List Nat} {w w' : World} (h : Fr S w w') {k : Nat} {o : Obj} (ho : w.heap[k]? = some o) (hn : k ∉ S) : w'.heap[k]? = some o :=
  (h.block k (Array.getElem?_eq_some_iff.1 ho).1 hn).trans ho

theorem lt_of_heap {w : World} {k : Nat} {o : Obj} (h : w.heap[k]? = some o) : k < w.heap.size := (Array.getElem?_eq_some_iff.1 h).1

/-- A block of cells read at one place. -/
theorem blk_cell {w : World} {b : Nat} {cs : Array Value} {t : TypeId} {fz : Nat × Nat} (h : w.heap[b]? = some (.cells cs t fz)) (j : Nat) {v : Value} (hv : cs[j]? = some v) :
    w.cell? ⟨b, j, none⟩ = some v := (cell_of_row w b j cs t fz h).trans hv
theorem blk_free {w : World} {b : Nat} {cs : Array Value} {t : TypeId} (h : w.heap[b]? = some (.cells cs t (0, 0))) (j : Nat) : w.frozen? ⟨b, j, none⟩ = false :=
  frozen_of_row w b j cs t h

open M

def cellsOf (s : Bytes) : List Value := s.map fun x => .int .u8 x.toNat
theorem cellsOf_length (s : Bytes) : (cellsOf s).length = s.length := by simp [cellsOf]
abbrev str (s : Bytes) : Value := .string ⟨s.toArray⟩

/-- The entries of the map of what is pending. -/
structure Ent where
  i : Nat
  b : Bytes
  born : Nat
def ent (x : Ent) : MapEntry := { key := .int .i64 x.i, val := .agg (cellsOf x.b).toArray, born := x.born }

structure Pends (l : List Ent) (clock : Nat) (pg : List Pg) : Prop where
  keys : (l.map Ent.i).Nodup
  borns : (l.map Ent.born).Nodup
  young : ∀ x ∈ l, x.born < clock
  fits : ∀ i b, (∃ x ∈ l, x.i = i ∧ x.b = b) ↔ (pg[i]?).bind Pg.new = some b

/-- Where a disk lies: its struct, its pages, its map. -/
structure DL where
  b : Nat
  pb : Nat
  mb : Nat

def rows (pg : List Pg) : List Value := pg.flatMap fun p => cellsOf p.old

structure DiskOk (d : Disk) : Prop where
  few : d.pg.length ≤ 4096
  olds : ∀ p ∈ d.pg, p.old.length = 128
  news : ∀ p ∈ d.pg, ∀ b, p.new = some b → b.length = 128
  low : -1 ≤ d.trip
  high : d.trip ≤ 9223372036854775807

structure DiskAt (w : World) (L : DL) (d : Disk) : Prop where
  ok : DiskOk d
  hb : w.heap[L.b]? = some (.cells #[.slice (some ⟨L.pb, 0, none⟩) d.pg.length d.pg.length, .map (some L.mb), .bool d.off, .int .i64 d.trip] 55 (0, 0))
  hp : w.heap[L.pb]? = some (.cells (rows d.pg).toArray 59 (0, 0))
  hm : ∃ l clock, w.heap[L.mb]? = some (.map (l.map ent).toArray clock) ∧ Pends l clock d.pg
  ne1 : L.b ≠ L.pb
  ne2 : L.b ≠ L.mb
  ne3 : L.pb ≠ L.mb

def DL.all (L : DL) : List Nat := [L.b, L.pb, L.mb]

theorem DiskAt.fr {w w' : World} {L : DL} {d : Disk} {S : List Nat} (h : DiskAt w L d) (hf : Fr S w w') (hn : ∀ k ∈ L.all, k ∉ S) : DiskAt w' L d := by
  have h1 := hn L.b (by simp [DL.all])
  have h2 := hn L.pb (by simp [DL.all])
  have h3 := hn L.mb (by simp [DL.all])
  obtain ⟨l, c, hm, hP⟩ := h.hm
  exact ⟨h.ok, hf.heap h.hb h1, hf.heap h.hp h2, ⟨l, c, hf.heap hm h3, hP⟩, h.ne1, h.ne2, h.ne3⟩

theorem DiskAt.fr0 {w w' : World} {L : DL} {d : Disk} (h : DiskAt w L d) (hf : Fr [] w w') : DiskAt w' L d := h.fr hf (by simp)
theorem DiskAt.lt {w : World} {L : DL} {d : Disk} (h : DiskAt w L d) : ∀ k ∈ L.all, k < w.heap.size := by
  obtain ⟨l, c, hm, hP⟩ := h.hm
  intro k hk
  simp [DL.all] at hk
  rcases hk with rfl | rfl | rfl
  · exact lt_of_heap h.hb
  · exact lt_of_heap h.hp
  · exact lt_of_heap hm

/-- The header of a disk turned at its flag or its trip. -/
theorem heap_setCell_same' (w : World) (g i : Nat) (cs : Array Value) (t : TypeId) (v : Value) (hg : w.heap[g]? = some (.cells cs t (0, 0))) :
    (w.setCell ⟨g, i, none⟩ v).heap[g]? = some (.cells (cs.setIfInBounds i v) t (0, 0)) := heap_setCell_same w g i cs t v hg

theorem DiskAt.setOff {w : World} {L : DL} {d : Disk} (h : DiskAt w L d) (o : Bool) : DiskAt (w.setCell ⟨L.b, 2, none⟩ (.bool o)) L { d with off := o } := by
  obtain ⟨l, c, hm, hP⟩ := h.hm
  refine ⟨⟨h.ok.few, h.ok.olds, h.ok.news, h.ok.low, h.ok.high⟩, ?_, ?_, ⟨l, c, ?_, hP⟩, h.ne1, h.ne2, h.ne3⟩
  · exact heap_setCell_same' _ _ _ _ _ _ h.hb
  · rw [heap_setCell_other _ _ _ _ (Ne.symm h.ne1)]; exact h.hp
  · rw [heap_setCell_other _ _ _ _ (Ne.symm h.ne2)]; exact hm

theorem DiskAt.setTripTo {w : World} {L : DL} {d : Disk} (h : DiskAt w L d) (n : Int) (h1 : -1 ≤ n) (h2 : n ≤ 9223372036854775807) : DiskAt (w.setCell ⟨L.b, 3, none⟩ (.int .i64 n)) L { d with trip := n } := by
  obtain ⟨l, c, hm, hP⟩ := h.hm
  refine ⟨⟨h.ok.few, h.ok.olds, h.ok.news, h1, h2⟩, ?_, ?_, ⟨l, c, ?_, hP⟩, h.ne1, h.ne2, h.ne3⟩
  · exact heap_setCell_same' _ _ _ _ _ _ h.hb
  · rw [heap_setCell_other _ _ _ _ (Ne.symm h.ne1)]; exact h.hp
  · rw [heap_setCell_other _ _ _ _ (Ne.symm h.ne2)]; exact hm

end Go.Proofs.YtcnhlemenpgkbaaGreatDoor
