/- The pages of a disk, one after the other. -/
import Derived.Test.YtcnhlemenpgkbaaGreatDoorPages8
import Derived.RangeFuncNested
import Derived.RangeFuncBound
import Derived.RangeFuncCalls
import Derived.RangeFuncLeaves
import Derived.WalkKit
import Derived.OwnWalkIn
import Derived.TacticsInMore
import Derived.LoopNIn
import Derived.LoopIn
namespace Go.Proofs.YtcnhlemenpgkbaaGreatDoor
set_option linter.unusedSimpArgs false
set_option linter.unusedVariables false
set_option linter.unnecessarySimpa false
open Go.RowKit M

abbrev P128 := { s : Bytes // s.length = 128 }
def enc2 (x : P128) : Array Value := #[str x.1, .int .i64 0]

theorem read_now {d : Disk} (hoff : d.off = false) {k : Nat} (hk : k < d.pg.length) : d.read (k : Int) = (d.now k, 0) := by
  have : d.is (k : Int) = true := by simp [Disk.is, Disk.len, hk]
  simp [Disk.read, hoff, this]

theorem lt_of_heap' {w : World} {k : Nat} {o : Obj} (h : w.heap[k]? = some o) : k < w.heap.size := (Array.getElem?_eq_some_iff.1 h).1
theorem Fr.grown0 {A B : World} (h : Fr [] A B) : A.grownBy B none := ⟨h.os, h.tape, h.output, h.size, fun k hk _ => h.block k hk (by simp)⟩
theorem Fr.ofBelow {n : Nat} {A B : World} (h : Below n A B) : Fr ((List.range A.heap.size).filter fun k => decide (n ≤ k)) A B := by
  refine ⟨h.os, h.tape, h.output, h.size, fun k hk hn => h.block k ?_⟩
  by_cases hl : k < n
  · exact hl
  · exact absurd (by simp; omega) hn
theorem DiskAt.below {n : Nat} {A B : World} {L : DL} {d : Disk} (D : DiskAt A L d) (h : Below n A B) (hL : ∀ k ∈ L.all, k < n) : DiskAt B L d :=
  D.fr (Fr.ofBelow h) (fun k hk hm => by have := hL k hk; simp at hm; omega)

/-- What a round keeps: what lay below m, and one block more. -/
def Kq (m Bn : Nat) (A B : World) : Prop := Below m A B ∧ B.heap[Bn]? = A.heap[Bn]?
theorem Kq.refl (m Bn : Nat) (A : World) : Kq m Bn A A := ⟨Below.refl _ _, rfl⟩
theorem Kq.trans {m Bn : Nat} {A B C : World} (h : Kq m Bn A B) (k : Kq m Bn B C) : Kq m Bn A C := ⟨h.1.trans k.1, k.2.trans h.2⟩
theorem Kq.fr {m Bn : Nat} {A B : World} {S : List Nat} (h : Fr S A B) (hm : m ≤ A.heap.size) (hb : Bn < A.heap.size) (hS : ∀ k ∈ S, m ≤ k ∧ k ≠ Bn) : Kq m Bn A B :=
  ⟨h.toBelow hm (fun k hk => (hS k hk).1), h.block Bn hb (fun e => (hS _ e).2 rfl)⟩
theorem Kq.putObj {m Bn B : Nat} (hm : m ≤ B) (hb : Bn < B) (W : World) (l : Nat) (o o' : Obj) (hl : B ≤ l) (h : W.heap[l]? = some o) : Kq m Bn W (W.putObj l o') :=
  Kq.fr ((Fr.refl [l] W).putObj (.inl (by simp)) o') (by have := lt_of_heap' h; omega) (by have := lt_of_heap' h; omega) (fun k hk => by
    have e : k = l := by simpa using hk
    subst e
    exact ⟨by omega, by omega⟩)

section
variable {w : World} {L : DL} {d : Disk}

theorem pAll_calls (L : DL) (w : World) : Calls Tryz.prog 31 #[Dp L] w fun e w' => e = .returned (.func (.func 55) #[] #[.pointer (some ⟨w.heap.size, 0, none⟩)]) ∧ w' = w.alloc (.cells #[Dp L] 26) := by
  go_enter Tryz.func31, Tryz.ntmps31
  go_wp2
  go_ret
  exact ⟨rfl, rfl⟩

set_option maxRecDepth 100000 in
set_option maxHeartbeats 1000000 in
theorem pAll1_in (n : Nat) (hn : 1 ≤ n) (l Bn n₀ : Nat) (hoff : d.off = false) (xs : List P128) (hxs : xs.map (·.1) = (List.range d.pg.length).map d.now) (J Jx : List P128 → World → Prop) (W : World) (hJ : AbidesFrom W.heap.size J)
    (hY : ∀ pre x W1, J pre W1 → pre.length < xs.length → YieldAt Fence.wide (n - 1) Tryz.prog l (enc2 x) W1 fun e W' =>
      (e = .returned (.bool true) ∧ J (pre ++ [x]) W' ∧ Kq n₀ Bn W1 W') ∨ (e = .returned (.bool false) ∧ Jx (pre ++ [x]) W'))
    (hBn : W.cell? ⟨Bn, 0, none⟩ = some (Dp L)) (D : DiskAt W L d) (hL : ∀ k ∈ L.all, k < n₀) (hn0 : n₀ ≤ W.heap.size) (h0 : J [] W) :
    CallsIn Fence.wide n Tryz.prog 55 #[.func (.yield l) #[] #[], .pointer (some ⟨Bn, 0, none⟩)] W fun e W' => (∃ v, e = .returned v) ∧
      ((∃ ys, ys = xs ∧ J ys W') ∨ (∃ pre, pre <+: xs ∧ Jx pre W')) := by
  have few := D.ok.few
  have hlen : xs.length = d.pg.length := by have := congrArg List.length hxs; simpa using this
  have hdl : d.len = (xs.length : Int) := by simp [Disk.len, hlen]
  have hx4 : (xs.length : Int) ≤ 4096 := by omega
  refine callsIn_of_wp Tryz.func55 rfl trivial ?_ rfl
  simp only [Tryz.ntmps55, List.size_toArray, List.length_cons, List.length_nil, Nat.reduceAdd, Nat.reduceSub, Array.replicate_succ, Array.replicate_zero, List.push_toArray, List.append_toArray, List.nil_append, List.cons_append]
  gi_wp2_with (refine ⟨trivial, ?_⟩; gi_at_call 30; refine (callsIn_wide.2 (dLen_calls D)).mono ?_; rintro e w' ⟨rfl, rfl⟩)
  gi_loopg [6] xs.length (fun kq i w' => ∃ k : Nat, i = .int .i64 k ∧ k ≤ xs.length ∧ Hid (kq + k = xs.length) ∧ J (xs.take k) w' ∧ Kq n₀ Bn W w')
  case atStart => exact ⟨0, rfl, by omega, by simp [Hid], h0, Kq.refl _ _ _⟩
  case round =>
    obtain ⟨k, rfl, hk, hkq, hJs, hBl⟩ := hrel
    by_cases hlt : k < xs.length
    · have hlt' : (k : Int) < (xs.length : Int) := by omega
      have hbn : wr.cell? ⟨Bn, 0, none⟩ = some (Dp L) := by rw [World.cell?_of_block hBl.2]; exact hBn
      have hbl := World.block_lt_of_cell? _ _ hbn
      have Dr := D.below hBl.1 hL
      have hrd := dRead_calls Dr k
      rw [read_now hoff (by omega)] at hrd
      obtain ⟨x, hx⟩ : ∃ x, xs[k]? = some x := ⟨xs[k], List.getElem?_eq_getElem hlt⟩
      have hxn : d.now k = x.1 := by
        have h1 := congrArg (fun l => l[k]?) hxs
        simp only [List.getElem?_map, hx, Option.map_some] at h1
        rw [List.getElem?_range (by omega)] at h1
        simpa using h1.symm
      rw [hxn] at hrd
      have hts := take_snoc hx
      have HT := Lib.hid hts
      have HXS := Lib.hid hx
      clear hx hxn hts
      have hlk : (xs.take k).length < xs.length := by rw [List.length_take]; omega
      have hszr := hBl.1.size
      have HJ : ∀ w2, Fr [] wr w2 → J (xs.take k) w2 := fun w2 f2 => hJ _ _ _ none hJs f2.grown0 (fun r e => by cases e)
      gi_wp2_with (refine ⟨trivial, ?_⟩; gi_at_call 56; refine (callsIn_wide.2 hrd).mono ?_; rintro e w2 ⟨rfl, f2⟩; obtain ⟨fn, tmps, assign, body, hy, hR⟩ := hY (xs.take k) x w2 (HJ w2 f2) hlk; dsimp only [enc2] at hy)
      refine hR.mono ?_
      rintro e W3 (⟨rfl, hJ3, hk3⟩ | ⟨rfl, hJx3⟩)
      · gi_wp2
        gi_roundg (gk - 1)
        case measure => have := hkq.out; omega
        case rel =>
          refine ⟨k + 1, by go_num, by omega, by have := hkq.out; unfold Hid; omega, ?_, ?_⟩
          · rw [HT.out]; exact hJ3
          · exact (hBl.trans (Kq.fr f2 (by omega) hbl (by simp))).trans hk3
      · gi_wp2
        refine bodyPost_ret (results_none rfl _ _ _) rfl ?_
        refine ⟨⟨_, rfl⟩, .inr ⟨xs.take k ++ [x], ?_, hJx3⟩⟩
        rw [← HT.out]
        exact List.take_prefix _ _
    · obtain rfl : k = xs.length := by omega
      rw [List.take_length] at hJs
      have hlt' : decide ((xs.length : Int) < (xs.length : Int)) = false := by simp
      gi_wp2
      go_end0
      exact ⟨⟨_, rfl⟩, .inl ⟨xs, rfl, hJs⟩⟩

theorem pAll_stops (n : Nat) (hn : 1 ≤ n) (Bn n₀ : Nat) (hoff : d.off = false) (xs : List P128) (hxs : xs.map (·.1) = (List.range d.pg.length).map d.now) (hBn : Bn < w.heap.size) (hn₀ : n₀ ≤ w.heap.size)
    (hc : w.cell? ⟨Bn, 0, none⟩ = some (Dp L)) (D : DiskAt w L d) (hL : ∀ k ∈ L.all, k < n₀) :
    SeqStopsK Fence.wide n Tryz.prog 55 #[.pointer (some ⟨Bn, 0, none⟩)] enc2 (Kq n₀ Bn) (fun ys => ys = xs) (fun pre => pre <+: xs) xs.length w := fun l J Jx W hW hJ _ hY h0 =>
  pAll1_in n hn l Bn n₀ hoff xs hxs J Jx W hJ hY ((hW.cell (p := ⟨Bn, 0, none⟩) hBn).trans hc) (D.below (hW.mono hn₀) hL) hL (Nat.le_trans hn₀ hW.size) h0
end
end Go.Proofs.YtcnhlemenpgkbaaGreatDoor
