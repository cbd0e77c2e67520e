/- The journal's small functions. -/
import Derived.Test.YtcnhlemenpgkbaaGreatDoorPages10
import Derived.Test.YtcnhlemenpgkbaaGreatDoorJour
import Derived.Test.YtcnhlemenpgkbaaGreatDoorShelf
namespace Go.Proofs.YtcnhlemenpgkbaaGreatDoor
set_option linter.unusedSimpArgs false
set_option linter.unusedVariables false
set_option linter.unnecessarySimpa false
open Go.RowKit M

theorem jBytes_calls (n k : Nat) (hk : k ≤ 8) (w : World) : Calls Tryz.prog 45 #[.int .i64 n, .int .i64 k] w fun e w' => e = .returned (str (le k n)) ∧ Fr [] w w' := by
  go_enter Tryz.func45, Tryz.ntmps45
  go_wp2_with (first | (with_reducible refine wpL_stop (o := ⟨_, .alloc 59, _, _, _, none⟩) ?_) | (with_reducible refine wpL_stop (o := ⟨_, .load 59 _, _, _, _, none⟩) ?_) | (with_reducible refine wpL_stop (o := ⟨_, .store 59 _ _, _, _, _, none⟩) ?_) | (with_reducible refine wpL_stop (o := ⟨_, .lookup _ _ _ _, _, _, _, none⟩) ?_) | (with_reducible refine wpL_stop (o := ⟨_, .box 59 _, _, _, _, none⟩) ?_) | (with_reducible refine wpL_stop (o := ⟨_, .next _ _, _, _, _, none⟩) ?_) | (with_reducible refine wpL_stop (o := ⟨_, .range _ _, _, _, _, none⟩) ?_) | (with_reducible refine wpL_stop (o := ⟨_, .mapUpdate _ _ _ _, _, _, _, none⟩) ?_) | (with_reducible refine wpL_stop (o := ⟨_, .convert 23 9 _, _, _, _, none⟩) ?_) | (with_reducible refine wpL_stop (o := ⟨_, .convert 9 23 _, _, _, _, none⟩) ?_) | (with_reducible refine wpL_stop (o := ⟨_, .call { callee := .builtin .copy, args := _, argTypes := _ }, _, _, _, none⟩) ?_) | (with_reducible refine wpL_stop (o := ⟨_, .call { callee := .builtin .append, args := _, argTypes := _ }, _, _, _, none⟩) ?_) | (with_reducible refine wpL_stop (o := ⟨_, .call { callee := .builtin .clear, args := _, argTypes := _ }, _, _, _, none⟩) ?_) | (with_reducible refine wpL_stop (o := ⟨_, .makeSlice _ _ _, _, _, _, none⟩) ?_) | (with_reducible refine wpL_stop (o := ⟨_, .makeMap _ _, _, _, _, none⟩) ?_) | (with_reducible refine wpL_stop (o := ⟨_, .entry _, _, _, _, none⟩) ?_) | (with_reducible refine wpL_stop (o := ⟨_, .call { callee := .builtin .max, args := _, argTypes := _ }, _, _, _, none⟩) ?_) | (with_reducible refine wpL_stop (o := ⟨_, .call { callee := .builtin .min, args := _, argTypes := _ }, _, _, _, none⟩) ?_) | (with_reducible refine wpL_stop (o := ⟨_, .slice 59 _ none (some _) none, _, _, _, none⟩) ?_) | (with_reducible refine wpL_stop (o := ⟨_, .binOp .add 9 _ _ _, _, _, _, none⟩) ?_) | (with_reducible refine wpL_stop (o := ⟨_, .slice 9 _ _ _ _, _, _, _, none⟩) ?_))
  refine unhold (wpL_makeBytes rfl _ _ rfl k (by omega) rfl rfl ?_)
  intro w1 g1 f1 s1
  go_wp2_with (first | (with_reducible refine wpL_stop (o := ⟨_, .alloc 59, _, _, _, none⟩) ?_) | (with_reducible refine wpL_stop (o := ⟨_, .load 59 _, _, _, _, none⟩) ?_) | (with_reducible refine wpL_stop (o := ⟨_, .store 59 _ _, _, _, _, none⟩) ?_) | (with_reducible refine wpL_stop (o := ⟨_, .lookup _ _ _ _, _, _, _, none⟩) ?_) | (with_reducible refine wpL_stop (o := ⟨_, .box 59 _, _, _, _, none⟩) ?_) | (with_reducible refine wpL_stop (o := ⟨_, .next _ _, _, _, _, none⟩) ?_) | (with_reducible refine wpL_stop (o := ⟨_, .range _ _, _, _, _, none⟩) ?_) | (with_reducible refine wpL_stop (o := ⟨_, .mapUpdate _ _ _ _, _, _, _, none⟩) ?_) | (with_reducible refine wpL_stop (o := ⟨_, .convert 23 9 _, _, _, _, none⟩) ?_) | (with_reducible refine wpL_stop (o := ⟨_, .convert 9 23 _, _, _, _, none⟩) ?_) | (with_reducible refine wpL_stop (o := ⟨_, .call { callee := .builtin .copy, args := _, argTypes := _ }, _, _, _, none⟩) ?_) | (with_reducible refine wpL_stop (o := ⟨_, .call { callee := .builtin .append, args := _, argTypes := _ }, _, _, _, none⟩) ?_) | (with_reducible refine wpL_stop (o := ⟨_, .call { callee := .builtin .clear, args := _, argTypes := _ }, _, _, _, none⟩) ?_) | (with_reducible refine wpL_stop (o := ⟨_, .makeSlice _ _ _, _, _, _, none⟩) ?_) | (with_reducible refine wpL_stop (o := ⟨_, .makeMap _ _, _, _, _, none⟩) ?_) | (with_reducible refine wpL_stop (o := ⟨_, .entry _, _, _, _, none⟩) ?_) | (with_reducible refine wpL_stop (o := ⟨_, .call { callee := .builtin .max, args := _, argTypes := _ }, _, _, _, none⟩) ?_) | (with_reducible refine wpL_stop (o := ⟨_, .call { callee := .builtin .min, args := _, argTypes := _ }, _, _, _, none⟩) ?_) | (with_reducible refine wpL_stop (o := ⟨_, .slice 59 _ none (some _) none, _, _, _, none⟩) ?_) | (with_reducible refine wpL_stop (o := ⟨_, .binOp .add 9 _ _ _, _, _, _, none⟩) ?_) | (with_reducible refine wpL_stop (o := ⟨_, .slice 9 _ _ _ _, _, _, _, none⟩) ?_))
  go_loopw [11] (fun i wr => ∃ j : Nat, i = .int .i64 j ∧ j ≤ k ∧ Hid (wr.heap[w.heap.size]? = some (.cells (cellsOf (le j n ++ zeros (k - j))).toArray 5 (0, 0))) ∧ Fr [] w wr) (fun i _ => k - (intOf i).toNat)
  case atStart => exact ⟨0, rfl, by omega, by unfold Hid; simpa [le] using g1, f1⟩
  case round =>
    obtain ⟨j, rfl, hj, hg, fr⟩ := hrel
    by_cases hlt : j < k
    · have hlt' : (j : Int) < (k : Int) := by omega
      have hcell : ∃ v, wr.cell? ⟨w.heap.size, j, none⟩ = some v := by
        rw [cell_of_row wr _ j _ _ _ hg.out]
        have : j < (cellsOf (le j n ++ zeros (k - j))).length := by simp [cellsOf_length, le_length, zeros]; omega
        exact ⟨(cellsOf (le j n ++ zeros (k - j)))[j], by simp [this]⟩
      obtain ⟨v0, hcell⟩ := hcell
      have hfr := blk_free hg.out j
      have hbv := byte_val n j
      have HB := Lib.hid hbv
      have hset := le_set n k j hlt
      have HS := Lib.hid hset
      clear hbv hset
      go_wp2
      rw [HB.out]
      refine ⟨⟨j + 1, by go_num, by omega, ?_, fr.setCell (.inr (Nat.le_refl _)) _⟩, by simp [intOf]; omega⟩
      have := heap_setCell_same' wr w.heap.size j _ _ (.int .u8 (UInt8.ofNat (n / 256 ^ j)).toNat) hg.out
      unfold Hid
      rw [this, ← HS.out]
      simp
    · obtain rfl : j = k := by omega
      go_wp2_with (first | (with_reducible refine wpL_stop (o := ⟨_, .alloc 59, _, _, _, none⟩) ?_) | (with_reducible refine wpL_stop (o := ⟨_, .load 59 _, _, _, _, none⟩) ?_) | (with_reducible refine wpL_stop (o := ⟨_, .store 59 _ _, _, _, _, none⟩) ?_) | (with_reducible refine wpL_stop (o := ⟨_, .lookup _ _ _ _, _, _, _, none⟩) ?_) | (with_reducible refine wpL_stop (o := ⟨_, .box 59 _, _, _, _, none⟩) ?_) | (with_reducible refine wpL_stop (o := ⟨_, .next _ _, _, _, _, none⟩) ?_) | (with_reducible refine wpL_stop (o := ⟨_, .range _ _, _, _, _, none⟩) ?_) | (with_reducible refine wpL_stop (o := ⟨_, .mapUpdate _ _ _ _, _, _, _, none⟩) ?_) | (with_reducible refine wpL_stop (o := ⟨_, .convert 23 9 _, _, _, _, none⟩) ?_) | (with_reducible refine wpL_stop (o := ⟨_, .convert 9 23 _, _, _, _, none⟩) ?_) | (with_reducible refine wpL_stop (o := ⟨_, .call { callee := .builtin .copy, args := _, argTypes := _ }, _, _, _, none⟩) ?_) | (with_reducible refine wpL_stop (o := ⟨_, .call { callee := .builtin .append, args := _, argTypes := _ }, _, _, _, none⟩) ?_) | (with_reducible refine wpL_stop (o := ⟨_, .call { callee := .builtin .clear, args := _, argTypes := _ }, _, _, _, none⟩) ?_) | (with_reducible refine wpL_stop (o := ⟨_, .makeSlice _ _ _, _, _, _, none⟩) ?_) | (with_reducible refine wpL_stop (o := ⟨_, .makeMap _ _, _, _, _, none⟩) ?_) | (with_reducible refine wpL_stop (o := ⟨_, .entry _, _, _, _, none⟩) ?_) | (with_reducible refine wpL_stop (o := ⟨_, .call { callee := .builtin .max, args := _, argTypes := _ }, _, _, _, none⟩) ?_) | (with_reducible refine wpL_stop (o := ⟨_, .call { callee := .builtin .min, args := _, argTypes := _ }, _, _, _, none⟩) ?_) | (with_reducible refine wpL_stop (o := ⟨_, .slice 59 _ none (some _) none, _, _, _, none⟩) ?_) | (with_reducible refine wpL_stop (o := ⟨_, .binOp .add 9 _ _ _, _, _, _, none⟩) ?_) | (with_reducible refine wpL_stop (o := ⟨_, .slice 9 _ _ _ _, _, _, _, none⟩) ?_))
      refine unhold (wpL_text rfl _ _ _ rfl 5 Tryz.underlying23 Tryz.underlying5 Tryz.underlying9 w.heap.size 0 j j rfl _ _ _ (le j n) hg.out (le_length _ _) (by intro i hi; simp [zeros]) ?_)
      go_wp2
      go_ret
      exact ⟨rfl, fr⟩

theorem jnum_step (c b : Nat) (hc : c < 281474976710656) (hb : b < 256) : bits .or .i64 ((c : Int) * 256) (wrap64 (b : Int)) = ((b + 256 * c : Nat) : Int) := by
  have w1 : wrap64 (b : Int) = (b : Int) := by unfold wrap64; omega
  rw [w1, show (c : Int) * 256 = ((256 * c : Nat) : Int) by omega, i64_or _ _ (by omega) (by omega)]
  have := or_shift b c 1 (by omega)
  rw [Nat.pow_one] at this
  rw [Nat.or_comm, Nat.mul_comm 256 c, this]
theorem num_drop (s : Bytes) (k : Nat) (h : k < s.length) : num (s.drop k) = s[k].toNat + 256 * num (s.drop (k + 1)) := by
  rw [List.drop_eq_getElem_cons h]
  rfl
theorem jNum_calls (s : Bytes) (hs : s.length ≤ 6) (w : World) : Calls Tryz.prog 40 #[str s] w fun e w' => e = .returned (.int .i64 (num s)) ∧ w = w' := by
  go_enter Tryz.func40, Tryz.ntmps40
  go_wp2
  go_loopg [3, 4] s.length (fun kq c i w' => ∃ n : Nat, i = .int .i64 ((n : Int) - 1) ∧ n ≤ s.length ∧ Hid (kq = n) ∧ c = .int .i64 (num (s.drop n) : Nat) ∧ w = w')
  case atStart => exact ⟨s.length, by go_num, by omega, rfl, by simp [num], rfl⟩
  case round =>
    obtain ⟨n, rfl, hn, hk, rfl, rfl⟩ := hrel
    by_cases hlt : n = 0
    · subst hlt
      go_wp2
      go_ret
      exact ⟨by simp, rfl⟩
    · obtain ⟨m, rfl⟩ : ∃ m, n = m + 1 := ⟨n - 1, by omega⟩
      have e0 : ((m + 1 : Nat) : Int) - 1 = (m : Int) := by omega
      have hc := num_lt (s.drop (m + 1))
      have hd := num_drop s m (by omega)
      have hcc : num (s.drop (m + 1)) < 1099511627776 := by
        refine Nat.lt_of_lt_of_le hc ?_
        rw [List.length_drop]
        have h7 : (256 : Nat) ^ (s.length - (m + 1)) ≤ 256 ^ 5 := Nat.pow_le_pow_right (by omega) (by omega)
        have h7' : (256 : Nat) ^ 5 = 1099511627776 := rfl
        omega
      rw [e0]
      generalize num (s.drop (m + 1)) = c at hcc hd ⊢
      have HD := Lib.hid hd
      clear hd hc e0 hlt
      have h0 : (0 : Int) ≤ (m : Int) := by omega
      have hmlt : m < s.length := by omega
      go_wp2
      have hb : (s[m].toNat) < 256 := s[m].toNat_lt
      go_roundg (gk - 1)
      case measure => have := hk.out; omega
      case rel => exact ⟨m, rfl, by omega, by have := hk.out; unfold Hid; omega, by rw [str_at s m hmlt, jnum_step c _ (by omega) hb, HD.out], rfl⟩
/-- A journal; where it lies: its struct, the block of its records. -/
structure Jrn where
  half : Nat
  bank : Nat
  stream : Bytes
  recs : List Bytes
  closed : Bool
structure JL where
  b : Nat
  g : Option Nat
def JL.all (p : JL) : List Nat := p.b :: p.g.toList
abbrev Jp (jl : JL) : Value := .pointer (some ⟨jl.b, 0, none⟩)
def Jrn.vals (j : Jrn) (pl : PL) (rv : Value) : Array Value := #[Pp pl, .int .i64 j.half, .int .i64 j.bank, str j.stream, rv, .bool j.closed]
structure JrnAt (w : World) (jl : JL) (pl : PL) (j : Jrn) : Prop where
  few : j.recs.length ≤ 100000 ∧ j.half ≤ 4096 ∧ j.bank ≤ 1 ∧ j.stream.length ≤ 500000
  at_ : ∃ rv, w.heap[jl.b]? = some (.cells (j.vals pl rv) 66 (0, 0)) ∧ w.ownsRow 0 9 1 rv j.recs.length (strs j.recs) ∧ rv.ownBlock = jl.g
  ne : jl.g ≠ some jl.b

section
variable {w w' : World} {jl : JL} {pl : PL} {j : Jrn}

theorem JrnAt.fr {S : List Nat} (h : JrnAt w jl pl j) (hf : Fr S w w') (hS : ∀ k ∈ jl.all, k ∉ S) : JrnAt w' jl pl j := by
  obtain ⟨rv, h1, h2, h3⟩ := h.at_
  exact ⟨h.few, ⟨rv, hf.heap h1 (hS _ (by simp [JL.all])), ownsRow_fr' h2 hf (fun k hk => hS k (by simp [JL.all, ← h3, hk])), h3⟩, h.ne⟩
theorem JrnAt.fr0 (h : JrnAt w jl pl j) (hf : Fr [] w w') : JrnAt w' jl pl j := h.fr hf (by simp)
theorem JrnAt.lt (h : JrnAt w jl pl j) : ∀ k ∈ jl.all, k < w.heap.size := by
  obtain ⟨bv, h1, h2, h3⟩ := h.at_
  intro k hk
  simp only [JL.all, List.mem_cons, Option.mem_toList] at hk
  rcases hk with rfl | hk
  · exact lt_of_heap h1
  · exact (h2.lt k (h3.trans hk)).2
theorem JrnAt.c0 (h : JrnAt w jl pl j) : w.cell? ⟨jl.b, 0, none⟩ = some (Pp pl) := by obtain ⟨bv, h1, _⟩ := h.at_; exact blk_cell h1 0 rfl
theorem JrnAt.c1 (h : JrnAt w jl pl j) : w.cell? ⟨jl.b, 1, none⟩ = some (.int .i64 j.half) := by obtain ⟨bv, h1, _⟩ := h.at_; exact blk_cell h1 1 rfl
theorem JrnAt.c2 (h : JrnAt w jl pl j) : w.cell? ⟨jl.b, 2, none⟩ = some (.int .i64 j.bank) := by obtain ⟨bv, h1, _⟩ := h.at_; exact blk_cell h1 2 rfl
theorem JrnAt.c3 (h : JrnAt w jl pl j) : w.cell? ⟨jl.b, 3, none⟩ = some (str j.stream) := by obtain ⟨bv, h1, _⟩ := h.at_; exact blk_cell h1 3 rfl
theorem JrnAt.c4 (h : JrnAt w jl pl j) : ∃ rv, w.cell? ⟨jl.b, 4, none⟩ = some rv ∧ w.ownsRow 0 9 1 rv j.recs.length (strs j.recs) := by obtain ⟨rv, h1, h2, _⟩ := h.at_; exact ⟨rv, blk_cell h1 4 rfl, h2⟩
theorem JrnAt.c5 (h : JrnAt w jl pl j) : w.cell? ⟨jl.b, 5, none⟩ = some (.bool j.closed) := by obtain ⟨bv, h1, _⟩ := h.at_; exact blk_cell h1 5 rfl
theorem JrnAt.f (h : JrnAt w jl pl j) (i : Nat) : w.frozen? ⟨jl.b, i, none⟩ = false := by obtain ⟨bv, h1, _⟩ := h.at_; exact blk_free h1 i

theorem jSize_calls (h : JrnAt w jl pl j) : Calls Tryz.prog 25 #[Jp jl] w fun e w' => e = .returned (.int .i64 ((j.half * 116 : Nat) : Int)) ∧ w' = w := by
  have c1 := h.c1
  have := h.few
  go_enter Tryz.func25, Tryz.ntmps25
  go_wp2
  go_ret
  exact ⟨ret_int (by omega), rfl⟩
theorem jPage_calls (h : JrnAt w jl pl j) (b k : Nat) (hb : b ≤ 1) (hk : k ≤ 100000) : Calls Tryz.prog 42 #[Jp jl, .int .i64 b, .int .i64 k] w fun e w' => e = .returned (.int .i64 ((1 + b * j.half + k : Nat) : Int)) ∧ w' = w := by
  have c1 := h.c1
  have := h.few
  have hm : b * j.half ≤ j.half := by
    rcases Nat.le_one_iff_eq_zero_or_eq_one.1 hb with rfl | rfl <;> omega
  have hm1 : (b : Int) * (j.half : Int) = ((b * j.half : Nat) : Int) := (Int.natCast_mul _ _).symm
  have hw : IntKind.i64.wrap ((b : Int) * (j.half : Int)) = ((b * j.half : Nat) : Int) := by rw [hm1]; exact IntWalk.i64_in _ (by omega)
  have HM := Lib.hid hm1
  clear hm1
  go_enter Tryz.func42, Tryz.ntmps42
  go_wp2
  go_ret
  exact ⟨ret_int (by omega), rfl⟩
theorem jLen_calls (h : JrnAt w jl pl j) : Calls Tryz.prog 12 #[Jp jl] w fun e w' => e = .returned (.int .i64 j.recs.length) ∧ w' = w := by
  obtain ⟨rv, c4, ho⟩ := h.c4
  obtain ⟨up, uc, rfl⟩ := ownsRow_len ho
  go_enter Tryz.func12, Tryz.ntmps12
  go_wp2
  go_ret
  exact ⟨rfl, rfl⟩
theorem jUsed_calls (h : JrnAt w jl pl j) : Calls Tryz.prog 15 #[Jp jl] w fun e w' => e = .returned (.int .i64 j.stream.length) ∧ w' = w := by
  have c3 := h.c3
  go_enter Tryz.func15, Tryz.ntmps15
  go_wp2
  go_ret
  exact ⟨rfl, rfl⟩
theorem jRoom_calls (h : JrnAt w jl pl j) : Calls Tryz.prog 13 #[Jp jl] w fun e w' => e = .returned (.int .i64 (((j.half * 116 : Nat) : Int) - j.stream.length)) ∧ Fr [] w w' := by
  have c3 := h.c3
  have hfew := h.few
  have hQ : ∀ m, Calls Tryz.prog 25 #[Jp jl] (w.drewN m) fun e w' => e = .returned (.int .i64 ((j.half * 116 : Nat) : Int)) ∧ w' = w.drewN m := fun m => jSize_calls (h.fr0 ((Fr.refl [] w).drewN m))
  go_enter Tryz.func13, Tryz.ntmps13
  go_wp2_with fail
  go_quiet (first | (go_at_call 25; exact Calls.quiet_of_same (hQ _)))
  go_wp2_with fail
  go_ret
  exact ⟨ret_int rfl, (Fr.refl [] w).drewN _⟩
theorem jRecord_calls (h : JrnAt w jl pl j) (k : Nat) (hk : k ≤ 100000) : Calls Tryz.prog 17 #[Jp jl, .int .i64 k] w fun e w' => e = .returned (.tuple #[str ((j.recs[k]?).getD []), .bool (decide (k < j.recs.length))]) ∧ w' = w := by
  obtain ⟨rv, c4, ho⟩ := h.c4
  obtain ⟨up, uc, rfl⟩ := ownsRow_len ho
  have k0 : decide ((k : Int) < 0) = false := by simp
  by_cases hlt : k < j.recs.length
  · have hx : j.recs[k]? = some j.recs[k] := List.getElem?_eq_getElem hlt
    obtain ⟨g1, rfl, _, hc1⟩ := own_cell_fr ho (Fr.refl [] w) (by simp) (j := k) (v := str j.recs[k]) (by simp [strs, hx])
    rw [hx, decide_eq_true hlt]
    have k1 : decide ((j.recs.length : Int) ≤ (k : Int)) = false := by simp; omega
    have hlt' : (k : Int) < (j.recs.length : Int) := by omega
    have h0' : (0 : Int) ≤ (k : Int) := by omega
    generalize j.recs[k] = x at hc1 hx ⊢
    clear hx
    go_enter Tryz.func17, Tryz.ntmps17
    go_wp2
    go_ret2
    exact ⟨rfl, rfl⟩
  · have hx : j.recs[k]? = none := List.getElem?_eq_none (by omega)
    rw [hx, decide_eq_false hlt]
    have k1 : decide ((j.recs.length : Int) ≤ (k : Int)) = true := by simp; omega
    clear hx
    go_enter Tryz.func17, Tryz.ntmps17
    go_wp2
    go_ret2
    exact ⟨rfl, rfl⟩
theorem clone_calls {B : Nat} {v : Value} {l : List Bytes} (h : w.ownsRow B 9 1 v l.length (strs l)) (hl : l.length ≤ 100000) : Calls Tryz.prog 24 #[v] w fun e w' => ∃ v', e = .returned v' ∧ w'.ownsRow w.heap.size 9 1 v' l.length (strs l) ∧ Fr [] w w' := by
  rcases h.2 with ⟨rfl, h0⟩ | ⟨g, cap, cur, rfl, _, hg, hcap, hmx, hsz, htk⟩
  · refine (Tryz.slices_Clone_string_nil 0 0 w).mono ?_
    rintro e w' ⟨rfl, rfl⟩
    have hb : l = [] := List.eq_nil_of_length_eq_zero h0
    subst hb
    exact ⟨_, rfl, World.ownsRow_nil _ _ _ _, Fr.refl _ _⟩
  · refine (Tryz.slices_Clone_string g 0 l.length cap (l.map fun s => ⟨s.toArray⟩) w (by simp) (by omega) ?_).mono ?_
    · intro j hj
      rw [List.length_map] at hj
      rw [cell_of_row w g _ cur _ _ hg]
      have : (cur.toList.take (l.length * 1))[0 + j]? = (strs l)[j]? := by rw [htk, Nat.zero_add]
      rw [List.getElem?_take, if_pos (by omega), Array.getElem?_toList] at this
      rw [this]
      simp [strs, hj]
    · rintro e w' ⟨v', rfl, ho, _, hb⟩
      have e1 : ((l.map fun s => (⟨s.toArray⟩ : ByteArray)).take l.length).map Value.string = strs l := by
        rw [List.take_of_length_le (by simp)]
        simp [strs]
      rw [e1] at ho
      exact ⟨v', rfl, ho, Fr.below hb⟩
theorem jRecords_calls (h : JrnAt w jl pl j) : Calls Tryz.prog 10 #[Jp jl] w fun e w' => ∃ v', e = .returned v' ∧ w'.ownsRow w.heap.size 9 1 v' j.recs.length (strs j.recs) ∧ Fr [] w w' := by
  obtain ⟨rv, c4, ho⟩ := h.c4
  have hfew := h.few
  go_enter Tryz.func10, Tryz.ntmps10
  go_wp2_with fail
  refine (clone_calls ho (by omega)).mono ?_
  rintro e w1 ⟨v', rfl, ho1, f1⟩
  go_wp2_with fail
  go_ret
  exact ⟨_, rfl, ho1, f1⟩
end
end Go.Proofs.YtcnhlemenpgkbaaGreatDoor
