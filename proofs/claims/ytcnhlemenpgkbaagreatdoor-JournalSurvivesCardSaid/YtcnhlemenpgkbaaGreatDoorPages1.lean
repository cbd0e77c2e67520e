/- The checksum; numbers as bytes. -/
import Derived.Test.YtcnhlemenpgkbaaGreatDoorDisk8
import Derived.Lib.ConvBytes
namespace Go.Proofs.YtcnhlemenpgkbaaGreatDoor
set_option linter.unusedSimpArgs false
set_option linter.unusedVariables false
set_option linter.unnecessarySimpa false
open Go.RowKit M

theorem ret_int {k : IntKind} {a b : Int} (h : a = b) : Ending.returned (.int k a) = .returned (.int k b) := by rw [h]
theorem crcBits_succ : ∀ (k c : Nat), crcBits (k + 1) c = crcBit (crcBits k c)
  | 0, _ => rfl
  | k + 1, c => by
    show crcBits (k + 1) (crcBit c) = _
    rw [crcBits_succ k (crcBit c)]
    rfl
theorem crcBit_lt {c : Nat} (h : c < 4294967296) : crcBit c < 4294967296 := by
  unfold crcBit
  split
  · exact Nat.xor_lt_two_pow (n := 32) (by omega) (by omega)
  · omega
theorem crcBits_lt : ∀ (k : Nat) {c : Nat}, c < 4294967296 → crcBits k c < 4294967296
  | 0, _, h => h
  | k + 1, _, h => crcBits_lt k (crcBit_lt h)
theorem crcByte_lt {c : Nat} (b : UInt8) (h : c < 4294967296) : crcByte c b < 4294967296 :=
  crcBits_lt 8 (Nat.xor_lt_two_pow (n := 32) h (by have := b.toNat_lt; omega))
theorem crcFold_snoc (c : Nat) (s : Bytes) (b : UInt8) : crcFold c (s ++ [b]) = crcByte (crcFold c s) b := by simp [crcFold]
theorem crcFold_lt : ∀ (s : Bytes) {c : Nat}, c < 4294967296 → crcFold c s < 4294967296
  | [], _, h => h
  | b :: s, _, h => crcFold_lt s (crcByte_lt b h)

theorem ofInt64 (a : Nat) (ha : a < 9223372036854775808) : (BitVec.ofInt 64 (a : Int)).toNat = a := by
  rw [BitVec.ofInt_natCast, BitVec.toNat_ofNat]; exact Nat.mod_eq_of_lt (by omega)
theorem i64_xor (a b : Nat) (ha : a < 9223372036854775808) (hb : b < 9223372036854775808) : bits .xor .i64 (a : Int) (b : Int) = ((a ^^^ b : Nat) : Int) := by
  have hx : a ^^^ b < 2 ^ 63 := Nat.xor_lt_two_pow (by omega) (by omega)
  show IntKind.i64.wrap ((BitVec.ofInt 64 (a : Int) ^^^ BitVec.ofInt 64 (b : Int)).toNat : Int) = _
  rw [BitVec.toNat_xor, ofInt64 a ha, ofInt64 b hb, IntWalk.i64_in _ (by omega)]
theorem i64_or (a b : Nat) (ha : a < 9223372036854775808) (hb : b < 9223372036854775808) : bits .or .i64 (a : Int) (b : Int) = ((a ||| b : Nat) : Int) := by
  have hx : a ||| b < 2 ^ 63 := Nat.or_lt_two_pow (by omega) (by omega)
  show IntKind.i64.wrap ((BitVec.ofInt 64 (a : Int) ||| BitVec.ofInt 64 (b : Int)).toNat : Int) = _
  rw [BitVec.toNat_or, ofInt64 a ha, ofInt64 b hb, IntWalk.i64_in _ (by omega)]
theorem i64_and (a b : Nat) (ha : a < 9223372036854775808) (hb : b < 9223372036854775808) : bits .and .i64 (a : Int) (b : Int) = ((a &&& b : Nat) : Int) := by
  have hx : a &&& b < 2 ^ 63 := Nat.and_lt_two_pow _ (by omega)
  show IntKind.i64.wrap ((BitVec.ofInt 64 (a : Int) &&& BitVec.ofInt 64 (b : Int)).toNat : Int) = _
  rw [BitVec.toNat_and, ofInt64 a ha, ofInt64 b hb, IntWalk.i64_in _ (by omega)]

theorem crc_step (c : Nat) (hc : c < 4294967296) : bits .xor .i64 ((c : Int) / 2) (wrap64 (3988292384 * bits .and .i64 (c : Int) 1)) = ((crcBit c : Nat) : Int) := by
  have h1 : bits .and .i64 (c : Int) 1 = ((c % 2 : Nat) : Int) := by
    have := i64_and c 1 (by omega) (by omega)
    rw [Nat.and_one_is_mod] at this
    exact this
  rw [h1]
  have h2 : ((c : Int) / 2) = ((c / 2 : Nat) : Int) := by omega
  rw [h2]
  unfold crcBit
  by_cases h : c % 2 = 1
  · rw [if_pos h, h]
    have : wrap64 (3988292384 * ((1 : Nat) : Int)) = ((3988292384 : Nat) : Int) := by unfold wrap64; omega
    rw [this]
    exact i64_xor _ _ (by omega) (by omega)
  · rw [if_neg h, show c % 2 = 0 from by omega]
    have : wrap64 (3988292384 * ((0 : Nat) : Int)) = ((0 : Nat) : Int) := by unfold wrap64; omega
    rw [this, i64_xor _ _ (by omega) (by omega), Nat.xor_zero]

section
variable {P : Program} {ops : Array Oper} {Q : Exit → Act → World → Prop} {a : Act} {w : World} {rest : List Oper} {o : Oper}

/-- The bytes of a text, in a new block. -/
theorem wpL_toBytes (hgd : o.guard = none) (src dst e : TypeId) (x : Operand) (ho : o.op = .convert src dst x) (hs : P.underlying src = some .string) (hd : P.underlying dst = some (.slice e)) (he : P.underlying e = some (.int .u8)) (s : Bytes) (hx : a.eval x = .string ⟨s.toArray⟩)
    (h : ∀ w' cap cs fz, w'.heap[w.heap.size]? = some (.cells cs e fz) → (∀ j, j < s.length → cs[j]? = (cellsOf s)[j]?) → (∀ j, j < s.length → w'.frozen? ⟨w.heap.size, j, none⟩ = false) → s.length ≤ cap → Fr [] w w' → w'.heap.size = w.heap.size + 1 →
      wpList P ops Q rest (a.put o.dst (.slice (some ⟨w.heap.size, 0, none⟩) s.length cap)) w') : wpList P ops Q (o :: rest) a w := by
  refine wpL_val hgd (v := .slice (some ⟨w.heap.size, 0, none⟩) s.length (grownCap w s.length 0 e)) (w' := Lib.bytesWorld w e ⟨s.toArray⟩) ?_ ?_
  · have hc := Lib.run_convert_string_bytes (P := P) w src dst e ⟨s.toArray⟩ hs hd he
    have hsz : (ByteArray.mk s.toArray).size = s.length := by show s.toArray.size = _; simp
    rw [hsz] at hc
    unfold execOp
    simp only [ho, hx, Sem.run_bind, hc, Result.andThen_ok]
    rfl
  · have hnew := Lib.bytesWorld_at_new w e ⟨s.toArray⟩
    have hsz : s.length ≤ (Lib.bytesCells w e ⟨s.toArray⟩).size := by simp [Lib.bytesCells]
    refine h _ _ _ _ hnew ?_ ?_ ?_ ⟨rfl, rfl, rfl, by rw [Lib.bytesWorld_size]; omega, fun k hk _ => Lib.bytesWorld_at_old w e _ k hk⟩ (Lib.bytesWorld_size w e _)
    · intro j hj
      simp [Lib.bytesCells, cellsOf, Array.getElem?_append, hj]
    · intro j hj
      simp only [World.frozen?, hnew, Bool.and_eq_false_iff, decide_eq_false_iff_not]
      left; omega
    · unfold grownCap Question.cut
      exact Nat.le_add_right _ _
end

theorem pCrc_calls (s : Bytes) (hs : s.length ≤ 1000000) (w : World) : Calls Tryz.prog 93 #[str s] w fun e w' => e = .returned (.int .i64 (crc s)) ∧ Fr [] w w' := by
  go_enter Tryz.func93, Tryz.ntmps93
  go_wp2_with (first | (with_reducible refine wpL_stop (o := ⟨_, .alloc 59, _, _, _, none⟩) ?_) | (with_reducible refine wpL_stop (o := ⟨_, .load 59 _, _, _, _, none⟩) ?_) | (with_reducible refine wpL_stop (o := ⟨_, .store 59 _ _, _, _, _, none⟩) ?_) | (with_reducible refine wpL_stop (o := ⟨_, .lookup _ _ _ _, _, _, _, none⟩) ?_) | (with_reducible refine wpL_stop (o := ⟨_, .box 59 _, _, _, _, none⟩) ?_) | (with_reducible refine wpL_stop (o := ⟨_, .next _ _, _, _, _, none⟩) ?_) | (with_reducible refine wpL_stop (o := ⟨_, .range _ _, _, _, _, none⟩) ?_) | (with_reducible refine wpL_stop (o := ⟨_, .mapUpdate _ _ _ _, _, _, _, none⟩) ?_) | (with_reducible refine wpL_stop (o := ⟨_, .convert 23 9 _, _, _, _, none⟩) ?_) | (with_reducible refine wpL_stop (o := ⟨_, .convert 9 23 _, _, _, _, none⟩) ?_) | (with_reducible refine wpL_stop (o := ⟨_, .call { callee := .builtin .copy, args := _, argTypes := _ }, _, _, _, none⟩) ?_) | (with_reducible refine wpL_stop (o := ⟨_, .call { callee := .builtin .append, args := _, argTypes := _ }, _, _, _, none⟩) ?_) | (with_reducible refine wpL_stop (o := ⟨_, .call { callee := .builtin .clear, args := _, argTypes := _ }, _, _, _, none⟩) ?_) | (with_reducible refine wpL_stop (o := ⟨_, .makeSlice _ _ _, _, _, _, none⟩) ?_) | (with_reducible refine wpL_stop (o := ⟨_, .makeMap _ _, _, _, _, none⟩) ?_) | (with_reducible refine wpL_stop (o := ⟨_, .entry _, _, _, _, none⟩) ?_) | (with_reducible refine wpL_stop (o := ⟨_, .call { callee := .builtin .max, args := _, argTypes := _ }, _, _, _, none⟩) ?_) | (with_reducible refine wpL_stop (o := ⟨_, .call { callee := .builtin .min, args := _, argTypes := _ }, _, _, _, none⟩) ?_) | (with_reducible refine wpL_stop (o := ⟨_, .slice 59 _ none (some _) none, _, _, _, none⟩) ?_) | (with_reducible refine wpL_stop (o := ⟨_, .binOp .add 9 _ _ _, _, _, _, none⟩) ?_) | (with_reducible refine wpL_stop (o := ⟨_, .slice 9 _ _ _ _, _, _, _, none⟩) ?_))
  refine unhold (wpL_toBytes rfl _ _ 5 _ rfl Tryz.underlying9 Tryz.underlying23 Tryz.underlying5 s rfl ?_)
  intro w1 cap cs fz g1 hcs _ hcap f1 s1
  go_wp2_with (first | (with_reducible refine wpL_stop (o := ⟨_, .alloc 59, _, _, _, none⟩) ?_) | (with_reducible refine wpL_stop (o := ⟨_, .load 59 _, _, _, _, none⟩) ?_) | (with_reducible refine wpL_stop (o := ⟨_, .store 59 _ _, _, _, _, none⟩) ?_) | (with_reducible refine wpL_stop (o := ⟨_, .lookup _ _ _ _, _, _, _, none⟩) ?_) | (with_reducible refine wpL_stop (o := ⟨_, .box 59 _, _, _, _, none⟩) ?_) | (with_reducible refine wpL_stop (o := ⟨_, .next _ _, _, _, _, none⟩) ?_) | (with_reducible refine wpL_stop (o := ⟨_, .range _ _, _, _, _, none⟩) ?_) | (with_reducible refine wpL_stop (o := ⟨_, .mapUpdate _ _ _ _, _, _, _, none⟩) ?_) | (with_reducible refine wpL_stop (o := ⟨_, .convert 23 9 _, _, _, _, none⟩) ?_) | (with_reducible refine wpL_stop (o := ⟨_, .convert 9 23 _, _, _, _, none⟩) ?_) | (with_reducible refine wpL_stop (o := ⟨_, .call { callee := .builtin .copy, args := _, argTypes := _ }, _, _, _, none⟩) ?_) | (with_reducible refine wpL_stop (o := ⟨_, .call { callee := .builtin .append, args := _, argTypes := _ }, _, _, _, none⟩) ?_) | (with_reducible refine wpL_stop (o := ⟨_, .call { callee := .builtin .clear, args := _, argTypes := _ }, _, _, _, none⟩) ?_) | (with_reducible refine wpL_stop (o := ⟨_, .makeSlice _ _ _, _, _, _, none⟩) ?_) | (with_reducible refine wpL_stop (o := ⟨_, .makeMap _ _, _, _, _, none⟩) ?_) | (with_reducible refine wpL_stop (o := ⟨_, .entry _, _, _, _, none⟩) ?_) | (with_reducible refine wpL_stop (o := ⟨_, .call { callee := .builtin .max, args := _, argTypes := _ }, _, _, _, none⟩) ?_) | (with_reducible refine wpL_stop (o := ⟨_, .call { callee := .builtin .min, args := _, argTypes := _ }, _, _, _, none⟩) ?_) | (with_reducible refine wpL_stop (o := ⟨_, .slice 59 _ none (some _) none, _, _, _, none⟩) ?_) | (with_reducible refine wpL_stop (o := ⟨_, .binOp .add 9 _ _ _, _, _, _, none⟩) ?_) | (with_reducible refine wpL_stop (o := ⟨_, .slice 9 _ _ _ _, _, _, _, none⟩) ?_))
  go_loop [3, 9] (fun c i => ∃ n : Nat, i = .int .i64 n ∧ n ≤ s.length ∧ c = .int .i64 (crcFold 4294967295 (s.take n) : Nat)) (fun _ i => s.length - (intOf i).toNat)
  case atStart => exact ⟨0, rfl, by omega, rfl⟩
  case round =>
    obtain ⟨n, rfl, hn, rfl⟩ := hrel
    by_cases hlt : n < s.length
    · have hc := crcFold_lt (s.take n) (c := 4294967295) (by decide)
      have hsn : crcFold 4294967295 (s.take (n + 1)) = crcByte (crcFold 4294967295 (s.take n)) s[n] := by rw [List.take_succ_eq_append_getElem hlt, crcFold_snoc]
      generalize crcFold 4294967295 (s.take n) = c at hc hsn ⊢
      have hcell : w1.cell? ⟨w.heap.size, n, none⟩ = some (.int .u8 (s[n].toNat)) := by
        rw [cell_of_row w1 _ n cs _ fz g1, hcs n hlt]
        simp [cellsOf, hlt]
      have hlt' : (n : Int) < (s.length : Int) := by omega
      have HSN := Lib.hid hsn
      clear hsn
      generalize s[n] = b at hcell HSN
      have hb : b.toNat < 256 := b.toNat_lt
      have hx : bits .xor .i64 (c : Int) (b.toNat : Int) = ((c ^^^ b.toNat : Nat) : Int) := i64_xor _ _ (by omega) (by omega)
      go_wp2
      go_loop [3, 17] (fun c' j => ∃ m : Nat, j = .int .i64 m ∧ m ≤ 8 ∧ c' = .int .i64 (crcBits m (c ^^^ b.toNat) : Nat)) (fun _ j => 8 - (intOf j).toNat)
      case atStart => exact ⟨0, rfl, by omega, rfl⟩
      case round =>
        obtain ⟨m, rfl, hm, rfl⟩ := hrel
        by_cases hlt2 : m < 8
        · have hc2 := crcBits_lt m (Nat.xor_lt_two_pow (n := 32) hc (show b.toNat < 2 ^ 32 by omega))
          have hs2 := crcBits_succ m (c ^^^ b.toNat)
          generalize crcBits m (c ^^^ b.toNat) = c2 at hc2 hs2 ⊢
          have hlt2' : (m : Int) < 8 := by omega
          have HS2 := Lib.hid hs2
          clear hs2
          go_wp2
          rw [crc_step c2 hc2]
          exact ⟨⟨m + 1, by go_num, by omega, by rw [HS2.out]⟩, by simp [intOf]; omega⟩
        · obtain rfl : m = 8 := by omega
          have he : crcBits 8 (c ^^^ b.toNat) = crcByte c b := rfl
          rw [he, ← HSN.out]
          go_wp2
          go_round
          case rel => exact ⟨n + 1, by go_num, by omega, rfl⟩
          case measure => simp [intOf]; omega
    · obtain rfl : n = s.length := by omega
      rw [List.take_length]
      have hc := crcFold_lt s (c := 4294967295) (by decide)
      have hx : bits .xor .i64 ((crcFold 4294967295 s : Nat) : Int) 4294967295 = ((crc s : Nat) : Int) := i64_xor _ 4294967295 (by omega) (by omega)
      have HX := Lib.hid hx
      clear hx
      generalize crcFold 4294967295 s = c at HX
      go_wp2
      go_ret
      exact ⟨ret_int HX.out, f1⟩
theorem le_snoc : ∀ (k n : Nat), le (k + 1) n = le k n ++ [UInt8.ofNat (n / 256 ^ k)]
  | 0, n => by simp [le]
  | k + 1, n => by
    have ih := le_snoc k (n / 256)
    have e : le (k + 1 + 1) n = UInt8.ofNat n :: le (k + 1) (n / 256) := rfl
    rw [e, ih]
    simp only [le, List.cons_append]
    rw [Nat.div_div_eq_div_mul, ← Nat.pow_succ']
theorem le_length : ∀ (k n : Nat), (le k n).length = k
  | 0, _ => rfl
  | k + 1, n => by simp [le, le_length k]

theorem byteInfo : (Tryz.prog.info? 5).map (fun i => (i.zero, i.size, i.bytes)) = some (some (.int .u8 0), 1, 1) := by kernel_rfl

theorem wpL_makeBytes {ops : Array Oper} {Q : Exit → Act → World → Prop} {a : Act} {w : World} {rest : List Oper} {o : Oper} (hgd : o.guard = none) (x y : Operand) (ho : o.op = .makeSlice 23 x y) (n : Nat) (hn : n ≤ 1000000) (hx : a.eval x = .int .i64 n) (hy : a.eval y = .int .i64 n)
    (h : ∀ w', w'.heap[w.heap.size]? = some (.cells (cellsOf (zeros n)).toArray 5 (0, 0)) → Fr [] w w' → w'.heap.size = w.heap.size + 1 →
      wpList Tryz.prog ops Q rest (a.put o.dst (.slice (some ⟨w.heap.size, 0, none⟩) n n)) w') : wpList Tryz.prog ops Q (o :: rest) a w := by
  have hcells : madeCells #[.int .u8 0] (n * 1) = (cellsOf (zeros n)).toArray := by
    have h1 : ∀ j, j < 1 → (#[Value.int .u8 0] : Array Value)[j]! = .int .u8 0 := by
      intro j hj
      have e : j = 0 := by omega
      subst e
      rfl
    rw [cells_zeros, made_const _ 1 _ (.int .u8 0) rfl (by omega) h1, Nat.mul_one]
  refine wpL_val hgd (v := .slice (some ⟨w.heap.size, 0, none⟩) n n) (w' := w.alloc (.cells (cellsOf (zeros n)).toArray 5)) ?_ (h _ (heap_alloc_new _ _) ((Fr.refl _ _).alloc _) (by simp))
  cases hq : Tryz.prog.info? 5 with
  | none => have := byteInfo; simp [hq] at this
  | some i =>
    obtain ⟨hz, hs, hb⟩ : i.zero = some (.int .u8 0) ∧ i.size = 1 ∧ i.bytes = 1 := by
      have := byteInfo
      simpa [hq] using this
    have hrun := run_make (P := Tryz.prog) w 23 5 i _ Tryz.underlying23 hq hz .i64 .i64 n n (by omega) (Int.le_refl _) (by rw [hb]; omega) (by omega)
    simp only [Int.toNat_natCast, hs, Value.cells, hcells] at hrun
    unfold execOp
    simp only [ho, hx, hy, Sem.run_bind, hrun, Result.andThen_ok, Sem.run_pure]

theorem byte_val (n j : Nat) : ((n : Int) / 2 ^ (8 * j) % 256) = ((UInt8.ofNat (n / 256 ^ j)).toNat : Int) := by
  rw [UInt8.toNat_ofNat']
  have : ((2 : Nat) ^ 8) = 256 := rfl
  rw [this]
  have e : ((2 : Int) ^ (8 * j)) = ((256 ^ j : Nat) : Int) := by
    rw [Int.pow_mul, Int.natCast_pow]
    rfl
  rw [e, Int.natCast_emod, Int.natCast_ediv]
  rfl
theorem le_set (n k j : Nat) (h : j < k) : (cellsOf (le j n ++ zeros (k - j))).set j (.int .u8 (UInt8.ofNat (n / 256 ^ j)).toNat) = cellsOf (le (j + 1) n ++ zeros (k - (j + 1))) := by
  rw [le_snoc, ← cellsOf_set]
  congr 1
  rw [List.set_append_right _ _ (by rw [le_length]; omega), le_length, Nat.sub_self, zeros, show k - j = (k - (j + 1)) + 1 from by omega, List.replicate_succ]
  simp [zeros]

theorem pBytes_calls (n k : Nat) (hk : k ≤ 8) (w : World) : Calls Tryz.prog 92 #[.int .i64 n, .int .i64 k] w fun e w' => e = .returned (str (le k n)) ∧ Fr [] w w' := by
  go_enter Tryz.func92, Tryz.ntmps92
  go_wp2_with (first | (with_reducible refine wpL_stop (o := ⟨_, .alloc 59, _, _, _, none⟩) ?_) | (with_reducible refine wpL_stop (o := ⟨_, .load 59 _, _, _, _, none⟩) ?_) | (with_reducible refine wpL_stop (o := ⟨_, .store 59 _ _, _, _, _, none⟩) ?_) | (with_reducible refine wpL_stop (o := ⟨_, .lookup _ _ _ _, _, _, _, none⟩) ?_) | (with_reducible refine wpL_stop (o := ⟨_, .box 59 _, _, _, _, none⟩) ?_) | (with_reducible refine wpL_stop (o := ⟨_, .next _ _, _, _, _, none⟩) ?_) | (with_reducible refine wpL_stop (o := ⟨_, .range _ _, _, _, _, none⟩) ?_) | (with_reducible refine wpL_stop (o := ⟨_, .mapUpdate _ _ _ _, _, _, _, none⟩) ?_) | (with_reducible refine wpL_stop (o := ⟨_, .convert 23 9 _, _, _, _, none⟩) ?_) | (with_reducible refine wpL_stop (o := ⟨_, .convert 9 23 _, _, _, _, none⟩) ?_) | (with_reducible refine wpL_stop (o := ⟨_, .call { callee := .builtin .copy, args := _, argTypes := _ }, _, _, _, none⟩) ?_) | (with_reducible refine wpL_stop (o := ⟨_, .call { callee := .builtin .append, args := _, argTypes := _ }, _, _, _, none⟩) ?_) | (with_reducible refine wpL_stop (o := ⟨_, .call { callee := .builtin .clear, args := _, argTypes := _ }, _, _, _, none⟩) ?_) | (with_reducible refine wpL_stop (o := ⟨_, .makeSlice _ _ _, _, _, _, none⟩) ?_) | (with_reducible refine wpL_stop (o := ⟨_, .makeMap _ _, _, _, _, none⟩) ?_) | (with_reducible refine wpL_stop (o := ⟨_, .entry _, _, _, _, none⟩) ?_) | (with_reducible refine wpL_stop (o := ⟨_, .call { callee := .builtin .max, args := _, argTypes := _ }, _, _, _, none⟩) ?_) | (with_reducible refine wpL_stop (o := ⟨_, .call { callee := .builtin .min, args := _, argTypes := _ }, _, _, _, none⟩) ?_) | (with_reducible refine wpL_stop (o := ⟨_, .slice 59 _ none (some _) none, _, _, _, none⟩) ?_) | (with_reducible refine wpL_stop (o := ⟨_, .binOp .add 9 _ _ _, _, _, _, none⟩) ?_) | (with_reducible refine wpL_stop (o := ⟨_, .slice 9 _ _ _ _, _, _, _, none⟩) ?_))
  refine unhold (wpL_makeBytes rfl _ _ rfl k (by omega) rfl rfl ?_)
  intro w1 g1 f1 s1
  go_wp2_with (first | (with_reducible refine wpL_stop (o := ⟨_, .alloc 59, _, _, _, none⟩) ?_) | (with_reducible refine wpL_stop (o := ⟨_, .load 59 _, _, _, _, none⟩) ?_) | (with_reducible refine wpL_stop (o := ⟨_, .store 59 _ _, _, _, _, none⟩) ?_) | (with_reducible refine wpL_stop (o := ⟨_, .lookup _ _ _ _, _, _, _, none⟩) ?_) | (with_reducible refine wpL_stop (o := ⟨_, .box 59 _, _, _, _, none⟩) ?_) | (with_reducible refine wpL_stop (o := ⟨_, .next _ _, _, _, _, none⟩) ?_) | (with_reducible refine wpL_stop (o := ⟨_, .range _ _, _, _, _, none⟩) ?_) | (with_reducible refine wpL_stop (o := ⟨_, .mapUpdate _ _ _ _, _, _, _, none⟩) ?_) | (with_reducible refine wpL_stop (o := ⟨_, .convert 23 9 _, _, _, _, none⟩) ?_) | (with_reducible refine wpL_stop (o := ⟨_, .convert 9 23 _, _, _, _, none⟩) ?_) | (with_reducible refine wpL_stop (o := ⟨_, .call { callee := .builtin .copy, args := _, argTypes := _ }, _, _, _, none⟩) ?_) | (with_reducible refine wpL_stop (o := ⟨_, .call { callee := .builtin .append, args := _, argTypes := _ }, _, _, _, none⟩) ?_) | (with_reducible refine wpL_stop (o := ⟨_, .call { callee := .builtin .clear, args := _, argTypes := _ }, _, _, _, none⟩) ?_) | (with_reducible refine wpL_stop (o := ⟨_, .makeSlice _ _ _, _, _, _, none⟩) ?_) | (with_reducible refine wpL_stop (o := ⟨_, .makeMap _ _, _, _, _, none⟩) ?_) | (with_reducible refine wpL_stop (o := ⟨_, .entry _, _, _, _, none⟩) ?_) | (with_reducible refine wpL_stop (o := ⟨_, .call { callee := .builtin .max, args := _, argTypes := _ }, _, _, _, none⟩) ?_) | (with_reducible refine wpL_stop (o := ⟨_, .call { callee := .builtin .min, args := _, argTypes := _ }, _, _, _, none⟩) ?_) | (with_reducible refine wpL_stop (o := ⟨_, .slice 59 _ none (some _) none, _, _, _, none⟩) ?_) | (with_reducible refine wpL_stop (o := ⟨_, .binOp .add 9 _ _ _, _, _, _, none⟩) ?_) | (with_reducible refine wpL_stop (o := ⟨_, .slice 9 _ _ _ _, _, _, _, none⟩) ?_))
  go_loopw [11] (fun i wr => ∃ j : Nat, i = .int .i64 j ∧ j ≤ k ∧ Hid (wr.heap[w.heap.size]? = some (.cells (cellsOf (le j n ++ zeros (k - j))).toArray 5 (0, 0))) ∧ Fr [] w wr) (fun i _ => k - (intOf i).toNat)
  case atStart => exact ⟨0, rfl, by omega, by unfold Hid; simpa [le] using g1, f1⟩
  case round =>
    obtain ⟨j, rfl, hj, hg, fr⟩ := hrel
    by_cases hlt : j < k
    · have hlt' : (j : Int) < (k : Int) := by omega
      have hcell : ∃ v, wr.cell? ⟨w.heap.size, j, none⟩ = some v := by
        rw [cell_of_row wr _ j _ _ _ hg.out]
        have : j < (cellsOf (le j n ++ zeros (k - j))).length := by simp [cellsOf_length, le_length, zeros]; omega
        exact ⟨(cellsOf (le j n ++ zeros (k - j)))[j], by simp [this]⟩
      obtain ⟨v0, hcell⟩ := hcell
      have hfr := blk_free hg.out j
      have hbv := byte_val n j
      have HB := Lib.hid hbv
      have hset := le_set n k j hlt
      have HS := Lib.hid hset
      clear hbv hset
      go_wp2
      rw [HB.out]
      refine ⟨⟨j + 1, by go_num, by omega, ?_, fr.setCell (.inr (Nat.le_refl _)) _⟩, by simp [intOf]; omega⟩
      have := heap_setCell_same' wr w.heap.size j _ _ (.int .u8 (UInt8.ofNat (n / 256 ^ j)).toNat) hg.out
      unfold Hid
      rw [this, ← HS.out]
      simp
    · obtain rfl : j = k := by omega
      go_wp2_with (first | (with_reducible refine wpL_stop (o := ⟨_, .alloc 59, _, _, _, none⟩) ?_) | (with_reducible refine wpL_stop (o := ⟨_, .load 59 _, _, _, _, none⟩) ?_) | (with_reducible refine wpL_stop (o := ⟨_, .store 59 _ _, _, _, _, none⟩) ?_) | (with_reducible refine wpL_stop (o := ⟨_, .lookup _ _ _ _, _, _, _, none⟩) ?_) | (with_reducible refine wpL_stop (o := ⟨_, .box 59 _, _, _, _, none⟩) ?_) | (with_reducible refine wpL_stop (o := ⟨_, .next _ _, _, _, _, none⟩) ?_) | (with_reducible refine wpL_stop (o := ⟨_, .range _ _, _, _, _, none⟩) ?_) | (with_reducible refine wpL_stop (o := ⟨_, .mapUpdate _ _ _ _, _, _, _, none⟩) ?_) | (with_reducible refine wpL_stop (o := ⟨_, .convert 23 9 _, _, _, _, none⟩) ?_) | (with_reducible refine wpL_stop (o := ⟨_, .convert 9 23 _, _, _, _, none⟩) ?_) | (with_reducible refine wpL_stop (o := ⟨_, .call { callee := .builtin .copy, args := _, argTypes := _ }, _, _, _, none⟩) ?_) | (with_reducible refine wpL_stop (o := ⟨_, .call { callee := .builtin .append, args := _, argTypes := _ }, _, _, _, none⟩) ?_) | (with_reducible refine wpL_stop (o := ⟨_, .call { callee := .builtin .clear, args := _, argTypes := _ }, _, _, _, none⟩) ?_) | (with_reducible refine wpL_stop (o := ⟨_, .makeSlice _ _ _, _, _, _, none⟩) ?_) | (with_reducible refine wpL_stop (o := ⟨_, .makeMap _ _, _, _, _, none⟩) ?_) | (with_reducible refine wpL_stop (o := ⟨_, .entry _, _, _, _, none⟩) ?_) | (with_reducible refine wpL_stop (o := ⟨_, .call { callee := .builtin .max, args := _, argTypes := _ }, _, _, _, none⟩) ?_) | (with_reducible refine wpL_stop (o := ⟨_, .call { callee := .builtin .min, args := _, argTypes := _ }, _, _, _, none⟩) ?_) | (with_reducible refine wpL_stop (o := ⟨_, .slice 59 _ none (some _) none, _, _, _, none⟩) ?_) | (with_reducible refine wpL_stop (o := ⟨_, .binOp .add 9 _ _ _, _, _, _, none⟩) ?_) | (with_reducible refine wpL_stop (o := ⟨_, .slice 9 _ _ _ _, _, _, _, none⟩) ?_))
      refine unhold (wpL_text rfl _ _ _ rfl 5 Tryz.underlying23 Tryz.underlying5 Tryz.underlying9 w.heap.size 0 j j rfl _ _ _ (le j n) hg.out (le_length _ _) (by intro i hi; simp [zeros]) ?_)
      go_wp2
      go_ret
      exact ⟨rfl, fr⟩
end Go.Proofs.YtcnhlemenpgkbaaGreatDoor
