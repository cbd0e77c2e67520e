/- Numbers out of bytes; sealed pages. -/
import Derived.Test.YtcnhlemenpgkbaaGreatDoorPages1
namespace Go.Proofs.YtcnhlemenpgkbaaGreatDoor
set_option linter.unusedSimpArgs false
set_option linter.unusedVariables false
set_option linter.unnecessarySimpa false
open Go.RowKit M

theorem ret_str {s t : Bytes} (h : s = t) : Ending.returned (str s) = .returned (str t) := by rw [h]

theorem num_snoc : ∀ (s : Bytes) (b : UInt8), num (s ++ [b]) = num s + b.toNat * 256 ^ s.length
  | [], b => by simp [num]
  | x :: s, b => by
    simp only [List.cons_append, num, num_snoc s b, List.length_cons, Nat.pow_succ]
    rw [Nat.mul_add, ← Nat.mul_assoc, Nat.mul_comm 256 b.toNat, Nat.mul_assoc, Nat.mul_comm 256 (256 ^ _), Nat.add_assoc]
theorem num_lt : ∀ (s : Bytes), num s < 256 ^ s.length
  | [] => by simp [num]
  | x :: s => by
    have := num_lt s
    have hx : x.toNat < 256 := x.toNat_lt
    simp only [num, List.length_cons, Nat.pow_succ]
    omega

theorem or_shift (x b i : Nat) (hx : x < 256 ^ i) : x ||| (b * 256 ^ i) = x + b * 256 ^ i := by
  have e : (256 : Nat) ^ i = 2 ^ (8 * i) := by rw [Nat.pow_mul]
  rw [e] at hx ⊢
  rw [Nat.or_comm, Nat.mul_comm, Nat.add_comm]
  exact (Nat.two_pow_add_eq_or_of_lt hx b).symm

theorem num_step (c b n : Nat) (hn : n < 7) (hc : c < 256 ^ n) (hb : b < 256) : bits .or .i64 (c : Int) (wrap64 (wrap64 (b : Int) * 2 ^ (8 * n))) = ((c + b * 256 ^ n : Nat) : Int) := by
  have h7 : (256 : Nat) ^ (n + 1) ≤ 256 ^ 7 := Nat.pow_le_pow_right (by omega) (by omega)
  have h7' : (256 : Nat) ^ 7 = 72057594037927936 := rfl
  have hm : b * 256 ^ n < 256 ^ (n + 1) := by
    rw [Nat.pow_succ, Nat.mul_comm]
    exact (Nat.mul_lt_mul_left (Nat.pow_pos (by omega))).2 hb
  have hle : (256 : Nat) ^ n ≤ 256 ^ (n + 1) := Nat.pow_le_pow_right (by omega) (by omega)
  have e : ((2 : Int) ^ (8 * n)) = ((256 ^ n : Nat) : Int) := by
    rw [Int.pow_mul, Int.natCast_pow]
    rfl
  have w1 : wrap64 (b : Int) = (b : Int) := by unfold wrap64; omega
  have w2 : wrap64 ((b : Int) * ((256 ^ n : Nat) : Int)) = ((b * 256 ^ n : Nat) : Int) := by
    rw [← Int.natCast_mul]
    unfold wrap64
    omega
  rw [w1, e, w2, i64_or _ _ (by omega) (by omega), or_shift c b n hc]

theorem str_at (s : Bytes) (n : Nat) (h : n < s.length) : ((⟨s.toArray⟩ : ByteArray)[n]'(by show n < s.toArray.size; simpa using h)) = s[n] := by
  show s.toArray[n]'_ = _
  simp

theorem pnum_calls (s : Bytes) (hs : s.length ≤ 7) (w : World) : Calls Tryz.prog 32 #[str s] w fun e w' => e = .returned (.int .i64 (num s)) ∧ w = w' := by
  go_enter Tryz.func32, Tryz.ntmps32
  go_wp2
  go_loop [2, 6] (fun c i => ∃ n : Nat, i = .int .i64 n ∧ n ≤ s.length ∧ c = .int .i64 (num (s.take n) : Nat)) (fun _ i => s.length - (intOf i).toNat)
  case atStart => exact ⟨0, rfl, by omega, rfl⟩
  case round =>
    obtain ⟨n, rfl, hn, rfl⟩ := hrel
    by_cases hlt : n < s.length
    · have hc := num_lt (s.take n)
      rw [List.length_take, Nat.min_eq_left hn] at hc
      have hsn : num (s.take (n + 1)) = num (s.take n) + s[n].toNat * 256 ^ n := by
        rw [List.take_succ_eq_append_getElem hlt, num_snoc, List.length_take, Nat.min_eq_left hn]
      generalize num (s.take n) = c at hc hsn ⊢
      have hlt' : (n : Int) < (s.length : Int) := by omega
      have HSN := Lib.hid hsn
      clear hsn
      go_wp2
      have hb : (s[n].toNat) < 256 := s[n].toNat_lt
      exact ⟨⟨n + 1, by go_num, by omega, by rw [HSN.out, ← num_step c _ n (by omega) hc hb, ← str_at s n hlt]⟩, by simp [intOf]; omega⟩
    · obtain rfl : n = s.length := by omega
      rw [List.take_length]
      go_wp2
      go_ret
      exact ⟨rfl, rfl⟩
theorem pBlank_calls (n : Int) (h0 : 0 ≤ n) (h1 : n ≤ 1000) (w : World) : Calls Tryz.prog 62 #[.int .i64 n] w fun e w' => e = .returned (str (zeros n.toNat)) ∧ Fr [] w w' := by
  obtain ⟨m, rfl⟩ := Int.eq_ofNat_of_zero_le h0
  rw [Int.toNat_natCast]
  have hrep : ∀ w : World, Calls Tryz.prog 52 #[.string ⟨#[0]⟩, .int .i64 m] w fun e w' => e = .returned (str (zeros m)) ∧ Fr [] w w' := by
    intro w
    by_cases hm0 : m = 0
    · subst hm0
      refine (Tryz.strings_Repeat_zero ⟨#[0]⟩ w).mono ?_
      rintro e w' ⟨rfl, rfl⟩
      exact ⟨rfl, Fr.refl _ _⟩
    · by_cases hm1 : m = 1
      · subst hm1
        refine (Tryz.strings_Repeat_one ⟨#[0]⟩ w).mono ?_
        rintro e w' ⟨rfl, rfl⟩
        exact ⟨rfl, Fr.refl _ _⟩
      · have hsz : (ByteArray.mk #[0]).size = 1 := rfl
        refine (Tryz.strings_Repeat_main ⟨#[0]⟩ m w (by omega) (by omega) (by rw [hsz]; omega) (by rw [hsz]; omega)).mono ?_
        rintro e w' ⟨rfl, hb⟩
        refine ⟨?_, Fr.below hb⟩
        have : ∀ k, Lib.repeatL (ByteArray.mk #[0]).data.toList k = zeros k := by
          intro k
          induction k with
          | zero => rfl
          | succ k ih =>
            unfold Lib.repeatL
            rw [ih]
            rfl
        rw [this]
  go_enter Tryz.func62, Tryz.ntmps62
  go_wp2_with fail
  refine (hrep _).mono ?_
  rintro e w1 ⟨rfl, f1⟩
  go_wp2
  go_ret
  exact ⟨rfl, f1⟩

theorem sealed_bad {n : Int} {data : Bytes} (h : n < 1 ∨ 1073741824 < n ∨ data.length ≠ 116) : sealed n data = [] := by simp [sealed, h]
theorem sealed_ok {n : Nat} {data : Bytes} (h1 : 1 ≤ n) (h2 : n ≤ 1073741824) (h3 : data.length = 116) : sealed n data = (le 4 n ++ data) ++ le 4 (crc (le 4 n ++ data)) ++ le 4 n := by
  unfold sealed
  rw [if_neg (by omega)]
  simp
theorem crc_lt (s : Bytes) : crc s < 4294967296 := Nat.xor_lt_two_pow (n := 32) (crcFold_lt s (by decide)) (by decide)
theorem sealed_len {n : Nat} {data : Bytes} (h1 : 1 ≤ n) (h2 : n ≤ 1073741824) (h3 : data.length = 116) : (sealed n data).length = 128 := by
  rw [sealed_ok h1 h2 h3]
  simp [le_length, h3]

theorem pSeal_calls (n : Int) (data : Bytes) (w : World) : Calls Tryz.prog 61 #[.int .i64 n, str data] w fun e w' => e = .returned (str (sealed n data)) ∧ Fr [] w w' := by
  by_cases h1 : n < 1
  · rw [sealed_bad (.inl h1)]
    go_enter Tryz.func61, Tryz.ntmps61
    go_wp2
    go_ret
    exact ⟨rfl, Fr.refl _ _⟩
  · by_cases h2 : 1073741824 < n
    · rw [sealed_bad (.inr (.inl h2))]
      go_enter Tryz.func61, Tryz.ntmps61
      go_wp2
      go_ret
      exact ⟨rfl, Fr.refl _ _⟩
    · by_cases h3 : data.length = 116
      · obtain ⟨m, rfl⟩ := Int.eq_ofNat_of_zero_le (show 0 ≤ n by omega)
        rw [sealed_ok (by omega) (by omega) h3]
        go_enter Tryz.func61, Tryz.ntmps61
        have hl := le_length 4 m
        have hl2 := le_length 4 (crc (le 4 m ++ data))
        go_wp2_with fail
        refine (pBytes_calls m 4 (by omega) _).mono ?_
        rintro e w1 ⟨rfl, f1⟩
        go_wp2_with (first | (with_reducible refine wpL_stop (o := ⟨_, .alloc 59, _, _, _, none⟩) ?_) | (with_reducible refine wpL_stop (o := ⟨_, .load 59 _, _, _, _, none⟩) ?_) | (with_reducible refine wpL_stop (o := ⟨_, .store 59 _ _, _, _, _, none⟩) ?_) | (with_reducible refine wpL_stop (o := ⟨_, .lookup _ _ _ _, _, _, _, none⟩) ?_) | (with_reducible refine wpL_stop (o := ⟨_, .box 59 _, _, _, _, none⟩) ?_) | (with_reducible refine wpL_stop (o := ⟨_, .next _ _, _, _, _, none⟩) ?_) | (with_reducible refine wpL_stop (o := ⟨_, .range _ _, _, _, _, none⟩) ?_) | (with_reducible refine wpL_stop (o := ⟨_, .mapUpdate _ _ _ _, _, _, _, none⟩) ?_) | (with_reducible refine wpL_stop (o := ⟨_, .convert 23 9 _, _, _, _, none⟩) ?_) | (with_reducible refine wpL_stop (o := ⟨_, .convert 9 23 _, _, _, _, none⟩) ?_) | (with_reducible refine wpL_stop (o := ⟨_, .call { callee := .builtin .copy, args := _, argTypes := _ }, _, _, _, none⟩) ?_) | (with_reducible refine wpL_stop (o := ⟨_, .call { callee := .builtin .append, args := _, argTypes := _ }, _, _, _, none⟩) ?_) | (with_reducible refine wpL_stop (o := ⟨_, .call { callee := .builtin .clear, args := _, argTypes := _ }, _, _, _, none⟩) ?_) | (with_reducible refine wpL_stop (o := ⟨_, .makeSlice _ _ _, _, _, _, none⟩) ?_) | (with_reducible refine wpL_stop (o := ⟨_, .makeMap _ _, _, _, _, none⟩) ?_) | (with_reducible refine wpL_stop (o := ⟨_, .entry _, _, _, _, none⟩) ?_) | (with_reducible refine wpL_stop (o := ⟨_, .call { callee := .builtin .max, args := _, argTypes := _ }, _, _, _, none⟩) ?_) | (with_reducible refine wpL_stop (o := ⟨_, .call { callee := .builtin .min, args := _, argTypes := _ }, _, _, _, none⟩) ?_) | (with_reducible refine wpL_stop (o := ⟨_, .slice 59 _ none (some _) none, _, _, _, none⟩) ?_) | (with_reducible refine wpL_stop (o := ⟨_, .binOp .add 9 _ _ _, _, _, _, none⟩) ?_) | (with_reducible refine wpL_stop (o := ⟨_, .slice 9 _ _ _ _, _, _, _, none⟩) ?_))
        refine unhold (wpL_cat rfl _ _ _ _ rfl (le 4 m) data rfl rfl (by omega) ?_)
        go_wp2_with (first | (with_reducible refine wpL_stop (o := ⟨_, .alloc 59, _, _, _, none⟩) ?_) | (with_reducible refine wpL_stop (o := ⟨_, .load 59 _, _, _, _, none⟩) ?_) | (with_reducible refine wpL_stop (o := ⟨_, .store 59 _ _, _, _, _, none⟩) ?_) | (with_reducible refine wpL_stop (o := ⟨_, .lookup _ _ _ _, _, _, _, none⟩) ?_) | (with_reducible refine wpL_stop (o := ⟨_, .box 59 _, _, _, _, none⟩) ?_) | (with_reducible refine wpL_stop (o := ⟨_, .next _ _, _, _, _, none⟩) ?_) | (with_reducible refine wpL_stop (o := ⟨_, .range _ _, _, _, _, none⟩) ?_) | (with_reducible refine wpL_stop (o := ⟨_, .mapUpdate _ _ _ _, _, _, _, none⟩) ?_) | (with_reducible refine wpL_stop (o := ⟨_, .convert 23 9 _, _, _, _, none⟩) ?_) | (with_reducible refine wpL_stop (o := ⟨_, .convert 9 23 _, _, _, _, none⟩) ?_) | (with_reducible refine wpL_stop (o := ⟨_, .call { callee := .builtin .copy, args := _, argTypes := _ }, _, _, _, none⟩) ?_) | (with_reducible refine wpL_stop (o := ⟨_, .call { callee := .builtin .append, args := _, argTypes := _ }, _, _, _, none⟩) ?_) | (with_reducible refine wpL_stop (o := ⟨_, .call { callee := .builtin .clear, args := _, argTypes := _ }, _, _, _, none⟩) ?_) | (with_reducible refine wpL_stop (o := ⟨_, .makeSlice _ _ _, _, _, _, none⟩) ?_) | (with_reducible refine wpL_stop (o := ⟨_, .makeMap _ _, _, _, _, none⟩) ?_) | (with_reducible refine wpL_stop (o := ⟨_, .entry _, _, _, _, none⟩) ?_) | (with_reducible refine wpL_stop (o := ⟨_, .call { callee := .builtin .max, args := _, argTypes := _ }, _, _, _, none⟩) ?_) | (with_reducible refine wpL_stop (o := ⟨_, .call { callee := .builtin .min, args := _, argTypes := _ }, _, _, _, none⟩) ?_) | (with_reducible refine wpL_stop (o := ⟨_, .slice 59 _ none (some _) none, _, _, _, none⟩) ?_) | (with_reducible refine wpL_stop (o := ⟨_, .binOp .add 9 _ _ _, _, _, _, none⟩) ?_) | (with_reducible refine wpL_stop (o := ⟨_, .slice 9 _ _ _ _, _, _, _, none⟩) ?_))
        refine (pCrc_calls (le 4 m ++ data) (by rw [List.length_append]; omega) _).mono ?_
        rintro e w2 ⟨rfl, f2⟩
        go_wp2_with (first | (with_reducible refine wpL_stop (o := ⟨_, .alloc 59, _, _, _, none⟩) ?_) | (with_reducible refine wpL_stop (o := ⟨_, .load 59 _, _, _, _, none⟩) ?_) | (with_reducible refine wpL_stop (o := ⟨_, .store 59 _ _, _, _, _, none⟩) ?_) | (with_reducible refine wpL_stop (o := ⟨_, .lookup _ _ _ _, _, _, _, none⟩) ?_) | (with_reducible refine wpL_stop (o := ⟨_, .box 59 _, _, _, _, none⟩) ?_) | (with_reducible refine wpL_stop (o := ⟨_, .next _ _, _, _, _, none⟩) ?_) | (with_reducible refine wpL_stop (o := ⟨_, .range _ _, _, _, _, none⟩) ?_) | (with_reducible refine wpL_stop (o := ⟨_, .mapUpdate _ _ _ _, _, _, _, none⟩) ?_) | (with_reducible refine wpL_stop (o := ⟨_, .convert 23 9 _, _, _, _, none⟩) ?_) | (with_reducible refine wpL_stop (o := ⟨_, .convert 9 23 _, _, _, _, none⟩) ?_) | (with_reducible refine wpL_stop (o := ⟨_, .call { callee := .builtin .copy, args := _, argTypes := _ }, _, _, _, none⟩) ?_) | (with_reducible refine wpL_stop (o := ⟨_, .call { callee := .builtin .append, args := _, argTypes := _ }, _, _, _, none⟩) ?_) | (with_reducible refine wpL_stop (o := ⟨_, .call { callee := .builtin .clear, args := _, argTypes := _ }, _, _, _, none⟩) ?_) | (with_reducible refine wpL_stop (o := ⟨_, .makeSlice _ _ _, _, _, _, none⟩) ?_) | (with_reducible refine wpL_stop (o := ⟨_, .makeMap _ _, _, _, _, none⟩) ?_) | (with_reducible refine wpL_stop (o := ⟨_, .entry _, _, _, _, none⟩) ?_) | (with_reducible refine wpL_stop (o := ⟨_, .call { callee := .builtin .max, args := _, argTypes := _ }, _, _, _, none⟩) ?_) | (with_reducible refine wpL_stop (o := ⟨_, .call { callee := .builtin .min, args := _, argTypes := _ }, _, _, _, none⟩) ?_) | (with_reducible refine wpL_stop (o := ⟨_, .slice 59 _ none (some _) none, _, _, _, none⟩) ?_) | (with_reducible refine wpL_stop (o := ⟨_, .binOp .add 9 _ _ _, _, _, _, none⟩) ?_) | (with_reducible refine wpL_stop (o := ⟨_, .slice 9 _ _ _ _, _, _, _, none⟩) ?_))
        refine (pBytes_calls (crc (le 4 m ++ data)) 4 (by omega) _).mono ?_
        rintro e w3 ⟨rfl, f3⟩
        go_wp2_with (first | (with_reducible refine wpL_stop (o := ⟨_, .alloc 59, _, _, _, none⟩) ?_) | (with_reducible refine wpL_stop (o := ⟨_, .load 59 _, _, _, _, none⟩) ?_) | (with_reducible refine wpL_stop (o := ⟨_, .store 59 _ _, _, _, _, none⟩) ?_) | (with_reducible refine wpL_stop (o := ⟨_, .lookup _ _ _ _, _, _, _, none⟩) ?_) | (with_reducible refine wpL_stop (o := ⟨_, .box 59 _, _, _, _, none⟩) ?_) | (with_reducible refine wpL_stop (o := ⟨_, .next _ _, _, _, _, none⟩) ?_) | (with_reducible refine wpL_stop (o := ⟨_, .range _ _, _, _, _, none⟩) ?_) | (with_reducible refine wpL_stop (o := ⟨_, .mapUpdate _ _ _ _, _, _, _, none⟩) ?_) | (with_reducible refine wpL_stop (o := ⟨_, .convert 23 9 _, _, _, _, none⟩) ?_) | (with_reducible refine wpL_stop (o := ⟨_, .convert 9 23 _, _, _, _, none⟩) ?_) | (with_reducible refine wpL_stop (o := ⟨_, .call { callee := .builtin .copy, args := _, argTypes := _ }, _, _, _, none⟩) ?_) | (with_reducible refine wpL_stop (o := ⟨_, .call { callee := .builtin .append, args := _, argTypes := _ }, _, _, _, none⟩) ?_) | (with_reducible refine wpL_stop (o := ⟨_, .call { callee := .builtin .clear, args := _, argTypes := _ }, _, _, _, none⟩) ?_) | (with_reducible refine wpL_stop (o := ⟨_, .makeSlice _ _ _, _, _, _, none⟩) ?_) | (with_reducible refine wpL_stop (o := ⟨_, .makeMap _ _, _, _, _, none⟩) ?_) | (with_reducible refine wpL_stop (o := ⟨_, .entry _, _, _, _, none⟩) ?_) | (with_reducible refine wpL_stop (o := ⟨_, .call { callee := .builtin .max, args := _, argTypes := _ }, _, _, _, none⟩) ?_) | (with_reducible refine wpL_stop (o := ⟨_, .call { callee := .builtin .min, args := _, argTypes := _ }, _, _, _, none⟩) ?_) | (with_reducible refine wpL_stop (o := ⟨_, .slice 59 _ none (some _) none, _, _, _, none⟩) ?_) | (with_reducible refine wpL_stop (o := ⟨_, .binOp .add 9 _ _ _, _, _, _, none⟩) ?_) | (with_reducible refine wpL_stop (o := ⟨_, .slice 9 _ _ _ _, _, _, _, none⟩) ?_))
        refine unhold (wpL_cat rfl _ _ _ _ rfl (le 4 m ++ data) (le 4 (crc (le 4 m ++ data))) rfl rfl (by rw [List.length_append]; omega) ?_)
        go_wp2_with (first | (with_reducible refine wpL_stop (o := ⟨_, .alloc 59, _, _, _, none⟩) ?_) | (with_reducible refine wpL_stop (o := ⟨_, .load 59 _, _, _, _, none⟩) ?_) | (with_reducible refine wpL_stop (o := ⟨_, .store 59 _ _, _, _, _, none⟩) ?_) | (with_reducible refine wpL_stop (o := ⟨_, .lookup _ _ _ _, _, _, _, none⟩) ?_) | (with_reducible refine wpL_stop (o := ⟨_, .box 59 _, _, _, _, none⟩) ?_) | (with_reducible refine wpL_stop (o := ⟨_, .next _ _, _, _, _, none⟩) ?_) | (with_reducible refine wpL_stop (o := ⟨_, .range _ _, _, _, _, none⟩) ?_) | (with_reducible refine wpL_stop (o := ⟨_, .mapUpdate _ _ _ _, _, _, _, none⟩) ?_) | (with_reducible refine wpL_stop (o := ⟨_, .convert 23 9 _, _, _, _, none⟩) ?_) | (with_reducible refine wpL_stop (o := ⟨_, .convert 9 23 _, _, _, _, none⟩) ?_) | (with_reducible refine wpL_stop (o := ⟨_, .call { callee := .builtin .copy, args := _, argTypes := _ }, _, _, _, none⟩) ?_) | (with_reducible refine wpL_stop (o := ⟨_, .call { callee := .builtin .append, args := _, argTypes := _ }, _, _, _, none⟩) ?_) | (with_reducible refine wpL_stop (o := ⟨_, .call { callee := .builtin .clear, args := _, argTypes := _ }, _, _, _, none⟩) ?_) | (with_reducible refine wpL_stop (o := ⟨_, .makeSlice _ _ _, _, _, _, none⟩) ?_) | (with_reducible refine wpL_stop (o := ⟨_, .makeMap _ _, _, _, _, none⟩) ?_) | (with_reducible refine wpL_stop (o := ⟨_, .entry _, _, _, _, none⟩) ?_) | (with_reducible refine wpL_stop (o := ⟨_, .call { callee := .builtin .max, args := _, argTypes := _ }, _, _, _, none⟩) ?_) | (with_reducible refine wpL_stop (o := ⟨_, .call { callee := .builtin .min, args := _, argTypes := _ }, _, _, _, none⟩) ?_) | (with_reducible refine wpL_stop (o := ⟨_, .slice 59 _ none (some _) none, _, _, _, none⟩) ?_) | (with_reducible refine wpL_stop (o := ⟨_, .binOp .add 9 _ _ _, _, _, _, none⟩) ?_) | (with_reducible refine wpL_stop (o := ⟨_, .slice 9 _ _ _ _, _, _, _, none⟩) ?_))
        refine (pBytes_calls m 4 (by omega) _).mono ?_
        rintro e w4 ⟨rfl, f4⟩
        go_wp2_with (first | (with_reducible refine wpL_stop (o := ⟨_, .alloc 59, _, _, _, none⟩) ?_) | (with_reducible refine wpL_stop (o := ⟨_, .load 59 _, _, _, _, none⟩) ?_) | (with_reducible refine wpL_stop (o := ⟨_, .store 59 _ _, _, _, _, none⟩) ?_) | (with_reducible refine wpL_stop (o := ⟨_, .lookup _ _ _ _, _, _, _, none⟩) ?_) | (with_reducible refine wpL_stop (o := ⟨_, .box 59 _, _, _, _, none⟩) ?_) | (with_reducible refine wpL_stop (o := ⟨_, .next _ _, _, _, _, none⟩) ?_) | (with_reducible refine wpL_stop (o := ⟨_, .range _ _, _, _, _, none⟩) ?_) | (with_reducible refine wpL_stop (o := ⟨_, .mapUpdate _ _ _ _, _, _, _, none⟩) ?_) | (with_reducible refine wpL_stop (o := ⟨_, .convert 23 9 _, _, _, _, none⟩) ?_) | (with_reducible refine wpL_stop (o := ⟨_, .convert 9 23 _, _, _, _, none⟩) ?_) | (with_reducible refine wpL_stop (o := ⟨_, .call { callee := .builtin .copy, args := _, argTypes := _ }, _, _, _, none⟩) ?_) | (with_reducible refine wpL_stop (o := ⟨_, .call { callee := .builtin .append, args := _, argTypes := _ }, _, _, _, none⟩) ?_) | (with_reducible refine wpL_stop (o := ⟨_, .call { callee := .builtin .clear, args := _, argTypes := _ }, _, _, _, none⟩) ?_) | (with_reducible refine wpL_stop (o := ⟨_, .makeSlice _ _ _, _, _, _, none⟩) ?_) | (with_reducible refine wpL_stop (o := ⟨_, .makeMap _ _, _, _, _, none⟩) ?_) | (with_reducible refine wpL_stop (o := ⟨_, .entry _, _, _, _, none⟩) ?_) | (with_reducible refine wpL_stop (o := ⟨_, .call { callee := .builtin .max, args := _, argTypes := _ }, _, _, _, none⟩) ?_) | (with_reducible refine wpL_stop (o := ⟨_, .call { callee := .builtin .min, args := _, argTypes := _ }, _, _, _, none⟩) ?_) | (with_reducible refine wpL_stop (o := ⟨_, .slice 59 _ none (some _) none, _, _, _, none⟩) ?_) | (with_reducible refine wpL_stop (o := ⟨_, .binOp .add 9 _ _ _, _, _, _, none⟩) ?_) | (with_reducible refine wpL_stop (o := ⟨_, .slice 9 _ _ _ _, _, _, _, none⟩) ?_))
        refine unhold (wpL_cat rfl _ _ _ _ rfl ((le 4 m ++ data) ++ le 4 (crc (le 4 m ++ data))) (le 4 m) rfl rfl (by rw [List.length_append, List.length_append]; omega) ?_)
        go_wp2
        go_ret
        exact ⟨ret_str (by simp only [List.append_assoc]), ((f1.trans f2).trans f3).trans f4⟩
      · rw [sealed_bad (.inr (.inr h3))]
        have h3' : ((data.length : Int) == 116) = false := beq_eq_false_iff_ne.2 (by omega)
        have h3'' : ((data.length : Int) != 116) = true := by rw [bne_iff_ne]; omega
        clear h3
        go_enter Tryz.func61, Tryz.ntmps61
        go_wp2
        go_ret
        exact ⟨rfl, Fr.refl _ _⟩
set_option maxRecDepth 100000 in
theorem pUnseal_calls (page : Bytes) (hp : page.length ≤ 1000) (w : World) : Calls Tryz.prog 37 #[str page] w fun e w' =>
    e = .returned (.tuple #[.int .i64 (unsealed page).n, str (unsealed page).data, .bool (unsealed page).ok]) ∧ Fr [] w w' := by
  by_cases hl : page.length = 128
  · have R : unsealed page = if page ≠ sealed (num (page.take 4)) ((page.drop 4).take 116) ∧ page ≠ zeros 128 then ⟨0, [], false⟩ else ⟨num (page.take 4), (page.drop 4).take 116, true⟩ := by simp [unsealed, hl]
    rw [R]
    clear R
    by_cases h1 : page = sealed (num (page.take 4)) ((page.drop 4).take 116)
    · rw [if_neg (by simp [← h1])]
      have H1 := Lib.hid h1
      clear h1
      have e1 : (page.take 120).drop 4 = (page.drop 4).take 116 := by rw [List.drop_take]
      go_enter Tryz.func37, Tryz.ntmps37
      go_wp2_with fail
      refine wp_region_still_lit (by kernel_rfl) (by kernel_rfl) ?_
      still_step
      refine wpStill_val rfl (run_strTo _ _ _ rfl Tryz.underlying9 page rfl 4 rfl (by omega)) ?_
      still_call (pnum_calls (page.take 4) (by rw [List.length_take]; omega) _).mono (fun e w' h => ⟨h.1, h.2.symm⟩)
      still_step
      refine wpStill_val rfl (run_strMid _ _ _ _ rfl Tryz.underlying9 page rfl 4 120 rfl rfl (by omega) (by omega)) ?_
      repeat still_step
      refine wpStill_nil ?_
      clear e1
      go_wp2_with fail
      refine (pSeal_calls _ _ _).mono ?_
      rintro e w1 ⟨rfl, f1⟩
      go_wp2_with (first | (with_reducible refine wpL_stop (o := ⟨_, .binOp .neq 9 _ _ _, _, _, _, _⟩) ?_) | (with_reducible refine wpL_stop (o := ⟨_, .binOp .eql 9 _ _ _, _, _, _, _⟩) ?_))
      refine unhold (wpL_val rfl (run_strNe _ _ _ _ rfl page _ rfl rfl false (by simpa using H1.out)) ?_)
      go_wp2_with fail
      go_ret3
      exact ⟨rfl, (Fr.refl [] w).drew.trans f1⟩
    · by_cases h2 : page = zeros 128
      · rw [if_neg (by simp [h2])]
        have H1 := Lib.hid h1
        have H2 := Lib.hid h2
        clear h1 h2
        have e1 : (page.take 120).drop 4 = (page.drop 4).take 116 := by rw [List.drop_take]
        go_enter Tryz.func37, Tryz.ntmps37
        go_wp2_with fail
        refine wp_region_still_lit (by kernel_rfl) (by kernel_rfl) ?_
        still_step
        refine wpStill_val rfl (run_strTo _ _ _ rfl Tryz.underlying9 page rfl 4 rfl (by omega)) ?_
        still_call (pnum_calls (page.take 4) (by rw [List.length_take]; omega) _).mono (fun e w' h => ⟨h.1, h.2.symm⟩)
        still_step
        refine wpStill_val rfl (run_strMid _ _ _ _ rfl Tryz.underlying9 page rfl 4 120 rfl rfl (by omega) (by omega)) ?_
        repeat still_step
        refine wpStill_nil ?_
        clear e1
        go_wp2_with fail
        refine (pSeal_calls _ _ _).mono ?_
        rintro e w1 ⟨rfl, f1⟩
        go_wp2_with (first | (with_reducible refine wpL_stop (o := ⟨_, .binOp .neq 9 _ _ _, _, _, _, _⟩) ?_) | (with_reducible refine wpL_stop (o := ⟨_, .binOp .eql 9 _ _ _, _, _, _, _⟩) ?_))
        refine unhold (wpL_val rfl (run_strNe _ _ _ _ rfl page _ rfl rfl true (by simpa using H1.out)) ?_)
        go_wp2_with fail
        refine (pBlank_calls 128 (by omega) (by omega) _).mono ?_
        rintro e w2 ⟨rfl, f2⟩
        go_wp2_with (first | (with_reducible refine wpL_stop (o := ⟨_, .binOp .neq 9 _ _ _, _, _, _, _⟩) ?_) | (with_reducible refine wpL_stop (o := ⟨_, .binOp .eql 9 _ _ _, _, _, _, _⟩) ?_))
        refine unhold (wpL_valg rfl (run_strNe _ _ _ _ rfl page _ rfl rfl false (by simpa using H2.out)) ?_)
        go_wp2_with fail
        go_ret3
        exact ⟨rfl, ((Fr.refl [] w).drew.trans f1).trans f2⟩
      · rw [if_pos ⟨h1, h2⟩]
        have H1 := Lib.hid h1
        have H2 := Lib.hid h2
        clear h1 h2
        have e1 : (page.take 120).drop 4 = (page.drop 4).take 116 := by rw [List.drop_take]
        go_enter Tryz.func37, Tryz.ntmps37
        go_wp2_with fail
        refine wp_region_still_lit (by kernel_rfl) (by kernel_rfl) ?_
        still_step
        refine wpStill_val rfl (run_strTo _ _ _ rfl Tryz.underlying9 page rfl 4 rfl (by omega)) ?_
        still_call (pnum_calls (page.take 4) (by rw [List.length_take]; omega) _).mono (fun e w' h => ⟨h.1, h.2.symm⟩)
        still_step
        refine wpStill_val rfl (run_strMid _ _ _ _ rfl Tryz.underlying9 page rfl 4 120 rfl rfl (by omega) (by omega)) ?_
        repeat still_step
        refine wpStill_nil ?_
        clear e1
        go_wp2_with fail
        refine (pSeal_calls _ _ _).mono ?_
        rintro e w1 ⟨rfl, f1⟩
        go_wp2_with (first | (with_reducible refine wpL_stop (o := ⟨_, .binOp .neq 9 _ _ _, _, _, _, _⟩) ?_) | (with_reducible refine wpL_stop (o := ⟨_, .binOp .eql 9 _ _ _, _, _, _, _⟩) ?_))
        refine unhold (wpL_val rfl (run_strNe _ _ _ _ rfl page _ rfl rfl true (by simpa using H1.out)) ?_)
        go_wp2_with fail
        refine (pBlank_calls 128 (by omega) (by omega) _).mono ?_
        rintro e w2 ⟨rfl, f2⟩
        go_wp2_with (first | (with_reducible refine wpL_stop (o := ⟨_, .binOp .neq 9 _ _ _, _, _, _, _⟩) ?_) | (with_reducible refine wpL_stop (o := ⟨_, .binOp .eql 9 _ _ _, _, _, _, _⟩) ?_))
        refine unhold (wpL_valg rfl (run_strNe _ _ _ _ rfl page _ rfl rfl true (by simpa using H2.out)) ?_)
        go_wp2_with fail
        go_ret3
        exact ⟨rfl, ((Fr.refl [] w).drew.trans f1).trans f2⟩
  · have R : unsealed page = ⟨0, [], false⟩ := by simp [unsealed, hl]
    rw [R]
    have h3' : ((page.length : Int) == 128) = false := beq_eq_false_iff_ne.2 (by omega)
    have h3'' : ((page.length : Int) != 128) = true := by rw [bne_iff_ne]; omega
    clear R hl
    go_enter Tryz.func37, Tryz.ntmps37
    go_wp2_with fail
    go_ret3
    exact ⟨rfl, Fr.refl _ _⟩
end Go.Proofs.YtcnhlemenpgkbaaGreatDoor
