/- The specification's checksum, sealing and unsealing. -/
import Derived.Test.YtpoagpaglocpeaaGreatRef6
namespace Go.Proofs.YtpoagpaglocpeaaGreat
set_option linter.unusedSimpArgs false
set_option linter.unusedVariables false
set_option linter.unnecessarySimpa false
open Go.RowKit M

theorem crc_not (c : Nat) (h : c < 4294967296) : 4294967295 - (c : Int) = ((c ^^^ 4294967295 : Nat) : Int) := by
  have h1 : (BitVec.ofNat 32 c ^^^ BitVec.allOnes 32).toNat = c ^^^ 4294967295 := by
    rw [BitVec.toNat_xor, BitVec.toNat_ofNat, BitVec.toNat_allOnes, Nat.mod_eq_of_lt (by simpa using h)]
  have h2 : (BitVec.ofNat 32 c ^^^ BitVec.allOnes 32).toNat = 4294967295 - c := by
    rw [BitVec.xor_allOnes, BitVec.toNat_not, BitVec.toNat_ofNat, Nat.mod_eq_of_lt (by simpa using h)]
  rw [← h1, h2]
  omega

theorem rCrc_calls (s : Bytes) (hs : s.length ≤ 1000000) (w : World) : Calls Tryz.prog 180 #[str s] w fun e w' => e = .returned (.int .i64 (crc s)) ∧ w = w' := by
  go_enter Tryz.func180, Tryz.ntmps180
  go_wp2_with fail
  go_loop [3, 4] (fun c i => ∃ n : Nat, i = .int .i64 n ∧ n ≤ s.length ∧ c = .int .i64 (crcFold 4294967295 (s.take n) : Nat)) (fun _ i => s.length - (intOf i).toNat)
  case atStart => exact ⟨0, rfl, by omega, rfl⟩
  case round =>
    obtain ⟨n, rfl, hn, rfl⟩ := hrel
    by_cases hlt : n < s.length
    · have hc := crcFold_lt (s.take n) (c := 4294967295) (by decide)
      have hsn : crcFold 4294967295 (s.take (n + 1)) = crcByte (crcFold 4294967295 (s.take n)) s[n] := by rw [List.take_succ_eq_append_getElem hlt, crcFold_snoc]
      generalize crcFold 4294967295 (s.take n) = c at hc hsn ⊢
      have hlt' : (n : Int) < (s.length : Int) := by omega
      have hat := str_at s n hlt
      have HSN := Lib.hid hsn
      clear hsn
      generalize s[n] = b at hat HSN
      have hb : b.toNat < 256 := b.toNat_lt
      have hx : bits .xor .i64 (c : Int) (b.toNat : Int) = ((c ^^^ b.toNat : Nat) : Int) := i64_xor _ _ (by omega) (by omega)
      have hw : wrap64 (b.toNat : Int) = b.toNat := IntWalk.wrap64_in _ (by omega)
      go_wp2_with fail
      go_loop [3, 5] (fun c' j => ∃ m : Nat, j = .int .i64 m ∧ m ≤ 8 ∧ c' = .int .i64 (crcBits m (c ^^^ b.toNat) : Nat)) (fun _ j => 8 - (intOf j).toNat)
      case atStart => exact ⟨0, rfl, by omega, rfl⟩
      case round =>
        obtain ⟨m, rfl, hm, rfl⟩ := hrel
        by_cases hlt2 : m < 8
        · have hc2 := crcBits_lt m (Nat.xor_lt_two_pow (n := 32) hc (show b.toNat < 2 ^ 32 by omega))
          have hs2 := crcBits_succ m (c ^^^ b.toNat)
          generalize crcBits m (c ^^^ b.toNat) = c2 at hc2 hs2 ⊢
          have hlt2' : (m : Int) < 8 := by omega
          have HS2 := Lib.hid hs2
          have htm : Int.tmod (c2 : Int) 2 = ((c2 % 2 : Nat) : Int) := by rw [Int.tmod_eq_emod_of_nonneg (by omega)]; omega
          clear hs2
          have hcb : (c2 : Int) / 2 = ((c2 / 2 : Nat) : Int) := by omega
          by_cases ho : c2 % 2 = 1
          · have h1 : Int.tmod (c2 : Int) 2 = 1 := by rw [htm, ho]; rfl
            have h2 : bits .xor .i64 ((c2 : Int) / 2) 3988292384 = ((crcBit c2 : Nat) : Int) := by
              rw [hcb]
              unfold crcBit
              rw [if_pos ho]
              exact i64_xor _ 3988292384 (by omega) (by omega)
            clear htm ho hcb
            go_wp2
            exact ⟨⟨m + 1, by go_num, by omega, by rw [HS2.out]⟩, by simp [intOf]; omega⟩
          · have h1 : Int.tmod (c2 : Int) 2 = 0 := by rw [htm]; omega
            have h2 : (c2 : Int) / 2 = ((crcBit c2 : Nat) : Int) := by
              rw [hcb]
              unfold crcBit
              rw [if_neg ho]
            clear htm ho hcb
            go_wp2
            exact ⟨⟨m + 1, by go_num, by omega, by rw [HS2.out]⟩, by simp [intOf]; omega⟩
        · obtain rfl : m = 8 := by omega
          have he : crcBits 8 (c ^^^ b.toNat) = crcByte c b := rfl
          rw [he, ← HSN.out]
          go_wp2
          exact ⟨⟨n + 1, by go_num, by omega, rfl⟩, by simp [intOf]; omega⟩
    · obtain rfl : n = s.length := by omega
      rw [List.take_length]
      have hc := crcFold_lt s (c := 4294967295) (by decide)
      have hx : 4294967295 - ((crcFold 4294967295 s : Nat) : Int) = ((crc s : Nat) : Int) := crc_not _ hc
      have HX := Lib.hid hx
      clear hx
      generalize crcFold 4294967295 s = c at HX hc
      go_wp2
      go_ret
      exact ⟨ret_int HX.out, rfl⟩

theorem four_le (n : Nat) : [UInt8.ofNat n, UInt8.ofNat (n / 256), UInt8.ofNat (n / 256 / 256), UInt8.ofNat (n / 256 / 256 / 256)] = le 4 n := rfl
theorem byte_mod (n : Nat) : ((n : Int) % 256) = ((UInt8.ofNat n).toNat : Int) := by
  rw [UInt8.toNat_ofNat', Int.natCast_emod]
  rfl

theorem rFour_calls (n : Nat) (w : World) : Calls Tryz.prog 179 #[.int .i64 n] w fun e w' => e = .returned (str (le 4 n)) ∧ Fr [] w w' := by
  have e0 := byte_mod n
  have e1 : ((n : Int) / 256 % 256) = ((UInt8.ofNat (n / 256)).toNat : Int) := by rw [← byte_mod]; omega
  have e2 : ((n : Int) / 65536 % 256) = ((UInt8.ofNat (n / 256 / 256)).toNat : Int) := by rw [← byte_mod]; omega
  have e3 : ((n : Int) / 16777216 % 256) = ((UInt8.ofNat (n / 256 / 256 / 256)).toNat : Int) := by rw [← byte_mod]; omega
  have H0 := Lib.hid e0
  have H1 := Lib.hid e1
  have H2 := Lib.hid e2
  have H3 := Lib.hid e3
  clear e0 e1 e2 e3
  go_enter Tryz.func179, Tryz.ntmps179
  go_wp2_with (first | (with_reducible refine wpL_stop (o := ⟨_, .alloc 177, _, _, _, none⟩) ?_) | (with_reducible refine wpL_stop (o := ⟨_, .load 177 _, _, _, _, none⟩) ?_) | (with_reducible refine wpL_stop (o := ⟨_, .store 177 _ _, _, _, _, none⟩) ?_) | (with_reducible refine wpL_stop (o := ⟨_, .lookup _ _ _ _, _, _, _, none⟩) ?_) | (with_reducible refine wpL_stop (o := ⟨_, .box 177 _, _, _, _, none⟩) ?_) | (with_reducible refine wpL_stop (o := ⟨_, .next _ _, _, _, _, none⟩) ?_) | (with_reducible refine wpL_stop (o := ⟨_, .range _ _, _, _, _, none⟩) ?_) | (with_reducible refine wpL_stop (o := ⟨_, .mapUpdate _ _ _ _, _, _, _, none⟩) ?_) | (with_reducible refine wpL_stop (o := ⟨_, .convert 175 9 _, _, _, _, none⟩) ?_) | (with_reducible refine wpL_stop (o := ⟨_, .convert 9 175 _, _, _, _, none⟩) ?_) | (with_reducible refine wpL_stop (o := ⟨_, .call { callee := .builtin .copy, args := _, argTypes := _ }, _, _, _, none⟩) ?_) | (with_reducible refine wpL_stop (o := ⟨_, .call { callee := .builtin .append, args := _, argTypes := _ }, _, _, _, none⟩) ?_) | (with_reducible refine wpL_stop (o := ⟨_, .call { callee := .builtin .clear, args := _, argTypes := _ }, _, _, _, none⟩) ?_) | (with_reducible refine wpL_stop (o := ⟨_, .makeSlice _ _ _, _, _, _, none⟩) ?_) | (with_reducible refine wpL_stop (o := ⟨_, .makeMap _ _, _, _, _, none⟩) ?_) | (with_reducible refine wpL_stop (o := ⟨_, .entry _, _, _, _, none⟩) ?_) | (with_reducible refine wpL_stop (o := ⟨_, .call { callee := .builtin .max, args := _, argTypes := _ }, _, _, _, none⟩) ?_) | (with_reducible refine wpL_stop (o := ⟨_, .call { callee := .builtin .min, args := _, argTypes := _ }, _, _, _, none⟩) ?_) | (with_reducible refine wpL_stop (o := ⟨_, .slice 177 _ none (some _) none, _, _, _, none⟩) ?_) | (with_reducible refine wpL_stop (o := ⟨_, .binOp .add 9 _ _ _, _, _, _, none⟩) ?_) | (with_reducible refine wpL_stop (o := ⟨_, .slice 9 _ _ _ _, _, _, _, none⟩) ?_))
  rw [H0.out, H1.out, H2.out, H3.out]
  have hg := heap_alloc_new w (.cells (cellsOf (le 4 n)).toArray 5)
  have hf : Fr [] w (w.alloc (.cells (cellsOf (le 4 n)).toArray 5)) := (Fr.refl _ _).alloc _
  refine unhold (wpL_text rfl _ _ _ rfl 5 Tryz.underlying175 Tryz.underlying5 Tryz.underlying9 w.heap.size 0 4 4 rfl _ _ _ (le 4 n) hg (le_length _ _) (by intro j hj; simp) ?_)
  go_wp2
  go_ret
  exact ⟨rfl, hf⟩

theorem rBlank_calls (w : World) : Calls Tryz.prog 153 #[] w fun e w' => e = .returned (str (zeros 128)) ∧ Fr [] w w' := by
  go_enter Tryz.func153, Tryz.ntmps153
  go_wp2_with (first | (with_reducible refine wpL_stop (o := ⟨_, .alloc 177, _, _, _, none⟩) ?_) | (with_reducible refine wpL_stop (o := ⟨_, .load 177 _, _, _, _, none⟩) ?_) | (with_reducible refine wpL_stop (o := ⟨_, .store 177 _ _, _, _, _, none⟩) ?_) | (with_reducible refine wpL_stop (o := ⟨_, .lookup _ _ _ _, _, _, _, none⟩) ?_) | (with_reducible refine wpL_stop (o := ⟨_, .box 177 _, _, _, _, none⟩) ?_) | (with_reducible refine wpL_stop (o := ⟨_, .next _ _, _, _, _, none⟩) ?_) | (with_reducible refine wpL_stop (o := ⟨_, .range _ _, _, _, _, none⟩) ?_) | (with_reducible refine wpL_stop (o := ⟨_, .mapUpdate _ _ _ _, _, _, _, none⟩) ?_) | (with_reducible refine wpL_stop (o := ⟨_, .convert 175 9 _, _, _, _, none⟩) ?_) | (with_reducible refine wpL_stop (o := ⟨_, .convert 9 175 _, _, _, _, none⟩) ?_) | (with_reducible refine wpL_stop (o := ⟨_, .call { callee := .builtin .copy, args := _, argTypes := _ }, _, _, _, none⟩) ?_) | (with_reducible refine wpL_stop (o := ⟨_, .call { callee := .builtin .append, args := _, argTypes := _ }, _, _, _, none⟩) ?_) | (with_reducible refine wpL_stop (o := ⟨_, .call { callee := .builtin .clear, args := _, argTypes := _ }, _, _, _, none⟩) ?_) | (with_reducible refine wpL_stop (o := ⟨_, .makeSlice _ _ _, _, _, _, none⟩) ?_) | (with_reducible refine wpL_stop (o := ⟨_, .makeMap _ _, _, _, _, none⟩) ?_) | (with_reducible refine wpL_stop (o := ⟨_, .entry _, _, _, _, none⟩) ?_) | (with_reducible refine wpL_stop (o := ⟨_, .call { callee := .builtin .max, args := _, argTypes := _ }, _, _, _, none⟩) ?_) | (with_reducible refine wpL_stop (o := ⟨_, .call { callee := .builtin .min, args := _, argTypes := _ }, _, _, _, none⟩) ?_) | (with_reducible refine wpL_stop (o := ⟨_, .slice 177 _ none (some _) none, _, _, _, none⟩) ?_) | (with_reducible refine wpL_stop (o := ⟨_, .binOp .add 9 _ _ _, _, _, _, none⟩) ?_) | (with_reducible refine wpL_stop (o := ⟨_, .slice 9 _ _ _ _, _, _, _, none⟩) ?_))
  refine unhold (wpL_makeBytes rfl _ _ rfl 128 (by omega) rfl rfl ?_)
  intro w1 g1 f1 s1
  go_wp2_with (first | (with_reducible refine wpL_stop (o := ⟨_, .alloc 177, _, _, _, none⟩) ?_) | (with_reducible refine wpL_stop (o := ⟨_, .load 177 _, _, _, _, none⟩) ?_) | (with_reducible refine wpL_stop (o := ⟨_, .store 177 _ _, _, _, _, none⟩) ?_) | (with_reducible refine wpL_stop (o := ⟨_, .lookup _ _ _ _, _, _, _, none⟩) ?_) | (with_reducible refine wpL_stop (o := ⟨_, .box 177 _, _, _, _, none⟩) ?_) | (with_reducible refine wpL_stop (o := ⟨_, .next _ _, _, _, _, none⟩) ?_) | (with_reducible refine wpL_stop (o := ⟨_, .range _ _, _, _, _, none⟩) ?_) | (with_reducible refine wpL_stop (o := ⟨_, .mapUpdate _ _ _ _, _, _, _, none⟩) ?_) | (with_reducible refine wpL_stop (o := ⟨_, .convert 175 9 _, _, _, _, none⟩) ?_) | (with_reducible refine wpL_stop (o := ⟨_, .convert 9 175 _, _, _, _, none⟩) ?_) | (with_reducible refine wpL_stop (o := ⟨_, .call { callee := .builtin .copy, args := _, argTypes := _ }, _, _, _, none⟩) ?_) | (with_reducible refine wpL_stop (o := ⟨_, .call { callee := .builtin .append, args := _, argTypes := _ }, _, _, _, none⟩) ?_) | (with_reducible refine wpL_stop (o := ⟨_, .call { callee := .builtin .clear, args := _, argTypes := _ }, _, _, _, none⟩) ?_) | (with_reducible refine wpL_stop (o := ⟨_, .makeSlice _ _ _, _, _, _, none⟩) ?_) | (with_reducible refine wpL_stop (o := ⟨_, .makeMap _ _, _, _, _, none⟩) ?_) | (with_reducible refine wpL_stop (o := ⟨_, .entry _, _, _, _, none⟩) ?_) | (with_reducible refine wpL_stop (o := ⟨_, .call { callee := .builtin .max, args := _, argTypes := _ }, _, _, _, none⟩) ?_) | (with_reducible refine wpL_stop (o := ⟨_, .call { callee := .builtin .min, args := _, argTypes := _ }, _, _, _, none⟩) ?_) | (with_reducible refine wpL_stop (o := ⟨_, .slice 177 _ none (some _) none, _, _, _, none⟩) ?_) | (with_reducible refine wpL_stop (o := ⟨_, .binOp .add 9 _ _ _, _, _, _, none⟩) ?_) | (with_reducible refine wpL_stop (o := ⟨_, .slice 9 _ _ _ _, _, _, _, none⟩) ?_))
  refine unhold (wpL_text rfl _ _ _ rfl 5 Tryz.underlying175 Tryz.underlying5 Tryz.underlying9 w.heap.size 0 128 128 rfl _ _ _ (zeros 128) g1 (by simp [zeros]) (by intro j hj; simp) ?_)
  go_wp2_with (first | (with_reducible refine wpL_stop (o := ⟨_, .alloc 177, _, _, _, none⟩) ?_) | (with_reducible refine wpL_stop (o := ⟨_, .load 177 _, _, _, _, none⟩) ?_) | (with_reducible refine wpL_stop (o := ⟨_, .store 177 _ _, _, _, _, none⟩) ?_) | (with_reducible refine wpL_stop (o := ⟨_, .lookup _ _ _ _, _, _, _, none⟩) ?_) | (with_reducible refine wpL_stop (o := ⟨_, .box 177 _, _, _, _, none⟩) ?_) | (with_reducible refine wpL_stop (o := ⟨_, .next _ _, _, _, _, none⟩) ?_) | (with_reducible refine wpL_stop (o := ⟨_, .range _ _, _, _, _, none⟩) ?_) | (with_reducible refine wpL_stop (o := ⟨_, .mapUpdate _ _ _ _, _, _, _, none⟩) ?_) | (with_reducible refine wpL_stop (o := ⟨_, .convert 175 9 _, _, _, _, none⟩) ?_) | (with_reducible refine wpL_stop (o := ⟨_, .convert 9 175 _, _, _, _, none⟩) ?_) | (with_reducible refine wpL_stop (o := ⟨_, .call { callee := .builtin .copy, args := _, argTypes := _ }, _, _, _, none⟩) ?_) | (with_reducible refine wpL_stop (o := ⟨_, .call { callee := .builtin .append, args := _, argTypes := _ }, _, _, _, none⟩) ?_) | (with_reducible refine wpL_stop (o := ⟨_, .call { callee := .builtin .clear, args := _, argTypes := _ }, _, _, _, none⟩) ?_) | (with_reducible refine wpL_stop (o := ⟨_, .makeSlice _ _ _, _, _, _, none⟩) ?_) | (with_reducible refine wpL_stop (o := ⟨_, .makeMap _ _, _, _, _, none⟩) ?_) | (with_reducible refine wpL_stop (o := ⟨_, .entry _, _, _, _, none⟩) ?_) | (with_reducible refine wpL_stop (o := ⟨_, .call { callee := .builtin .max, args := _, argTypes := _ }, _, _, _, none⟩) ?_) | (with_reducible refine wpL_stop (o := ⟨_, .call { callee := .builtin .min, args := _, argTypes := _ }, _, _, _, none⟩) ?_) | (with_reducible refine wpL_stop (o := ⟨_, .slice 177 _ none (some _) none, _, _, _, none⟩) ?_) | (with_reducible refine wpL_stop (o := ⟨_, .binOp .add 9 _ _ _, _, _, _, none⟩) ?_) | (with_reducible refine wpL_stop (o := ⟨_, .slice 9 _ _ _ _, _, _, _, none⟩) ?_))
  go_ret
  exact ⟨rfl, f1⟩

theorem rSeal_calls (n : Int) (data : Bytes) (w : World) : Calls Tryz.prog 154 #[.int .i64 n, str data] w fun e w' => e = .returned (str (sealed n data)) ∧ Fr [] w w' := by
  by_cases h1 : n < 1
  · rw [sealed_bad (.inl h1)]
    go_enter Tryz.func154, Tryz.ntmps154
    go_wp2
    go_ret
    exact ⟨rfl, Fr.refl _ _⟩
  · by_cases h2 : 1073741824 < n
    · rw [sealed_bad (.inr (.inl h2))]
      go_enter Tryz.func154, Tryz.ntmps154
      go_wp2
      go_ret
      exact ⟨rfl, Fr.refl _ _⟩
    · by_cases h3 : data.length = 116
      · obtain ⟨m, rfl⟩ := Int.eq_ofNat_of_zero_le (show 0 ≤ n by omega)
        rw [sealed_ok (by omega) (by omega) h3]
        go_enter Tryz.func154, Tryz.ntmps154
        have hl := le_length 4 m
        have hl2 := le_length 4 (crc (le 4 m ++ data))
        go_wp2_with fail
        refine (rFour_calls m _).mono ?_
        rintro e w1 ⟨rfl, f1⟩
        go_wp2_with (first | (with_reducible refine wpL_stop (o := ⟨_, .alloc 177, _, _, _, none⟩) ?_) | (with_reducible refine wpL_stop (o := ⟨_, .load 177 _, _, _, _, none⟩) ?_) | (with_reducible refine wpL_stop (o := ⟨_, .store 177 _ _, _, _, _, none⟩) ?_) | (with_reducible refine wpL_stop (o := ⟨_, .lookup _ _ _ _, _, _, _, none⟩) ?_) | (with_reducible refine wpL_stop (o := ⟨_, .box 177 _, _, _, _, none⟩) ?_) | (with_reducible refine wpL_stop (o := ⟨_, .next _ _, _, _, _, none⟩) ?_) | (with_reducible refine wpL_stop (o := ⟨_, .range _ _, _, _, _, none⟩) ?_) | (with_reducible refine wpL_stop (o := ⟨_, .mapUpdate _ _ _ _, _, _, _, none⟩) ?_) | (with_reducible refine wpL_stop (o := ⟨_, .convert 175 9 _, _, _, _, none⟩) ?_) | (with_reducible refine wpL_stop (o := ⟨_, .convert 9 175 _, _, _, _, none⟩) ?_) | (with_reducible refine wpL_stop (o := ⟨_, .call { callee := .builtin .copy, args := _, argTypes := _ }, _, _, _, none⟩) ?_) | (with_reducible refine wpL_stop (o := ⟨_, .call { callee := .builtin .append, args := _, argTypes := _ }, _, _, _, none⟩) ?_) | (with_reducible refine wpL_stop (o := ⟨_, .call { callee := .builtin .clear, args := _, argTypes := _ }, _, _, _, none⟩) ?_) | (with_reducible refine wpL_stop (o := ⟨_, .makeSlice _ _ _, _, _, _, none⟩) ?_) | (with_reducible refine wpL_stop (o := ⟨_, .makeMap _ _, _, _, _, none⟩) ?_) | (with_reducible refine wpL_stop (o := ⟨_, .entry _, _, _, _, none⟩) ?_) | (with_reducible refine wpL_stop (o := ⟨_, .call { callee := .builtin .max, args := _, argTypes := _ }, _, _, _, none⟩) ?_) | (with_reducible refine wpL_stop (o := ⟨_, .call { callee := .builtin .min, args := _, argTypes := _ }, _, _, _, none⟩) ?_) | (with_reducible refine wpL_stop (o := ⟨_, .slice 177 _ none (some _) none, _, _, _, none⟩) ?_) | (with_reducible refine wpL_stop (o := ⟨_, .binOp .add 9 _ _ _, _, _, _, none⟩) ?_) | (with_reducible refine wpL_stop (o := ⟨_, .slice 9 _ _ _ _, _, _, _, none⟩) ?_))
        refine unhold (wpL_cat rfl _ _ _ _ rfl (le 4 m) data rfl rfl (by omega) ?_)
        go_wp2_with (first | (with_reducible refine wpL_stop (o := ⟨_, .alloc 177, _, _, _, none⟩) ?_) | (with_reducible refine wpL_stop (o := ⟨_, .load 177 _, _, _, _, none⟩) ?_) | (with_reducible refine wpL_stop (o := ⟨_, .store 177 _ _, _, _, _, none⟩) ?_) | (with_reducible refine wpL_stop (o := ⟨_, .lookup _ _ _ _, _, _, _, none⟩) ?_) | (with_reducible refine wpL_stop (o := ⟨_, .box 177 _, _, _, _, none⟩) ?_) | (with_reducible refine wpL_stop (o := ⟨_, .next _ _, _, _, _, none⟩) ?_) | (with_reducible refine wpL_stop (o := ⟨_, .range _ _, _, _, _, none⟩) ?_) | (with_reducible refine wpL_stop (o := ⟨_, .mapUpdate _ _ _ _, _, _, _, none⟩) ?_) | (with_reducible refine wpL_stop (o := ⟨_, .convert 175 9 _, _, _, _, none⟩) ?_) | (with_reducible refine wpL_stop (o := ⟨_, .convert 9 175 _, _, _, _, none⟩) ?_) | (with_reducible refine wpL_stop (o := ⟨_, .call { callee := .builtin .copy, args := _, argTypes := _ }, _, _, _, none⟩) ?_) | (with_reducible refine wpL_stop (o := ⟨_, .call { callee := .builtin .append, args := _, argTypes := _ }, _, _, _, none⟩) ?_) | (with_reducible refine wpL_stop (o := ⟨_, .call { callee := .builtin .clear, args := _, argTypes := _ }, _, _, _, none⟩) ?_) | (with_reducible refine wpL_stop (o := ⟨_, .makeSlice _ _ _, _, _, _, none⟩) ?_) | (with_reducible refine wpL_stop (o := ⟨_, .makeMap _ _, _, _, _, none⟩) ?_) | (with_reducible refine wpL_stop (o := ⟨_, .entry _, _, _, _, none⟩) ?_) | (with_reducible refine wpL_stop (o := ⟨_, .call { callee := .builtin .max, args := _, argTypes := _ }, _, _, _, none⟩) ?_) | (with_reducible refine wpL_stop (o := ⟨_, .call { callee := .builtin .min, args := _, argTypes := _ }, _, _, _, none⟩) ?_) | (with_reducible refine wpL_stop (o := ⟨_, .slice 177 _ none (some _) none, _, _, _, none⟩) ?_) | (with_reducible refine wpL_stop (o := ⟨_, .binOp .add 9 _ _ _, _, _, _, none⟩) ?_) | (with_reducible refine wpL_stop (o := ⟨_, .slice 9 _ _ _ _, _, _, _, none⟩) ?_))
        refine (rCrc_calls (le 4 m ++ data) (by rw [List.length_append]; omega) _).mono ?_
        rintro e w2 ⟨rfl, rfl⟩
        go_wp2_with (first | (with_reducible refine wpL_stop (o := ⟨_, .alloc 177, _, _, _, none⟩) ?_) | (with_reducible refine wpL_stop (o := ⟨_, .load 177 _, _, _, _, none⟩) ?_) | (with_reducible refine wpL_stop (o := ⟨_, .store 177 _ _, _, _, _, none⟩) ?_) | (with_reducible refine wpL_stop (o := ⟨_, .lookup _ _ _ _, _, _, _, none⟩) ?_) | (with_reducible refine wpL_stop (o := ⟨_, .box 177 _, _, _, _, none⟩) ?_) | (with_reducible refine wpL_stop (o := ⟨_, .next _ _, _, _, _, none⟩) ?_) | (with_reducible refine wpL_stop (o := ⟨_, .range _ _, _, _, _, none⟩) ?_) | (with_reducible refine wpL_stop (o := ⟨_, .mapUpdate _ _ _ _, _, _, _, none⟩) ?_) | (with_reducible refine wpL_stop (o := ⟨_, .convert 175 9 _, _, _, _, none⟩) ?_) | (with_reducible refine wpL_stop (o := ⟨_, .convert 9 175 _, _, _, _, none⟩) ?_) | (with_reducible refine wpL_stop (o := ⟨_, .call { callee := .builtin .copy, args := _, argTypes := _ }, _, _, _, none⟩) ?_) | (with_reducible refine wpL_stop (o := ⟨_, .call { callee := .builtin .append, args := _, argTypes := _ }, _, _, _, none⟩) ?_) | (with_reducible refine wpL_stop (o := ⟨_, .call { callee := .builtin .clear, args := _, argTypes := _ }, _, _, _, none⟩) ?_) | (with_reducible refine wpL_stop (o := ⟨_, .makeSlice _ _ _, _, _, _, none⟩) ?_) | (with_reducible refine wpL_stop (o := ⟨_, .makeMap _ _, _, _, _, none⟩) ?_) | (with_reducible refine wpL_stop (o := ⟨_, .entry _, _, _, _, none⟩) ?_) | (with_reducible refine wpL_stop (o := ⟨_, .call { callee := .builtin .max, args := _, argTypes := _ }, _, _, _, none⟩) ?_) | (with_reducible refine wpL_stop (o := ⟨_, .call { callee := .builtin .min, args := _, argTypes := _ }, _, _, _, none⟩) ?_) | (with_reducible refine wpL_stop (o := ⟨_, .slice 177 _ none (some _) none, _, _, _, none⟩) ?_) | (with_reducible refine wpL_stop (o := ⟨_, .binOp .add 9 _ _ _, _, _, _, none⟩) ?_) | (with_reducible refine wpL_stop (o := ⟨_, .slice 9 _ _ _ _, _, _, _, none⟩) ?_))
        refine (rFour_calls (crc (le 4 m ++ data)) _).mono ?_
        rintro e w3 ⟨rfl, f3⟩
        go_wp2_with (first | (with_reducible refine wpL_stop (o := ⟨_, .alloc 177, _, _, _, none⟩) ?_) | (with_reducible refine wpL_stop (o := ⟨_, .load 177 _, _, _, _, none⟩) ?_) | (with_reducible refine wpL_stop (o := ⟨_, .store 177 _ _, _, _, _, none⟩) ?_) | (with_reducible refine wpL_stop (o := ⟨_, .lookup _ _ _ _, _, _, _, none⟩) ?_) | (with_reducible refine wpL_stop (o := ⟨_, .box 177 _, _, _, _, none⟩) ?_) | (with_reducible refine wpL_stop (o := ⟨_, .next _ _, _, _, _, none⟩) ?_) | (with_reducible refine wpL_stop (o := ⟨_, .range _ _, _, _, _, none⟩) ?_) | (with_reducible refine wpL_stop (o := ⟨_, .mapUpdate _ _ _ _, _, _, _, none⟩) ?_) | (with_reducible refine wpL_stop (o := ⟨_, .convert 175 9 _, _, _, _, none⟩) ?_) | (with_reducible refine wpL_stop (o := ⟨_, .convert 9 175 _, _, _, _, none⟩) ?_) | (with_reducible refine wpL_stop (o := ⟨_, .call { callee := .builtin .copy, args := _, argTypes := _ }, _, _, _, none⟩) ?_) | (with_reducible refine wpL_stop (o := ⟨_, .call { callee := .builtin .append, args := _, argTypes := _ }, _, _, _, none⟩) ?_) | (with_reducible refine wpL_stop (o := ⟨_, .call { callee := .builtin .clear, args := _, argTypes := _ }, _, _, _, none⟩) ?_) | (with_reducible refine wpL_stop (o := ⟨_, .makeSlice _ _ _, _, _, _, none⟩) ?_) | (with_reducible refine wpL_stop (o := ⟨_, .makeMap _ _, _, _, _, none⟩) ?_) | (with_reducible refine wpL_stop (o := ⟨_, .entry _, _, _, _, none⟩) ?_) | (with_reducible refine wpL_stop (o := ⟨_, .call { callee := .builtin .max, args := _, argTypes := _ }, _, _, _, none⟩) ?_) | (with_reducible refine wpL_stop (o := ⟨_, .call { callee := .builtin .min, args := _, argTypes := _ }, _, _, _, none⟩) ?_) | (with_reducible refine wpL_stop (o := ⟨_, .slice 177 _ none (some _) none, _, _, _, none⟩) ?_) | (with_reducible refine wpL_stop (o := ⟨_, .binOp .add 9 _ _ _, _, _, _, none⟩) ?_) | (with_reducible refine wpL_stop (o := ⟨_, .slice 9 _ _ _ _, _, _, _, none⟩) ?_))
        refine unhold (wpL_cat rfl _ _ _ _ rfl (le 4 m ++ data) (le 4 (crc (le 4 m ++ data))) rfl rfl (by rw [List.length_append]; omega) ?_)
        go_wp2_with (first | (with_reducible refine wpL_stop (o := ⟨_, .alloc 177, _, _, _, none⟩) ?_) | (with_reducible refine wpL_stop (o := ⟨_, .load 177 _, _, _, _, none⟩) ?_) | (with_reducible refine wpL_stop (o := ⟨_, .store 177 _ _, _, _, _, none⟩) ?_) | (with_reducible refine wpL_stop (o := ⟨_, .lookup _ _ _ _, _, _, _, none⟩) ?_) | (with_reducible refine wpL_stop (o := ⟨_, .box 177 _, _, _, _, none⟩) ?_) | (with_reducible refine wpL_stop (o := ⟨_, .next _ _, _, _, _, none⟩) ?_) | (with_reducible refine wpL_stop (o := ⟨_, .range _ _, _, _, _, none⟩) ?_) | (with_reducible refine wpL_stop (o := ⟨_, .mapUpdate _ _ _ _, _, _, _, none⟩) ?_) | (with_reducible refine wpL_stop (o := ⟨_, .convert 175 9 _, _, _, _, none⟩) ?_) | (with_reducible refine wpL_stop (o := ⟨_, .convert 9 175 _, _, _, _, none⟩) ?_) | (with_reducible refine wpL_stop (o := ⟨_, .call { callee := .builtin .copy, args := _, argTypes := _ }, _, _, _, none⟩) ?_) | (with_reducible refine wpL_stop (o := ⟨_, .call { callee := .builtin .append, args := _, argTypes := _ }, _, _, _, none⟩) ?_) | (with_reducible refine wpL_stop (o := ⟨_, .call { callee := .builtin .clear, args := _, argTypes := _ }, _, _, _, none⟩) ?_) | (with_reducible refine wpL_stop (o := ⟨_, .makeSlice _ _ _, _, _, _, none⟩) ?_) | (with_reducible refine wpL_stop (o := ⟨_, .makeMap _ _, _, _, _, none⟩) ?_) | (with_reducible refine wpL_stop (o := ⟨_, .entry _, _, _, _, none⟩) ?_) | (with_reducible refine wpL_stop (o := ⟨_, .call { callee := .builtin .max, args := _, argTypes := _ }, _, _, _, none⟩) ?_) | (with_reducible refine wpL_stop (o := ⟨_, .call { callee := .builtin .min, args := _, argTypes := _ }, _, _, _, none⟩) ?_) | (with_reducible refine wpL_stop (o := ⟨_, .slice 177 _ none (some _) none, _, _, _, none⟩) ?_) | (with_reducible refine wpL_stop (o := ⟨_, .binOp .add 9 _ _ _, _, _, _, none⟩) ?_) | (with_reducible refine wpL_stop (o := ⟨_, .slice 9 _ _ _ _, _, _, _, none⟩) ?_))
        refine (rFour_calls m _).mono ?_
        rintro e w4 ⟨rfl, f4⟩
        go_wp2_with (first | (with_reducible refine wpL_stop (o := ⟨_, .alloc 177, _, _, _, none⟩) ?_) | (with_reducible refine wpL_stop (o := ⟨_, .load 177 _, _, _, _, none⟩) ?_) | (with_reducible refine wpL_stop (o := ⟨_, .store 177 _ _, _, _, _, none⟩) ?_) | (with_reducible refine wpL_stop (o := ⟨_, .lookup _ _ _ _, _, _, _, none⟩) ?_) | (with_reducible refine wpL_stop (o := ⟨_, .box 177 _, _, _, _, none⟩) ?_) | (with_reducible refine wpL_stop (o := ⟨_, .next _ _, _, _, _, none⟩) ?_) | (with_reducible refine wpL_stop (o := ⟨_, .range _ _, _, _, _, none⟩) ?_) | (with_reducible refine wpL_stop (o := ⟨_, .mapUpdate _ _ _ _, _, _, _, none⟩) ?_) | (with_reducible refine wpL_stop (o := ⟨_, .convert 175 9 _, _, _, _, none⟩) ?_) | (with_reducible refine wpL_stop (o := ⟨_, .convert 9 175 _, _, _, _, none⟩) ?_) | (with_reducible refine wpL_stop (o := ⟨_, .call { callee := .builtin .copy, args := _, argTypes := _ }, _, _, _, none⟩) ?_) | (with_reducible refine wpL_stop (o := ⟨_, .call { callee := .builtin .append, args := _, argTypes := _ }, _, _, _, none⟩) ?_) | (with_reducible refine wpL_stop (o := ⟨_, .call { callee := .builtin .clear, args := _, argTypes := _ }, _, _, _, none⟩) ?_) | (with_reducible refine wpL_stop (o := ⟨_, .makeSlice _ _ _, _, _, _, none⟩) ?_) | (with_reducible refine wpL_stop (o := ⟨_, .makeMap _ _, _, _, _, none⟩) ?_) | (with_reducible refine wpL_stop (o := ⟨_, .entry _, _, _, _, none⟩) ?_) | (with_reducible refine wpL_stop (o := ⟨_, .call { callee := .builtin .max, args := _, argTypes := _ }, _, _, _, none⟩) ?_) | (with_reducible refine wpL_stop (o := ⟨_, .call { callee := .builtin .min, args := _, argTypes := _ }, _, _, _, none⟩) ?_) | (with_reducible refine wpL_stop (o := ⟨_, .slice 177 _ none (some _) none, _, _, _, none⟩) ?_) | (with_reducible refine wpL_stop (o := ⟨_, .binOp .add 9 _ _ _, _, _, _, none⟩) ?_) | (with_reducible refine wpL_stop (o := ⟨_, .slice 9 _ _ _ _, _, _, _, none⟩) ?_))
        refine unhold (wpL_cat rfl _ _ _ _ rfl ((le 4 m ++ data) ++ le 4 (crc (le 4 m ++ data))) (le 4 m) rfl rfl (by rw [List.length_append, List.length_append]; omega) ?_)
        go_wp2
        go_ret
        exact ⟨ret_str (by simp only [List.append_assoc]), (f1.trans f3).trans f4⟩
      · rw [sealed_bad (.inr (.inr h3))]
        have h3' : ((data.length : Int) == 116) = false := beq_eq_false_iff_ne.2 (by omega)
        have h3'' : ((data.length : Int) != 116) = true := by rw [bne_iff_ne]; omega
        clear h3
        go_enter Tryz.func154, Tryz.ntmps154
        go_wp2
        go_ret
        exact ⟨rfl, Fr.refl _ _⟩

theorem num4 (s : Bytes) (h : s.length = 128) (b0 b1 b2 b3 : UInt8) (h0 : s[0]? = some b0) (h1 : s[1]? = some b1) (h2 : s[2]? = some b2) (h3 : s[3]? = some b3) : num (s.take 4) = b0.toNat + b1.toNat * 256 + b2.toNat * 65536 + b3.toNat * 16777216 := by
  match s, h with
  | a :: b :: c :: d :: r, _ =>
    simp only [List.getElem?_cons_zero, List.getElem?_cons_succ, Option.some.injEq] at h0 h1 h2 h3
    subst h0 h1 h2 h3
    simp only [List.take_succ_cons, List.take_zero, num]
    omega

theorem wsum (b0 b1 b2 b3 : Nat) (h0 : b0 < 256) (h1 : b1 < 256) (h2 : b2 < 256) (h3 : b3 < 256) : IntKind.i64.wrap (IntKind.i64.wrap (IntKind.i64.wrap (IntKind.i64.wrap (b0 : Int) + IntKind.i64.wrap (IntKind.i64.wrap (b1 : Int) * 256)) + IntKind.i64.wrap (IntKind.i64.wrap (b2 : Int) * 65536)) + IntKind.i64.wrap (IntKind.i64.wrap (b3 : Int) * 16777216)) = ((b0 + b1 * 256 + b2 * 65536 + b3 * 16777216 : Nat) : Int) := by
  have e : ∀ x : Int, 0 ≤ x → x < 9223372036854775808 → IntKind.i64.wrap x = x := fun x h h' => IntWalk.i64_in x (by omega)
  rw [e b0 (by omega) (by omega), e b1 (by omega) (by omega), e b2 (by omega) (by omega), e b3 (by omega) (by omega), e ((b1 : Int) * 256) (by omega) (by omega), e ((b2 : Int) * 65536) (by omega) (by omega), e ((b3 : Int) * 16777216) (by omega) (by omega),
    e ((b0 : Int) + b1 * 256) (by omega) (by omega), e ((b0 : Int) + b1 * 256 + b2 * 65536) (by omega) (by omega), e ((b0 : Int) + b1 * 256 + b2 * 65536 + b3 * 16777216) (by omega) (by omega)]
  omega

/-- What the specification's Unseal returns. -/
def unv (u : Un) : Value := .agg #[.int .i64 u.n, str u.data, .bool u.ok]

theorem unSize : (Tryz.prog.info? 172).map (·.size) = some 3 := by kernel_rfl

theorem set3 {w : World} {g : Nat} {a b c x y z : Value} {t : TypeId} (h : w.heap[g]? = some (.cells #[a, b, c] t (0, 0))) : (((w.setCell ⟨g, 0, none⟩ x).setCell ⟨g, 1, none⟩ y).setCell ⟨g, 2, none⟩ z).heap[g]? = some (.cells #[x, y, z] t (0, 0)) := by
  have h1 := heap_setCell_same' w g 0 _ _ x h
  have h2 := heap_setCell_same' _ g 1 _ _ y h1
  have h3 := heap_setCell_same' _ g 2 _ _ z h2
  simpa using h3
set_option maxRecDepth 100000 in
theorem rUnseal_calls (page : Bytes) (hp : page.length ≤ 1000) (w : World) : Calls Tryz.prog 107 #[str page] w fun e w' => e = .returned (unv (unsealed page)) ∧ Fr [] w w' := by
  by_cases hl : page.length = 128
  · have R : unsealed page = if page ≠ sealed (num (page.take 4)) ((page.drop 4).take 116) ∧ page ≠ zeros 128 then ⟨0, [], false⟩ else ⟨num (page.take 4), (page.drop 4).take 116, true⟩ := by simp [unsealed, hl]
    rw [R]
    clear R
    have g0 : page[0]? = some (page[0]'(by omega)) := List.getElem?_eq_getElem _
    have g1 : page[1]? = some (page[1]'(by omega)) := List.getElem?_eq_getElem _
    have g2 : page[2]? = some (page[2]'(by omega)) := List.getElem?_eq_getElem _
    have g3 : page[3]? = some (page[3]'(by omega)) := List.getElem?_eq_getElem _
    have hN := num4 page hl _ _ _ _ g0 g1 g2 g3
    have a0 := str_at page 0 (by omega)
    have a1 := str_at page 1 (by omega)
    have a2 := str_at page 2 (by omega)
    have a3 := str_at page 3 (by omega)
    generalize page[0]'(by omega) = b0 at hN a0
    generalize page[1]'(by omega) = b1 at hN a1
    generalize page[2]'(by omega) = b2 at hN a2
    generalize page[3]'(by omega) = b3 at hN a3
    have hb0 := b0.toNat_lt
    have hb1 := b1.toNat_lt
    have hb2 := b2.toNat_lt
    have hb3 := b3.toNat_lt
    clear g0 g1 g2 g3
    have HL := Lib.hid hl
    have l0 : (0 : Int) < (page.length : Int) := by omega
    have l1 : (1 : Int) < (page.length : Int) := by omega
    have l2 : (2 : Int) < (page.length : Int) := by omega
    have l3 : (3 : Int) < (page.length : Int) := by omega
    have e1 : (page.take 120).drop 4 = (page.drop 4).take 116 := by rw [List.drop_take]
    have HN := Lib.hid hN
    clear hN
    have F0 : Fr [] w (w.alloc (.cells #[.int .i64 0, .string ⟨#[]⟩, .bool false] 172)).drew := ((Fr.refl _ _).alloc _).drew
    have G0 : (w.alloc (.cells #[.int .i64 0, .string ⟨#[]⟩, .bool false] 172)).drew.heap[w.heap.size]? = some (.cells #[.int .i64 0, .string ⟨#[]⟩, .bool false] 172 (0, 0)) := heap_alloc_new w _
    have he : (⟨page.toArray⟩ : ByteArray).extract 4 120 = ⟨((page.drop 4).take 116).toArray⟩ := by rw [str_part, e1]
    clear e1
    by_cases h2 : page = zeros 128
    · rw [if_neg (by simp [h2])]
      have H2 := Lib.hid h2
      clear h2
      go_enter Tryz.func107, Tryz.ntmps107
      go_wp2_with fail
      refine wp_region_still_lit (by kernel_rfl) (by kernel_rfl) ?_
      iterate 19 still_step
      refine wpStill_nil ?_
      rw [wsum _ _ _ _ hb0 hb1 hb2 hb3, ← HN.out]
      clear a0 a1 a2 a3
      go_wp2_with fail
      refine (rBlank_calls _).mono ?_
      rintro e w1 ⟨rfl, f1⟩
      have G1 := f1.heap G0 (by simp)
      have F1 := F0.trans f1
      go_wp2_with (first | (with_reducible refine wpL_stop (o := ⟨_, .binOp .neq 9 _ _ _, _, _, _, _⟩) ?_) | (with_reducible refine wpL_stop (o := ⟨_, .binOp .eql 9 _ _ _, _, _, _, _⟩) ?_))
      refine unhold (wpL_val rfl (run_strNe _ _ _ _ rfl page _ rfl rfl false (by simpa using H2.out)) ?_)
      have k0 : w1.cell? ⟨w.heap.size, 0, none⟩ = some (.int .i64 0) := blk_cell G1 0 rfl
      have k1 : w1.cell? ⟨w.heap.size, 1, none⟩ = some (.string ⟨#[]⟩) := blk_cell G1 1 rfl
      have k2 : w1.cell? ⟨w.heap.size, 2, none⟩ = some (.bool false) := blk_cell G1 2 rfl
      have z0 := blk_free G1 0
      have z1 := blk_free G1 1
      have z2 := blk_free G1 2
      go_wp2_with fail
      exact bodyPost_row 2 172 rfl w.heap.size rfl _ [.int .i64 (num (page.take 4)), str ((page.drop 4).take 116), .bool true] _ _ (set3 G1) Tryz.underlying172 rfl unSize rfl ⟨rfl, ((F1.setCell (.inr (Nat.le_refl _)) _).setCell (.inr (Nat.le_refl _)) _).setCell (.inr (Nat.le_refl _)) _⟩
    · have H2 := Lib.hid h2
      by_cases h1 : page = sealed (num (page.take 4)) ((page.drop 4).take 116)
      · rw [if_neg (by simp [← h1])]
        have H1 := Lib.hid h1
        clear h1 h2
        go_enter Tryz.func107, Tryz.ntmps107
        go_wp2_with fail
        refine wp_region_still_lit (by kernel_rfl) (by kernel_rfl) ?_
        iterate 19 still_step
        refine wpStill_nil ?_
        rw [wsum _ _ _ _ hb0 hb1 hb2 hb3, ← HN.out]
        clear a0 a1 a2 a3
        go_wp2_with fail
        refine (rBlank_calls _).mono ?_
        rintro e w1 ⟨rfl, f1⟩
        have G1 := f1.heap G0 (by simp)
        have F1 := F0.trans f1
        go_wp2_with (first | (with_reducible refine wpL_stop (o := ⟨_, .binOp .neq 9 _ _ _, _, _, _, _⟩) ?_) | (with_reducible refine wpL_stop (o := ⟨_, .binOp .eql 9 _ _ _, _, _, _, _⟩) ?_))
        refine unhold (wpL_val rfl (run_strNe _ _ _ _ rfl page _ rfl rfl true (by simpa using H2.out)) ?_)
        go_wp2_with fail
        refine (rSeal_calls _ _ _).mono ?_
        rintro e w2 ⟨rfl, f2⟩
        have G2 := f2.heap G1 (by simp)
        have F2 := F1.trans f2
        go_wp2_with (first | (with_reducible refine wpL_stop (o := ⟨_, .binOp .neq 9 _ _ _, _, _, _, _⟩) ?_) | (with_reducible refine wpL_stop (o := ⟨_, .binOp .eql 9 _ _ _, _, _, _, _⟩) ?_))
        refine unhold (wpL_valg rfl (run_strNe _ _ _ _ rfl _ page rfl rfl false (by have := H1.out; rw [← this]; simp)) ?_)
        have k0 : w2.cell? ⟨w.heap.size, 0, none⟩ = some (.int .i64 0) := blk_cell G2 0 rfl
        have k1 : w2.cell? ⟨w.heap.size, 1, none⟩ = some (.string ⟨#[]⟩) := blk_cell G2 1 rfl
        have k2 : w2.cell? ⟨w.heap.size, 2, none⟩ = some (.bool false) := blk_cell G2 2 rfl
        have z0 := blk_free G2 0
        have z1 := blk_free G2 1
        have z2 := blk_free G2 2
        go_wp2_with fail
        exact bodyPost_row 2 172 rfl w.heap.size rfl _ [.int .i64 (num (page.take 4)), str ((page.drop 4).take 116), .bool true] _ _ (set3 G2) Tryz.underlying172 rfl unSize rfl ⟨rfl, ((F2.setCell (.inr (Nat.le_refl _)) _).setCell (.inr (Nat.le_refl _)) _).setCell (.inr (Nat.le_refl _)) _⟩
      · rw [if_pos ⟨h1, h2⟩]
        have H1 := Lib.hid h1
        clear h1 h2
        go_enter Tryz.func107, Tryz.ntmps107
        go_wp2_with fail
        refine wp_region_still_lit (by kernel_rfl) (by kernel_rfl) ?_
        iterate 19 still_step
        refine wpStill_nil ?_
        rw [wsum _ _ _ _ hb0 hb1 hb2 hb3, ← HN.out]
        clear a0 a1 a2 a3
        go_wp2_with fail
        refine (rBlank_calls _).mono ?_
        rintro e w1 ⟨rfl, f1⟩
        have G1 := f1.heap G0 (by simp)
        have F1 := F0.trans f1
        go_wp2_with (first | (with_reducible refine wpL_stop (o := ⟨_, .binOp .neq 9 _ _ _, _, _, _, _⟩) ?_) | (with_reducible refine wpL_stop (o := ⟨_, .binOp .eql 9 _ _ _, _, _, _, _⟩) ?_))
        refine unhold (wpL_val rfl (run_strNe _ _ _ _ rfl page _ rfl rfl true (by simpa using H2.out)) ?_)
        go_wp2_with fail
        refine (rSeal_calls _ _ _).mono ?_
        rintro e w2 ⟨rfl, f2⟩
        have G2 := f2.heap G1 (by simp)
        have F2 := F1.trans f2
        go_wp2_with (first | (with_reducible refine wpL_stop (o := ⟨_, .binOp .neq 9 _ _ _, _, _, _, _⟩) ?_) | (with_reducible refine wpL_stop (o := ⟨_, .binOp .eql 9 _ _ _, _, _, _, _⟩) ?_))
        refine unhold (wpL_valg rfl (run_strNe _ _ _ _ rfl _ page rfl rfl true (by have := H1.out; simp only [ne_eq, true_iff]; exact fun x => this x.symm)) ?_)
        have k0 : w2.cell? ⟨w.heap.size, 0, none⟩ = some (.int .i64 0) := blk_cell G2 0 rfl
        have k1 : w2.cell? ⟨w.heap.size, 1, none⟩ = some (.string ⟨#[]⟩) := blk_cell G2 1 rfl
        have k2 : w2.cell? ⟨w.heap.size, 2, none⟩ = some (.bool false) := blk_cell G2 2 rfl
        have z0 := blk_free G2 0
        have z1 := blk_free G2 1
        have z2 := blk_free G2 2
        go_wp2_with fail
        exact bodyPost_row 2 172 rfl w.heap.size rfl _ [.int .i64 0, .string ⟨#[]⟩, .bool false] _ _ (set3 G2) Tryz.underlying172 rfl unSize rfl ⟨rfl, ((F2.setCell (.inr (Nat.le_refl _)) _).setCell (.inr (Nat.le_refl _)) _).setCell (.inr (Nat.le_refl _)) _⟩
  · have R : unsealed page = ⟨0, [], false⟩ := by simp [unsealed, hl]
    rw [R]
    have h3' : ((page.length : Int) == 128) = false := beq_eq_false_iff_ne.2 (by omega)
    have h3'' : ((page.length : Int) != 128) = true := by rw [bne_iff_ne]; omega
    clear R hl
    go_enter Tryz.func107, Tryz.ntmps107
    go_wp2_with fail
    exact bodyPost_row 2 172 rfl w.heap.size rfl _ [.int .i64 0, .string ⟨#[]⟩, .bool false] _ _ (heap_alloc_new _ _) Tryz.underlying172 rfl unSize rfl ⟨rfl, (Fr.refl _ _).alloc _⟩
end Go.Proofs.YtpoagpaglocpeaaGreat
