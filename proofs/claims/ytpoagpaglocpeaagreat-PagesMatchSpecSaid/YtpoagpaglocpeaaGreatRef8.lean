/- The specification's numbers at a page's ends; good pages. -/
import Derived.Test.YtpoagpaglocpeaaGreatRef7
namespace Go.Proofs.YtpoagpaglocpeaaGreat
set_option linter.unusedSimpArgs false
set_option linter.unusedVariables false
set_option linter.unnecessarySimpa false
open Go.RowKit M

/-- The number in four bytes; 0 if it is none of a write. -/
def endOf (s : Bytes) : Nat := if 1073741824 < num s then 0 else num s

theorem num_drop (s : Bytes) (k : Nat) (b : UInt8) (h : s[k]? = some b) : num (s.drop k) = b.toNat + 256 * num (s.drop (k + 1)) := by
  obtain ⟨hk, he⟩ := List.getElem?_eq_some_iff.1 h
  rw [List.drop_eq_getElem_cons hk, he]
  rfl

theorem rEnd_calls (page : Bytes) (hp : page.length = 128) (f : Nat) (hf : f ≤ 124) (w : World) : Calls Tryz.prog 106 #[str page, .int .i64 f] w fun e w' => e = .returned (.int .i64 (endOf ((page.drop f).take 4))) ∧ w = w' := by
  have hsl : ((page.drop f).take 4).length = 4 := by simp; omega
  have hsg : ∀ k, k < 4 → ((page.drop f).take 4)[k]? = page[f + k]? := by
    intro k hk
    rw [List.getElem?_take, if_pos hk, List.getElem?_drop]
  have HP := Lib.hid hp
  go_enter Tryz.func106, Tryz.ntmps106
  go_wp2_with fail
  go_loop [5, 6] (fun n k => ∃ m : Nat, m ≤ 4 ∧ k = .int .i64 ((m : Int) - 1) ∧ n = .int .i64 (num (((page.drop f).take 4).drop m) : Nat)) (fun _ k => (intOf k + 1).toNat)
  case atStart =>
    refine ⟨4, by omega, rfl, ?_⟩
    rw [List.drop_eq_nil_of_le (by omega)]
    rfl
  case round =>
    obtain ⟨m, hm, rfl, rfl⟩ := hrel
    have hnl := num_lt (((page.drop f).take 4).drop m)
    rw [List.length_drop, hsl] at hnl
    cases m with
    | zero =>
      have hN : num (((page.drop f).take 4).drop 0) = num ((page.drop f).take 4) := by rw [List.drop_zero]
      rw [hN] at hnl ⊢
      have hE : endOf ((page.drop f).take 4) = if 1073741824 < num ((page.drop f).take 4) then 0 else num ((page.drop f).take 4) := rfl
      generalize num ((page.drop f).take 4) = x at hE ⊢
      clear hnl hN hsg hsl
      by_cases hx : 1073741824 < x
      · rw [if_pos hx] at hE
        have HE := Lib.hid hE
        clear hE
        have hx' : (1073741824 : Int) < x := by omega
        go_wp2_with fail
        go_ret
        exact ⟨by rw [HE.out]; rfl, rfl⟩
      · rw [if_neg hx] at hE
        have HE := Lib.hid hE
        clear hE
        have hx' : (x : Int) ≤ 1073741824 := by omega
        go_wp2_with fail
        go_ret
        exact ⟨by rw [HE.out]; rfl, rfl⟩
    | succ k =>
      have e1 : (((k + 1 : Nat) : Int) - 1) = (k : Int) := by omega
      rw [e1]
      have hfk : f + k < page.length := by omega
      have hb : page[f + k]? = some (page[f + k]'hfk) := List.getElem?_eq_getElem hfk
      have hat := str_at page (f + k) hfk
      have hnd := num_drop _ k _ ((hsg k (by omega)).trans hb)
      have hc : num (((page.drop f).take 4).drop (k + 1)) < 16777216 := Nat.lt_of_lt_of_le hnl (by
        calc 256 ^ (4 - (k + 1)) ≤ 256 ^ 3 := Nat.pow_le_pow_right (by omega) (by omega)
          _ = 16777216 := by decide)
      have HND := Lib.hid hnd
      clear hnd hnl hb e1
      generalize num (((page.drop f).take 4).drop (k + 1)) = c at HND hc ⊢
      generalize page[f + k]'hfk = b at HND hat
      have hbl := b.toNat_lt
      have h1 : (f : Int) + k < page.length := by omega
      have h1' : (f : Int) + k < 128 := by omega
      have hw1 : IntKind.i64.wrap ((f : Int) + k) = f + k := by rw [IntKind.wrap_i64]; omega
      have ht1 : ((f : Int) + k).toNat = f + k := by omega
      have h0 : (0 : Int) ≤ (f : Int) + k := by omega
      go_wp2_with fail
      refine ⟨⟨k, by omega, rfl, ?_⟩, by simp [intOf]⟩
      rw [HND.out]
      congr 1
      omega

theorem unF0 (n : Int) (s : ByteArray) (b : Bool) (w : World) : (Instr.field 172 (.agg #[.int .i64 n, .string s, .bool b]) 0).run Tryz.prog w = .ok (.int .i64 n) w := by kernel_rfl
theorem unF2 (n : Int) (s : ByteArray) (b : Bool) (w : World) : (Instr.field 172 (.agg #[.int .i64 n, .string s, .bool b]) 2).run Tryz.prog w = .ok (.bool b) w := by kernel_rfl

set_option maxRecDepth 100000 in
theorem rGood_calls (page : Bytes) (hp : page.length ≤ 1000) (w : World) : Calls Tryz.prog 177 #[str page] w fun e w' => e = .returned (.bool (decide (page ≠ zeros 128) && (unsealed page).ok)) ∧ Fr [] w w' := by
  by_cases h : page = zeros 128
  · have R : (decide (page ≠ zeros 128) && (unsealed page).ok) = false := by simp [h]
    rw [R]
    have H := Lib.hid h
    clear h R
    go_enter Tryz.func177, Tryz.ntmps177
    go_wp2_with fail
    refine (rBlank_calls _).mono ?_
    rintro e w1 ⟨rfl, f1⟩
    go_wp2_with (first | (with_reducible refine wpL_stop (o := ⟨_, .binOp .neq 9 _ _ _, _, _, _, _⟩) ?_) | (with_reducible refine wpL_stop (o := ⟨_, .binOp .eql 9 _ _ _, _, _, _, _⟩) ?_))
    refine unhold (wpL_val rfl (run_strNe _ _ _ _ rfl page _ rfl rfl false (by simpa using H.out)) ?_)
    go_wp2_with fail
    go_ret
    exact ⟨rfl, f1⟩
  · have R : (decide (page ≠ zeros 128) && (unsealed page).ok) = (unsealed page).ok := by simp [h]
    rw [R]
    have H := Lib.hid h
    clear h R
    have hu := rUnseal_calls page hp
    unfold unv at hu
    have hfl := unF2
    generalize unsealed page = u at hu ⊢
    go_enter Tryz.func177, Tryz.ntmps177
    go_wp2_with fail
    refine (rBlank_calls _).mono ?_
    rintro e w1 ⟨rfl, f1⟩
    go_wp2_with (first | (with_reducible refine wpL_stop (o := ⟨_, .binOp .neq 9 _ _ _, _, _, _, _⟩) ?_) | (with_reducible refine wpL_stop (o := ⟨_, .binOp .eql 9 _ _ _, _, _, _, _⟩) ?_))
    refine unhold (wpL_val rfl (run_strNe _ _ _ _ rfl page _ rfl rfl true (by simpa using H.out)) ?_)
    go_wp2_with fail
    refine (hu _).mono ?_
    rintro e w2 ⟨rfl, f2⟩
    go_wp2_with fail
    go_ret
    exact ⟨rfl, f1.trans f2⟩
end Go.Proofs.YtpoagpaglocpeaaGreat
