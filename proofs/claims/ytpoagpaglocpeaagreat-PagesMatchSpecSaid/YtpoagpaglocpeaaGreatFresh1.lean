/- The specification reads all pages of a disk; a log without a first page has no targets. -/
import Derived.Test.YtpoagpaglocpeaaGreatRef8
import Derived.Test.YtpoagpaglocpeaaGreatPages10
namespace Go.Proofs.YtpoagpaglocpeaaGreat
set_option linter.unusedSimpArgs false
set_option linter.unusedVariables false
set_option linter.unnecessarySimpa false
open Go.RowKit M

section
variable {w : World} {L : RL} {d : Disk}

theorem seen_length (d : Disk) : d.seen.length = d.pg.length := by simp [Disk.seen]
theorem seen_get (d : Disk) (n : Nat) (h : n < d.pg.length) : d.seen[n]? = some (d.now n) := by simp [Disk.seen, h]
theorem read_on (hoff : d.off = false) (n : Nat) (h : n < d.pg.length) : d.read n = (d.now n, 0) := by
  have his : d.is n = true := by unfold Disk.is Disk.len; simp only [Bool.and_eq_true, decide_eq_true_eq]; omega
  unfold Disk.read
  rw [hoff, his]
  rfl

set_option maxRecDepth 100000 in
theorem rread_calls (h : RDiskAt w L d) (hoff : d.off = false) : Calls Tryz.prog 104 #[Rp L] w fun e w' =>
    ∃ v, e = .returned (.tuple #[v, .int .i64 0]) ∧ w'.ownsRow w.heap.size 9 1 v d.pg.length (strs d.seen) ∧ Fr [] w w' := by
  have few := h.ok.few
  have hsl := seen_length d
  have hlen : d.len = (d.pg.length : Int) := rfl
  go_enter Tryz.func104, Tryz.ntmps104
  go_wp2_with fail
  go_loopg [4, 5] d.pg.length (fun kq v i w' => ∃ n : Nat, i = .int .i64 n ∧ n ≤ d.pg.length ∧ Hid (kq + n = d.pg.length) ∧ w'.ownsRow w.heap.size 9 1 v n (strs (d.seen.take n)) ∧ Fr [] w w')
  case atStart => exact ⟨0, rfl, by omega, by simp [Hid], World.ownsRow_nil _ _ _ _, Fr.refl _ _⟩
  case round =>
    obtain ⟨n, rfl, hn, hk, R, fr⟩ := hrel
    have Dr := h.fr0 fr
    have hL := rdLen_calls Dr
    rw [hlen] at hL
    by_cases hlt : n < d.pg.length
    · have hlt' : (n : Int) < (d.pg.length : Int) := by omega
      have hR := rdRead_calls Dr n
      rw [read_on hoff n hlt] at hR
      have HP : Hid (strs (d.seen.take (n + 1)) = strs (d.seen.take n) ++ [str (d.now n)]) := by
        unfold Hid strs
        rw [take_snoc (seen_get d n hlt)]
        simp only [List.map_append, List.map_cons, List.map_nil]
      generalize strs (d.seen.take n) = ps at R HP
      generalize d.now n = s at hR HP
      go_wp2_with fail
      refine hL.mono ?_
      rintro e w1 ⟨rfl, rfl⟩
      go_wp2_with fail
      refine hR.mono ?_
      rintro e w2 ⟨rfl, f2⟩
      have R2 := ownsRow_fr' R f2 (by simp)
      have fr2 := fr.trans f2
      go_wp2_with (first | (with_reducible refine wpL_stop (o := ⟨_, .alloc 177, _, _, _, none⟩) ?_) | (with_reducible refine wpL_stop (o := ⟨_, .load 177 _, _, _, _, none⟩) ?_) | (with_reducible refine wpL_stop (o := ⟨_, .store 177 _ _, _, _, _, none⟩) ?_) | (with_reducible refine wpL_stop (o := ⟨_, .lookup _ _ _ _, _, _, _, none⟩) ?_) | (with_reducible refine wpL_stop (o := ⟨_, .box 177 _, _, _, _, none⟩) ?_) | (with_reducible refine wpL_stop (o := ⟨_, .next _ _, _, _, _, none⟩) ?_) | (with_reducible refine wpL_stop (o := ⟨_, .range _ _, _, _, _, none⟩) ?_) | (with_reducible refine wpL_stop (o := ⟨_, .mapUpdate _ _ _ _, _, _, _, none⟩) ?_) | (with_reducible refine wpL_stop (o := ⟨_, .convert 175 9 _, _, _, _, none⟩) ?_) | (with_reducible refine wpL_stop (o := ⟨_, .convert 9 175 _, _, _, _, none⟩) ?_) | (with_reducible refine wpL_stop (o := ⟨_, .call { callee := .builtin .copy, args := _, argTypes := _ }, _, _, _, none⟩) ?_) | (with_reducible refine wpL_stop (o := ⟨_, .call { callee := .builtin .append, args := _, argTypes := _ }, _, _, _, none⟩) ?_) | (with_reducible refine wpL_stop (o := ⟨_, .call { callee := .builtin .clear, args := _, argTypes := _ }, _, _, _, none⟩) ?_) | (with_reducible refine wpL_stop (o := ⟨_, .makeSlice _ _ _, _, _, _, none⟩) ?_) | (with_reducible refine wpL_stop (o := ⟨_, .makeMap _ _, _, _, _, none⟩) ?_) | (with_reducible refine wpL_stop (o := ⟨_, .entry _, _, _, _, none⟩) ?_) | (with_reducible refine wpL_stop (o := ⟨_, .call { callee := .builtin .max, args := _, argTypes := _ }, _, _, _, none⟩) ?_) | (with_reducible refine wpL_stop (o := ⟨_, .call { callee := .builtin .min, args := _, argTypes := _ }, _, _, _, none⟩) ?_) | (with_reducible refine wpL_stop (o := ⟨_, .slice 177 _ none (some _) none, _, _, _, none⟩) ?_) | (with_reducible refine wpL_stop (o := ⟨_, .binOp .add 9 _ _ _, _, _, _, none⟩) ?_) | (with_reducible refine wpL_stop (o := ⟨_, .slice 9 _ _ _ _, _, _, _, none⟩) ?_))
      have f4 := fr2.alloc (.cells #[str s] 9)
      have hg4 := heap_alloc_new w2 (.cells #[str s] 9)
      have R4 := ownsRow_fr' R2 ((Fr.refl [] w2).alloc (.cells #[str s] 9)) (by simp)
      generalize w2.alloc (.cells #[str s] 9) = w4 at f4 hg4 R4 ⊢
      refine unhold (wpL_append_at rfl _ _ 108 rfl w.heap.size 9 _ 16 Tryz.underlying108 strInfo rfl (by decide) u4 n ps rfl R4 w2.heap.size 1 [str s] rfl _ _ _ hg4 (by intro j u hj; simpa using hj) (by simp [Value.oneCell']) (by simp; omega) f4.size ?_)
      intro v5 w5 hown5 hgr5 hat5
      have f5 : Fr [] w w5 := f4.grown hgr5 (fun k hk => .inr (R4.lt k hk).1)
      go_wp2_with (first | (with_reducible refine wpL_stop (o := ⟨_, .alloc 177, _, _, _, none⟩) ?_) | (with_reducible refine wpL_stop (o := ⟨_, .load 177 _, _, _, _, none⟩) ?_) | (with_reducible refine wpL_stop (o := ⟨_, .store 177 _ _, _, _, _, none⟩) ?_) | (with_reducible refine wpL_stop (o := ⟨_, .lookup _ _ _ _, _, _, _, none⟩) ?_) | (with_reducible refine wpL_stop (o := ⟨_, .box 177 _, _, _, _, none⟩) ?_) | (with_reducible refine wpL_stop (o := ⟨_, .next _ _, _, _, _, none⟩) ?_) | (with_reducible refine wpL_stop (o := ⟨_, .range _ _, _, _, _, none⟩) ?_) | (with_reducible refine wpL_stop (o := ⟨_, .mapUpdate _ _ _ _, _, _, _, none⟩) ?_) | (with_reducible refine wpL_stop (o := ⟨_, .convert 175 9 _, _, _, _, none⟩) ?_) | (with_reducible refine wpL_stop (o := ⟨_, .convert 9 175 _, _, _, _, none⟩) ?_) | (with_reducible refine wpL_stop (o := ⟨_, .call { callee := .builtin .copy, args := _, argTypes := _ }, _, _, _, none⟩) ?_) | (with_reducible refine wpL_stop (o := ⟨_, .call { callee := .builtin .append, args := _, argTypes := _ }, _, _, _, none⟩) ?_) | (with_reducible refine wpL_stop (o := ⟨_, .call { callee := .builtin .clear, args := _, argTypes := _ }, _, _, _, none⟩) ?_) | (with_reducible refine wpL_stop (o := ⟨_, .makeSlice _ _ _, _, _, _, none⟩) ?_) | (with_reducible refine wpL_stop (o := ⟨_, .makeMap _ _, _, _, _, none⟩) ?_) | (with_reducible refine wpL_stop (o := ⟨_, .entry _, _, _, _, none⟩) ?_) | (with_reducible refine wpL_stop (o := ⟨_, .call { callee := .builtin .max, args := _, argTypes := _ }, _, _, _, none⟩) ?_) | (with_reducible refine wpL_stop (o := ⟨_, .call { callee := .builtin .min, args := _, argTypes := _ }, _, _, _, none⟩) ?_) | (with_reducible refine wpL_stop (o := ⟨_, .slice 177 _ none (some _) none, _, _, _, none⟩) ?_) | (with_reducible refine wpL_stop (o := ⟨_, .binOp .add 9 _ _ _, _, _, _, none⟩) ?_) | (with_reducible refine wpL_stop (o := ⟨_, .slice 9 _ _ _ _, _, _, _, none⟩) ?_))
      go_roundg (gk - 1)
      case measure => have := hk.out; omega
      case rel =>
        refine ⟨n + 1, by go_num, by omega, by have := hk.out; unfold Hid; omega, ?_, f5⟩
        rw [HP.out]
        exact hown5
    · obtain rfl : n = d.pg.length := by omega
      have hlt' : decide ((d.pg.length : Int) < (d.pg.length : Int)) = false := by simp
      rw [← hsl, List.take_length, hsl] at R
      go_wp2_with fail
      refine hL.mono ?_
      rintro e w1 ⟨rfl, rfl⟩
      go_wp2_with fail
      go_ret2
      exact ⟨_, rfl, R, fr⟩

set_option maxRecDepth 100000 in
theorem rTargets_blank {B : Nat} {v : Value} {im : List Bytes} (hown : w.ownsRow B 9 1 v im.length (im.map str)) (h0 : im[0]? = some (zeros 128)) :
    Calls Tryz.prog 150 #[v] w fun e w' => e = .returned (.slice none 0 0) ∧ Fr [] w w' := by
  obtain ⟨vp, vc, rfl⟩ := ownsRow_len hown
  have hi0 := (List.getElem?_eq_some_iff.1 h0).1
  obtain ⟨g, rfl, hgb, hc0⟩ := own_cell_fr (S := []) hown (Fr.refl [] w) (by simp) (j := 0) (v := str (zeros 128)) (by rw [List.getElem?_map, h0]; rfl)
  have hg := rGood_calls (zeros 128) (by simp [zeros])
  rw [show (decide (zeros 128 ≠ zeros 128) && (unsealed (zeros 128)).ok) = false by simp] at hg
  have hlen' : (0 : Int) < (im.length : Int) := by omega
  generalize zeros 128 = z at hc0 hg
  go_enter Tryz.func150, Tryz.ntmps150
  go_wp2_with fail
  refine (hg _).mono ?_
  rintro e w1 ⟨rfl, f1⟩
  go_wp2_with fail
  go_ret
  exact ⟨rfl, f1⟩

set_option maxRecDepth 100000 in
theorem rReplay_blank (h : RDiskAt w L d) (hoff : d.off = false) (h1 : 0 < d.pg.length) (h0 : d.now 0 = zeros 128) :
    Calls Tryz.prog 105 #[Rp L] w fun e w' => e = .returned (.int .i64 0) ∧ Fr [] w w' := by
  have hR := rread_calls h hoff
  have hs0 : d.seen[0]? = some (zeros 128) := by rw [seen_get d 0 h1, h0]
  have hsl := seen_length d
  go_enter Tryz.func105, Tryz.ntmps105
  go_wp2_with fail
  refine hR.mono ?_
  rintro e w1 ⟨v, rfl, R, f1⟩
  rw [← hsl] at R
  have hT := rTargets_blank R hs0
  go_wp2_with fail
  refine hT.mono ?_
  rintro e w2 ⟨rfl, f2⟩
  go_wp2_with fail
  go_loopg [6] 0 (fun kq i w' => i = .int .i64 0 ∧ Hid (kq = 0) ∧ Fr [] w w')
  case atStart => exact ⟨rfl, rfl, f1.trans f2⟩
  case round =>
    obtain ⟨rfl, hk, fr⟩ := hrel
    go_wp2_with fail
    go_ret
    exact ⟨rfl, fr⟩
end
end Go.Proofs.YtpoagpaglocpeaaGreat
