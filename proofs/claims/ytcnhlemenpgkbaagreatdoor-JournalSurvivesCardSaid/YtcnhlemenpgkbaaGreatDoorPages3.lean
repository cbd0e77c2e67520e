/- The log's first page; the steps of writing. -/
import Derived.Test.YtcnhlemenpgkbaaGreatDoorPages2
namespace Go.Proofs.YtcnhlemenpgkbaaGreatDoor
set_option linter.unusedSimpArgs false
set_option linter.unusedVariables false
set_option linter.unnecessarySimpa false
open Go.RowKit M

def natv (l : List Nat) : List Value := l.map fun n : Nat => Value.int .i64 n

theorem record_snoc (l : List Nat) (x : Nat) : (l ++ [x]).flatMap (le 2) = l.flatMap (le 2) ++ le 2 x := by simp
theorem flat_le_length : ∀ (l : List Nat), (l.flatMap (le 2)).length = 2 * l.length
  | [] => rfl
  | x :: l => by
    have := flat_le_length l
    simp only [List.flatMap_cons, List.length_append, le_length, List.length_cons, this]
    omega

theorem len_byte (n : Nat) (h : n < 256) : (cellsOf [UInt8.ofNat n]).toArray = #[.int .u8 (n : Int)] := by
  have : (UInt8.ofNat n).toNat = n := by
    rw [UInt8.toNat_ofNat']
    exact Nat.mod_eq_of_lt (by simpa using h)
  simp [cellsOf, this]

theorem own_cell_fr {w w' : World} {base n : Nat} {E : TypeId} {p : Option Addr} {m c : Nat} {xs : List Value} {S : List Nat} (h : w.ownsRow base E 1 (.slice p m c) n xs) (hf : Fr S w w') (hS : ∀ k ∈ S, k < base) {j : Nat} {v : Value} (hv : xs[j]? = some v) : ∃ g, p = some ⟨g, 0, none⟩ ∧ base ≤ g ∧ w'.cell? ⟨g, j, none⟩ = some v := by
  have h' := ownsRow_fr h hf hS
  have hj : j < n := by
    have := (List.getElem?_eq_some_iff.1 hv).1
    rw [h.1] at this
    omega
  obtain ⟨g, rfl, hc⟩ := (own_read h').2 j hj v hv
  exact ⟨g, rfl, (h'.lt g rfl).1, hc⟩

set_option maxRecDepth 100000 in
theorem pRecord_calls {w : World} {base : Nat} {v : Value} {l : List Nat} (hown : w.ownsRow base 3 1 v l.length (natv l)) (hl : l.length ≤ 16) : Calls Tryz.prog 57 #[v] w fun e w' =>
    e = .returned (str (record l)) ∧ Fr [] w w' := by
  obtain ⟨vp, vc, rfl⟩ := ownsRow_len hown
  have hlb := Lib.hid (len_byte l.length (by omega))
  go_enter Tryz.func57, Tryz.ntmps57
  go_wp2_with (first | (with_reducible refine wpL_stop (o := ⟨_, .alloc 59, _, _, _, none⟩) ?_) | (with_reducible refine wpL_stop (o := ⟨_, .load 59 _, _, _, _, none⟩) ?_) | (with_reducible refine wpL_stop (o := ⟨_, .store 59 _ _, _, _, _, none⟩) ?_) | (with_reducible refine wpL_stop (o := ⟨_, .lookup _ _ _ _, _, _, _, none⟩) ?_) | (with_reducible refine wpL_stop (o := ⟨_, .box 59 _, _, _, _, none⟩) ?_) | (with_reducible refine wpL_stop (o := ⟨_, .next _ _, _, _, _, none⟩) ?_) | (with_reducible refine wpL_stop (o := ⟨_, .range _ _, _, _, _, none⟩) ?_) | (with_reducible refine wpL_stop (o := ⟨_, .mapUpdate _ _ _ _, _, _, _, none⟩) ?_) | (with_reducible refine wpL_stop (o := ⟨_, .convert 23 9 _, _, _, _, none⟩) ?_) | (with_reducible refine wpL_stop (o := ⟨_, .convert 9 23 _, _, _, _, none⟩) ?_) | (with_reducible refine wpL_stop (o := ⟨_, .call { callee := .builtin .copy, args := _, argTypes := _ }, _, _, _, none⟩) ?_) | (with_reducible refine wpL_stop (o := ⟨_, .call { callee := .builtin .append, args := _, argTypes := _ }, _, _, _, none⟩) ?_) | (with_reducible refine wpL_stop (o := ⟨_, .call { callee := .builtin .clear, args := _, argTypes := _ }, _, _, _, none⟩) ?_) | (with_reducible refine wpL_stop (o := ⟨_, .makeSlice _ _ _, _, _, _, none⟩) ?_) | (with_reducible refine wpL_stop (o := ⟨_, .makeMap _ _, _, _, _, none⟩) ?_) | (with_reducible refine wpL_stop (o := ⟨_, .entry _, _, _, _, none⟩) ?_) | (with_reducible refine wpL_stop (o := ⟨_, .call { callee := .builtin .max, args := _, argTypes := _ }, _, _, _, none⟩) ?_) | (with_reducible refine wpL_stop (o := ⟨_, .call { callee := .builtin .min, args := _, argTypes := _ }, _, _, _, none⟩) ?_) | (with_reducible refine wpL_stop (o := ⟨_, .slice 59 _ none (some _) none, _, _, _, none⟩) ?_) | (with_reducible refine wpL_stop (o := ⟨_, .binOp .add 9 _ _ _, _, _, _, none⟩) ?_) | (with_reducible refine wpL_stop (o := ⟨_, .slice 9 _ _ _ _, _, _, _, none⟩) ?_))
  rw [← hlb.out]
  have hg := heap_alloc_new w (.cells (cellsOf [UInt8.ofNat l.length]).toArray 5)
  have f1 := (Fr.refl [] w).alloc (.cells (cellsOf [UInt8.ofNat l.length]).toArray 5)
  generalize w.alloc (.cells (cellsOf [UInt8.ofNat l.length]).toArray 5) = w1 at hg f1 ⊢
  refine unhold (wpL_text rfl _ _ _ rfl 5 Tryz.underlying23 Tryz.underlying5 Tryz.underlying9 w.heap.size 0 1 1 rfl _ _ _ [UInt8.ofNat l.length] hg rfl (by intro j hj; simp) ?_)
  clear hg
  go_wp2_with (first | (with_reducible refine wpL_stop (o := ⟨_, .alloc 59, _, _, _, none⟩) ?_) | (with_reducible refine wpL_stop (o := ⟨_, .load 59 _, _, _, _, none⟩) ?_) | (with_reducible refine wpL_stop (o := ⟨_, .store 59 _ _, _, _, _, none⟩) ?_) | (with_reducible refine wpL_stop (o := ⟨_, .lookup _ _ _ _, _, _, _, none⟩) ?_) | (with_reducible refine wpL_stop (o := ⟨_, .box 59 _, _, _, _, none⟩) ?_) | (with_reducible refine wpL_stop (o := ⟨_, .next _ _, _, _, _, none⟩) ?_) | (with_reducible refine wpL_stop (o := ⟨_, .range _ _, _, _, _, none⟩) ?_) | (with_reducible refine wpL_stop (o := ⟨_, .mapUpdate _ _ _ _, _, _, _, none⟩) ?_) | (with_reducible refine wpL_stop (o := ⟨_, .convert 23 9 _, _, _, _, none⟩) ?_) | (with_reducible refine wpL_stop (o := ⟨_, .convert 9 23 _, _, _, _, none⟩) ?_) | (with_reducible refine wpL_stop (o := ⟨_, .call { callee := .builtin .copy, args := _, argTypes := _ }, _, _, _, none⟩) ?_) | (with_reducible refine wpL_stop (o := ⟨_, .call { callee := .builtin .append, args := _, argTypes := _ }, _, _, _, none⟩) ?_) | (with_reducible refine wpL_stop (o := ⟨_, .call { callee := .builtin .clear, args := _, argTypes := _ }, _, _, _, none⟩) ?_) | (with_reducible refine wpL_stop (o := ⟨_, .makeSlice _ _ _, _, _, _, none⟩) ?_) | (with_reducible refine wpL_stop (o := ⟨_, .makeMap _ _, _, _, _, none⟩) ?_) | (with_reducible refine wpL_stop (o := ⟨_, .entry _, _, _, _, none⟩) ?_) | (with_reducible refine wpL_stop (o := ⟨_, .call { callee := .builtin .max, args := _, argTypes := _ }, _, _, _, none⟩) ?_) | (with_reducible refine wpL_stop (o := ⟨_, .call { callee := .builtin .min, args := _, argTypes := _ }, _, _, _, none⟩) ?_) | (with_reducible refine wpL_stop (o := ⟨_, .slice 59 _ none (some _) none, _, _, _, none⟩) ?_) | (with_reducible refine wpL_stop (o := ⟨_, .binOp .add 9 _ _ _, _, _, _, none⟩) ?_) | (with_reducible refine wpL_stop (o := ⟨_, .slice 9 _ _ _ _, _, _, _, none⟩) ?_))
  go_loopg [3, 13] l.length (fun kq s i w' => ∃ n : Nat, i = .int .i64 n ∧ n ≤ l.length ∧ Hid (kq + n = l.length) ∧ s = .string ⟨(UInt8.ofNat l.length :: (l.take n).flatMap (le 2)).toArray⟩ ∧ Fr [] w w')
  case atStart => exact ⟨0, rfl, by omega, by simp [Hid], rfl, f1⟩
  case round =>
    obtain ⟨n, rfl, hn, hk, rfl, fr⟩ := hrel
    by_cases hlt : n < l.length
    · have hlt' : (n : Int) < (l.length : Int) := by omega
      obtain ⟨g, rfl, hgb, hcell⟩ := own_cell_fr hown fr (by simp) (j := n) (v := .int .i64 l[n]) (by simp [natv, hlt])
      have hsn : (l.take (n + 1)).flatMap (le 2) = (l.take n).flatMap (le 2) ++ le 2 l[n] := by rw [List.take_succ_eq_append_getElem hlt, record_snoc]
      have hlen := flat_le_length (l.take n)
      rw [List.length_take] at hlen
      have HS := Lib.hid hsn
      clear hsn
      have hl2 := le_length 2 l[n]
      go_wp2_with fail
      refine (pBytes_calls l[n] 2 (by omega) _).mono ?_
      rintro e w2 ⟨rfl, f2⟩
      go_wp2_with (first | (with_reducible refine wpL_stop (o := ⟨_, .alloc 59, _, _, _, none⟩) ?_) | (with_reducible refine wpL_stop (o := ⟨_, .load 59 _, _, _, _, none⟩) ?_) | (with_reducible refine wpL_stop (o := ⟨_, .store 59 _ _, _, _, _, none⟩) ?_) | (with_reducible refine wpL_stop (o := ⟨_, .lookup _ _ _ _, _, _, _, none⟩) ?_) | (with_reducible refine wpL_stop (o := ⟨_, .box 59 _, _, _, _, none⟩) ?_) | (with_reducible refine wpL_stop (o := ⟨_, .next _ _, _, _, _, none⟩) ?_) | (with_reducible refine wpL_stop (o := ⟨_, .range _ _, _, _, _, none⟩) ?_) | (with_reducible refine wpL_stop (o := ⟨_, .mapUpdate _ _ _ _, _, _, _, none⟩) ?_) | (with_reducible refine wpL_stop (o := ⟨_, .convert 23 9 _, _, _, _, none⟩) ?_) | (with_reducible refine wpL_stop (o := ⟨_, .convert 9 23 _, _, _, _, none⟩) ?_) | (with_reducible refine wpL_stop (o := ⟨_, .call { callee := .builtin .copy, args := _, argTypes := _ }, _, _, _, none⟩) ?_) | (with_reducible refine wpL_stop (o := ⟨_, .call { callee := .builtin .append, args := _, argTypes := _ }, _, _, _, none⟩) ?_) | (with_reducible refine wpL_stop (o := ⟨_, .call { callee := .builtin .clear, args := _, argTypes := _ }, _, _, _, none⟩) ?_) | (with_reducible refine wpL_stop (o := ⟨_, .makeSlice _ _ _, _, _, _, none⟩) ?_) | (with_reducible refine wpL_stop (o := ⟨_, .makeMap _ _, _, _, _, none⟩) ?_) | (with_reducible refine wpL_stop (o := ⟨_, .entry _, _, _, _, none⟩) ?_) | (with_reducible refine wpL_stop (o := ⟨_, .call { callee := .builtin .max, args := _, argTypes := _ }, _, _, _, none⟩) ?_) | (with_reducible refine wpL_stop (o := ⟨_, .call { callee := .builtin .min, args := _, argTypes := _ }, _, _, _, none⟩) ?_) | (with_reducible refine wpL_stop (o := ⟨_, .slice 59 _ none (some _) none, _, _, _, none⟩) ?_) | (with_reducible refine wpL_stop (o := ⟨_, .binOp .add 9 _ _ _, _, _, _, none⟩) ?_) | (with_reducible refine wpL_stop (o := ⟨_, .slice 9 _ _ _ _, _, _, _, none⟩) ?_))
      refine unhold (wpL_cat rfl _ _ _ _ rfl (UInt8.ofNat l.length :: (l.take n).flatMap (le 2)) (le 2 l[n]) rfl rfl (by simp only [List.length_cons]; omega) ?_)
      go_wp2_with (first | (with_reducible refine wpL_stop (o := ⟨_, .alloc 59, _, _, _, none⟩) ?_) | (with_reducible refine wpL_stop (o := ⟨_, .load 59 _, _, _, _, none⟩) ?_) | (with_reducible refine wpL_stop (o := ⟨_, .store 59 _ _, _, _, _, none⟩) ?_) | (with_reducible refine wpL_stop (o := ⟨_, .lookup _ _ _ _, _, _, _, none⟩) ?_) | (with_reducible refine wpL_stop (o := ⟨_, .box 59 _, _, _, _, none⟩) ?_) | (with_reducible refine wpL_stop (o := ⟨_, .next _ _, _, _, _, none⟩) ?_) | (with_reducible refine wpL_stop (o := ⟨_, .range _ _, _, _, _, none⟩) ?_) | (with_reducible refine wpL_stop (o := ⟨_, .mapUpdate _ _ _ _, _, _, _, none⟩) ?_) | (with_reducible refine wpL_stop (o := ⟨_, .convert 23 9 _, _, _, _, none⟩) ?_) | (with_reducible refine wpL_stop (o := ⟨_, .convert 9 23 _, _, _, _, none⟩) ?_) | (with_reducible refine wpL_stop (o := ⟨_, .call { callee := .builtin .copy, args := _, argTypes := _ }, _, _, _, none⟩) ?_) | (with_reducible refine wpL_stop (o := ⟨_, .call { callee := .builtin .append, args := _, argTypes := _ }, _, _, _, none⟩) ?_) | (with_reducible refine wpL_stop (o := ⟨_, .call { callee := .builtin .clear, args := _, argTypes := _ }, _, _, _, none⟩) ?_) | (with_reducible refine wpL_stop (o := ⟨_, .makeSlice _ _ _, _, _, _, none⟩) ?_) | (with_reducible refine wpL_stop (o := ⟨_, .makeMap _ _, _, _, _, none⟩) ?_) | (with_reducible refine wpL_stop (o := ⟨_, .entry _, _, _, _, none⟩) ?_) | (with_reducible refine wpL_stop (o := ⟨_, .call { callee := .builtin .max, args := _, argTypes := _ }, _, _, _, none⟩) ?_) | (with_reducible refine wpL_stop (o := ⟨_, .call { callee := .builtin .min, args := _, argTypes := _ }, _, _, _, none⟩) ?_) | (with_reducible refine wpL_stop (o := ⟨_, .slice 59 _ none (some _) none, _, _, _, none⟩) ?_) | (with_reducible refine wpL_stop (o := ⟨_, .binOp .add 9 _ _ _, _, _, _, none⟩) ?_) | (with_reducible refine wpL_stop (o := ⟨_, .slice 9 _ _ _ _, _, _, _, none⟩) ?_))
      go_roundg (gk - 1)
      case measure => have := hk.out; omega
      case rel =>
        refine ⟨n + 1, by go_num, by omega, ?_, ?_, fr.trans f2⟩
        · have := hk.out; unfold Hid; omega
        · rw [HS.out]
    · obtain rfl : n = l.length := by omega
      rw [List.take_length]
      have hlen := flat_le_length l
      have hsz : (⟨(UInt8.ofNat l.length :: l.flatMap (le 2)).toArray⟩ : ByteArray).size = 1 + 2 * l.length := by
        show (UInt8.ofNat l.length :: l.flatMap (le 2)).toArray.size = _
        simp [hlen]; omega
      go_wp2_with (first | (with_reducible refine wpL_stop (o := ⟨_, .alloc 59, _, _, _, none⟩) ?_) | (with_reducible refine wpL_stop (o := ⟨_, .load 59 _, _, _, _, none⟩) ?_) | (with_reducible refine wpL_stop (o := ⟨_, .store 59 _ _, _, _, _, none⟩) ?_) | (with_reducible refine wpL_stop (o := ⟨_, .lookup _ _ _ _, _, _, _, none⟩) ?_) | (with_reducible refine wpL_stop (o := ⟨_, .box 59 _, _, _, _, none⟩) ?_) | (with_reducible refine wpL_stop (o := ⟨_, .next _ _, _, _, _, none⟩) ?_) | (with_reducible refine wpL_stop (o := ⟨_, .range _ _, _, _, _, none⟩) ?_) | (with_reducible refine wpL_stop (o := ⟨_, .mapUpdate _ _ _ _, _, _, _, none⟩) ?_) | (with_reducible refine wpL_stop (o := ⟨_, .convert 23 9 _, _, _, _, none⟩) ?_) | (with_reducible refine wpL_stop (o := ⟨_, .convert 9 23 _, _, _, _, none⟩) ?_) | (with_reducible refine wpL_stop (o := ⟨_, .call { callee := .builtin .copy, args := _, argTypes := _ }, _, _, _, none⟩) ?_) | (with_reducible refine wpL_stop (o := ⟨_, .call { callee := .builtin .append, args := _, argTypes := _ }, _, _, _, none⟩) ?_) | (with_reducible refine wpL_stop (o := ⟨_, .call { callee := .builtin .clear, args := _, argTypes := _ }, _, _, _, none⟩) ?_) | (with_reducible refine wpL_stop (o := ⟨_, .makeSlice _ _ _, _, _, _, none⟩) ?_) | (with_reducible refine wpL_stop (o := ⟨_, .makeMap _ _, _, _, _, none⟩) ?_) | (with_reducible refine wpL_stop (o := ⟨_, .entry _, _, _, _, none⟩) ?_) | (with_reducible refine wpL_stop (o := ⟨_, .call { callee := .builtin .max, args := _, argTypes := _ }, _, _, _, none⟩) ?_) | (with_reducible refine wpL_stop (o := ⟨_, .call { callee := .builtin .min, args := _, argTypes := _ }, _, _, _, none⟩) ?_) | (with_reducible refine wpL_stop (o := ⟨_, .slice 59 _ none (some _) none, _, _, _, none⟩) ?_) | (with_reducible refine wpL_stop (o := ⟨_, .binOp .add 9 _ _ _, _, _, _, none⟩) ?_) | (with_reducible refine wpL_stop (o := ⟨_, .slice 9 _ _ _ _, _, _, _, none⟩) ?_))
      refine (pBlank_calls (116 - (1 + 2 * (l.length : Int))) (by omega) (by omega) _).mono ?_
      rintro e w2 ⟨rfl, f2⟩
      go_wp2_with (first | (with_reducible refine wpL_stop (o := ⟨_, .alloc 59, _, _, _, none⟩) ?_) | (with_reducible refine wpL_stop (o := ⟨_, .load 59 _, _, _, _, none⟩) ?_) | (with_reducible refine wpL_stop (o := ⟨_, .store 59 _ _, _, _, _, none⟩) ?_) | (with_reducible refine wpL_stop (o := ⟨_, .lookup _ _ _ _, _, _, _, none⟩) ?_) | (with_reducible refine wpL_stop (o := ⟨_, .box 59 _, _, _, _, none⟩) ?_) | (with_reducible refine wpL_stop (o := ⟨_, .next _ _, _, _, _, none⟩) ?_) | (with_reducible refine wpL_stop (o := ⟨_, .range _ _, _, _, _, none⟩) ?_) | (with_reducible refine wpL_stop (o := ⟨_, .mapUpdate _ _ _ _, _, _, _, none⟩) ?_) | (with_reducible refine wpL_stop (o := ⟨_, .convert 23 9 _, _, _, _, none⟩) ?_) | (with_reducible refine wpL_stop (o := ⟨_, .convert 9 23 _, _, _, _, none⟩) ?_) | (with_reducible refine wpL_stop (o := ⟨_, .call { callee := .builtin .copy, args := _, argTypes := _ }, _, _, _, none⟩) ?_) | (with_reducible refine wpL_stop (o := ⟨_, .call { callee := .builtin .append, args := _, argTypes := _ }, _, _, _, none⟩) ?_) | (with_reducible refine wpL_stop (o := ⟨_, .call { callee := .builtin .clear, args := _, argTypes := _ }, _, _, _, none⟩) ?_) | (with_reducible refine wpL_stop (o := ⟨_, .makeSlice _ _ _, _, _, _, none⟩) ?_) | (with_reducible refine wpL_stop (o := ⟨_, .makeMap _ _, _, _, _, none⟩) ?_) | (with_reducible refine wpL_stop (o := ⟨_, .entry _, _, _, _, none⟩) ?_) | (with_reducible refine wpL_stop (o := ⟨_, .call { callee := .builtin .max, args := _, argTypes := _ }, _, _, _, none⟩) ?_) | (with_reducible refine wpL_stop (o := ⟨_, .call { callee := .builtin .min, args := _, argTypes := _ }, _, _, _, none⟩) ?_) | (with_reducible refine wpL_stop (o := ⟨_, .slice 59 _ none (some _) none, _, _, _, none⟩) ?_) | (with_reducible refine wpL_stop (o := ⟨_, .binOp .add 9 _ _ _, _, _, _, none⟩) ?_) | (with_reducible refine wpL_stop (o := ⟨_, .slice 9 _ _ _ _, _, _, _, none⟩) ?_))
      refine unhold (wpL_cat rfl _ _ _ _ rfl (UInt8.ofNat l.length :: l.flatMap (le 2)) (zeros (116 - (1 + 2 * (l.length : Int))).toNat) rfl rfl (by simp [zeros, hlen]; omega) ?_)
      go_wp2
      go_ret
      refine ⟨ret_str ?_, fr.trans f2⟩
      have e : 116 - (1 + 2 * l.length) = 116 - (UInt8.ofNat l.length :: l.flatMap (le 2)).length := by
        rw [List.length_cons, hlen]; omega
      rw [e]
      rfl

/-- A step of writing. -/
inductive Stp where
  | put (page : Int) (s : Bytes)
  | flush

def runStep (d : Disk) : Stp → Int × Disk
  | .put p s => d.write p s
  | .flush => d.flush

def runAll : Disk → List Stp → Int × Disk
  | d, [] => (0, d)
  | d, s :: r => if (runStep d s).1 = 0 then runAll (runStep d s).2 r else runStep d s

def Stp.okay : Stp → Prop
  | .put _ s => s.length = 128
  | .flush => True

/-- The function value of a step: what it has captured lies in boxes from block B on. -/
def StpAt (B : Nat) (w : World) (L : DL) (v : Value) : Stp → Prop
  | .put p s => ∃ b1 b2 b3, v = .func (.func 58) #[] #[.pointer (some ⟨b1, 0, none⟩), .pointer (some ⟨b2, 0, none⟩), .pointer (some ⟨b3, 0, none⟩)] ∧
      B ≤ b1 ∧ B ≤ b2 ∧ B ≤ b3 ∧ w.cell? ⟨b1, 0, none⟩ = some (Dp L) ∧ w.cell? ⟨b2, 0, none⟩ = some (.int .i64 p) ∧ w.cell? ⟨b3, 0, none⟩ = some (.string ⟨s.toArray⟩)
  | .flush => v = .func (.func 35) #[Dp L] #[]

theorem cell_fr {w w' : World} {S : List Nat} (hf : Fr S w w') {b j : Nat} {v : Value} (h : w.cell? ⟨b, j, none⟩ = some v) (hn : b ∉ S) : w'.cell? ⟨b, j, none⟩ = some v := by
  have hlt := World.block_lt_of_cell? _ _ h
  rw [World.cell?_of_block (hf.block _ hlt hn)]
  exact h

theorem StpAt.fr {B : Nat} {w w' : World} {L : DL} {v : Value} {s : Stp} {S : List Nat} (h : StpAt B w L v s) (hf : Fr S w w') (hS : ∀ k ∈ S, k < B) : StpAt B w' L v s := by
  cases s with
  | flush => exact h
  | put p s =>
    obtain ⟨b1, b2, b3, rfl, h1, h2, h3, c1, c2, c3⟩ := h
    have ne : ∀ b, B ≤ b → b ∉ S := fun b hb e => by have := hS b e; omega
    exact ⟨b1, b2, b3, rfl, h1, h2, h3, cell_fr hf c1 (ne _ h1), cell_fr hf c2 (ne _ h2), cell_fr hf c3 (ne _ h3)⟩
theorem StpAt.low {B B' : Nat} {w : World} {L : DL} {v : Value} {s : Stp} (h : StpAt B w L v s) (hB : B' ≤ B) : StpAt B' w L v s := by
  cases s with
  | flush => exact h
  | put p s =>
    obtain ⟨b1, b2, b3, rfl, h1, h2, h3, r⟩ := h
    exact ⟨b1, b2, b3, rfl, by omega, by omega, by omega, r⟩

theorem pPut_calls (L : DL) (p : Int) (s : Bytes) (w : World) : Calls Tryz.prog 34 #[Dp L, .int .i64 p, str s] w fun e w' => ∃ v, e = .returned v ∧ StpAt w.heap.size w' L v (.put p s) ∧ v.oneCell' = true ∧ Fr [] w w' := by
  go_enter Tryz.func34, Tryz.ntmps34
  go_wp2
  go_ret
  refine ⟨_, rfl, ⟨w.heap.size, w.heap.size + 1, w.heap.size + 2, rfl, by omega, by omega, by omega, ?_, ?_, ?_⟩, rfl, (((Fr.refl _ _).alloc _).alloc _).alloc _⟩
  · rw [cell_of_row _ _ _ #[Dp L] 26 (0, 0) ?_]
    · rfl
    · rw [Below.heap_alloc _ _ _ (by simp; omega), Below.heap_alloc _ _ _ (by simp)]
      exact heap_alloc_new _ _
  · rw [cell_of_row _ _ _ #[.int .i64 p] 3 (0, 0) ?_]
    · rfl
    · rw [Below.heap_alloc _ _ _ (by simp)]
      have := heap_alloc_new (w.alloc (.cells #[Dp L] 26)) (.cells #[.int .i64 p] 3)
      simpa using this
  · rw [cell_of_row _ _ _ #[str s] 9 (0, 0) ?_]
    · rfl
    · have := heap_alloc_new ((w.alloc (.cells #[Dp L] 26)).alloc (.cells #[.int .i64 p] 3)) (.cells #[str s] 9)
      simpa using this

theorem pPut1_calls {w : World} {L : DL} {d : Disk} (h : DiskAt w L d) (b1 b2 b3 : Nat) (p : Int) (s : Bytes) (hs : s.length = 128) (c1 : w.cell? ⟨b1, 0, none⟩ = some (Dp L)) (c2 : w.cell? ⟨b2, 0, none⟩ = some (.int .i64 p)) (c3 : w.cell? ⟨b3, 0, none⟩ = some (.string ⟨s.toArray⟩)) :
    Calls Tryz.prog 58 #[.pointer (some ⟨b1, 0, none⟩), .pointer (some ⟨b2, 0, none⟩), .pointer (some ⟨b3, 0, none⟩)] w fun e w' =>
      e = .returned (.int .i64 (d.write p s).1) ∧ DiskAt w' L (d.write p s).2 ∧ Fr L.all w w' := by
  have hw := dWrite_calls h p s hs
  generalize d.write p s = x at hw ⊢
  go_enter Tryz.func58, Tryz.ntmps58
  go_wp2_with fail
  refine hw.mono ?_
  rintro e w1 ⟨rfl, D1, f1⟩
  go_wp2
  go_ret
  exact ⟨rfl, D1, f1⟩

theorem runAll_snoc0 {d : Disk} : ∀ {l r : List Stp}, (runAll d l).1 = 0 → runAll d (l ++ r) = runAll (runAll d l).2 r := by
  intro l
  induction l generalizing d with
  | nil => intro r _; rfl
  | cons s l ih =>
    intro r h
    simp only [List.cons_append, runAll] at h ⊢
    by_cases hs : (runStep d s).1 = 0
    · rw [if_pos hs] at h ⊢
      rw [if_pos hs, ih h]
    · rw [if_neg hs] at h
      exact absurd h hs
theorem runAll_bad {d : Disk} : ∀ {l r : List Stp}, (runAll d l).1 ≠ 0 → runAll d (l ++ r) = runAll d l := by
  intro l
  induction l generalizing d with
  | nil => intro r h; exact absurd rfl h
  | cons s l ih =>
    intro r h
    simp only [List.cons_append, runAll] at h ⊢
    by_cases hs : (runStep d s).1 = 0
    · rw [if_pos hs] at h ⊢
      rw [if_pos hs, ih h]
    · rw [if_neg hs, if_neg hs]

set_option maxRecDepth 100000 in
theorem pRun_calls {w : World} {L : DL} {d : Disk} {base B : Nat} {v : Value} (h : DiskAt w L d) (sts : List Stp) (vs : List Value) (hown : w.ownsRow base 78 1 v sts.length vs)
    (hst : ∀ (j : Nat) x y, vs[j]? = some x → sts[j]? = some y → StpAt B w L x y ∧ y.okay) (hB : ∀ k ∈ L.all, k < B) (hb : ∀ k ∈ L.all, k < base) (hfew : sts.length ≤ 1000) :
    Calls Tryz.prog 36 #[v] w fun e w' => e = .returned (.int .i64 (runAll d sts).1) ∧ DiskAt w' L (runAll d sts).2 ∧ Fr L.all w w' := by
  obtain ⟨vp, vc, rfl⟩ := ownsRow_len hown
  go_enter Tryz.func36, Tryz.ntmps36
  go_wp2_with (first | (with_reducible refine wpL_stop (o := ⟨_, .alloc 59, _, _, _, none⟩) ?_) | (with_reducible refine wpL_stop (o := ⟨_, .load 59 _, _, _, _, none⟩) ?_) | (with_reducible refine wpL_stop (o := ⟨_, .store 59 _ _, _, _, _, none⟩) ?_) | (with_reducible refine wpL_stop (o := ⟨_, .lookup _ _ _ _, _, _, _, none⟩) ?_) | (with_reducible refine wpL_stop (o := ⟨_, .box 59 _, _, _, _, none⟩) ?_) | (with_reducible refine wpL_stop (o := ⟨_, .next _ _, _, _, _, none⟩) ?_) | (with_reducible refine wpL_stop (o := ⟨_, .range _ _, _, _, _, none⟩) ?_) | (with_reducible refine wpL_stop (o := ⟨_, .mapUpdate _ _ _ _, _, _, _, none⟩) ?_) | (with_reducible refine wpL_stop (o := ⟨_, .convert 23 9 _, _, _, _, none⟩) ?_) | (with_reducible refine wpL_stop (o := ⟨_, .convert 9 23 _, _, _, _, none⟩) ?_) | (with_reducible refine wpL_stop (o := ⟨_, .call { callee := .builtin .copy, args := _, argTypes := _ }, _, _, _, none⟩) ?_) | (with_reducible refine wpL_stop (o := ⟨_, .call { callee := .builtin .append, args := _, argTypes := _ }, _, _, _, none⟩) ?_) | (with_reducible refine wpL_stop (o := ⟨_, .call { callee := .builtin .clear, args := _, argTypes := _ }, _, _, _, none⟩) ?_) | (with_reducible refine wpL_stop (o := ⟨_, .makeSlice _ _ _, _, _, _, none⟩) ?_) | (with_reducible refine wpL_stop (o := ⟨_, .makeMap _ _, _, _, _, none⟩) ?_) | (with_reducible refine wpL_stop (o := ⟨_, .entry _, _, _, _, none⟩) ?_) | (with_reducible refine wpL_stop (o := ⟨_, .call { callee := .builtin .max, args := _, argTypes := _ }, _, _, _, none⟩) ?_) | (with_reducible refine wpL_stop (o := ⟨_, .call { callee := .builtin .min, args := _, argTypes := _ }, _, _, _, none⟩) ?_) | (with_reducible refine wpL_stop (o := ⟨_, .slice 59 _ none (some _) none, _, _, _, none⟩) ?_) | (with_reducible refine wpL_stop (o := ⟨_, .binOp .add 9 _ _ _, _, _, _, none⟩) ?_) | (with_reducible refine wpL_stop (o := ⟨_, .slice 9 _ _ _ _, _, _, _, none⟩) ?_))
  go_loopg [8] sts.length (fun kq i w' => ∃ n : Nat, i = .int .i64 n ∧ n ≤ sts.length ∧ Hid (kq + n = sts.length) ∧ Hid ((runAll d (sts.take n)).1 = 0) ∧ DiskAt w' L (runAll d (sts.take n)).2 ∧ Fr L.all w w')
  case atStart => exact ⟨0, rfl, by omega, by simp [Hid], rfl, h, Fr.refl _ _⟩
  case round =>
    obtain ⟨n, rfl, hn, hk, hr, D, fr⟩ := hrel
    by_cases hlt : n < sts.length
    · have hlt' : (n : Int) < (sts.length : Int) := by omega
      have hvl : n < vs.length := by have := hown.1; omega
      obtain ⟨g, rfl, hgb, hcell⟩ := own_cell_fr hown fr hb (j := n) (v := vs[n]) (by simp [hvl])
      obtain ⟨hstn, hok⟩ := hst n vs[n] sts[n] (by simp [hvl]) (by simp [hlt])
      have hsn : sts.take (n + 1) = sts.take n ++ [sts[n]] := List.take_succ_eq_append_getElem hlt
      have hnext : runAll d (sts.take (n + 1)) = runAll (runAll d (sts.take n)).2 [sts[n]] := by rw [hsn]; exact runAll_snoc0 hr.out
      have HN := Lib.hid hnext
      clear hsn hnext
      have hstr := hstn.fr fr hB
      cases hs : sts[n] with
      | flush =>
        rw [hs] at hstr
        have hnext := HN.out
        have hv : vs[n] = .func (.func 35) #[Dp L] #[] := hstr
        rw [hv] at hcell
        have HS := Lib.hid hs
        clear hs hstr hnext
        go_wp2_with fail
        refine (dFlush_calls D).mono ?_
        rintro e w2 ⟨rfl, D2, f2⟩
        have hs := HS.out
        have hnext := HN.out
        by_cases hz : ((runAll d (sts.take n)).2.flush).1 = 0
        · have hz' : (((runAll d (sts.take n)).2.flush).1 != 0) = false := by simpa using hz
          have h1 : runAll d (sts.take (n + 1)) = (0, ((runAll d (sts.take n)).2.flush).2) := by
            rw [hnext, hs]
            show (if ((runAll d (sts.take n)).2.flush).1 = 0 then (0, ((runAll d (sts.take n)).2.flush).2) else (runAll d (sts.take n)).2.flush) = _
            rw [if_pos hz]
          have H1 := Lib.hid h1
          clear h1 hz
          generalize (runAll d (sts.take n)).2.flush = x at H1 hz' D2 ⊢
          go_wp2
          go_roundg (gk - 1)
          case measure => have := hk.out; omega
          case rel =>
            refine ⟨n + 1, by go_num, by omega, ?_, ?_, by rw [H1.out]; exact D2, fr.trans f2⟩
            · have := hk.out; unfold Hid; omega
            · unfold Hid; rw [H1.out]
        · have hz' : (((runAll d (sts.take n)).2.flush).1 != 0) = true := by simpa using hz
          have hbad : runAll d sts = (runAll d (sts.take n)).2.flush := by
            have h1 : runAll d sts = runAll (runAll d (sts.take n)).2 (sts.drop n) := by
              conv => lhs; rw [← List.take_append_drop n sts]
              exact runAll_snoc0 hr.out
            rw [h1, List.drop_eq_getElem_cons hlt, hs]
            show (if ((runAll d (sts.take n)).2.flush).1 = 0 then _ else (runAll d (sts.take n)).2.flush) = (runAll d (sts.take n)).2.flush
            rw [if_neg hz]
          have HB := Lib.hid hbad
          clear hbad hz
          generalize (runAll d (sts.take n)).2.flush = x at HB hz' D2 ⊢
          go_wp2
          go_ret
          exact ⟨ret_int (by rw [HB.out]), by rw [HB.out]; exact D2, fr.trans f2⟩
      | put p s =>
        rw [hs] at hstr hok
        obtain ⟨b1, b2, b3, hv, _, _, _, c1, c2, c3⟩ := hstr
        rw [hv] at hcell
        have HS := Lib.hid hs
        clear hs
        go_wp2_with fail
        refine (pPut1_calls D b1 b2 b3 p s hok c1 c2 c3).mono ?_
        rintro e w2 ⟨rfl, D2, f2⟩
        have hs := HS.out
        have hnext := HN.out
        by_cases hz : (((runAll d (sts.take n)).2.write p s)).1 = 0
        · have hz' : ((((runAll d (sts.take n)).2.write p s)).1 != 0) = false := by simpa using hz
          have h1 : runAll d (sts.take (n + 1)) = (0, (((runAll d (sts.take n)).2.write p s)).2) := by
            rw [hnext, hs]
            show (if (((runAll d (sts.take n)).2.write p s)).1 = 0 then (0, (((runAll d (sts.take n)).2.write p s)).2) else ((runAll d (sts.take n)).2.write p s)) = _
            rw [if_pos hz]
          have H1 := Lib.hid h1
          clear h1 hz
          generalize ((runAll d (sts.take n)).2.write p s) = x at H1 hz' D2 ⊢
          go_wp2
          go_roundg (gk - 1)
          case measure => have := hk.out; omega
          case rel =>
            refine ⟨n + 1, by go_num, by omega, ?_, ?_, by rw [H1.out]; exact D2, fr.trans f2⟩
            · have := hk.out; unfold Hid; omega
            · unfold Hid; rw [H1.out]
        · have hz' : ((((runAll d (sts.take n)).2.write p s)).1 != 0) = true := by simpa using hz
          have hbad : runAll d sts = ((runAll d (sts.take n)).2.write p s) := by
            have h1 : runAll d sts = runAll (runAll d (sts.take n)).2 (sts.drop n) := by
              conv => lhs; rw [← List.take_append_drop n sts]
              exact runAll_snoc0 hr.out
            rw [h1, List.drop_eq_getElem_cons hlt, hs]
            show (if (((runAll d (sts.take n)).2.write p s)).1 = 0 then _ else ((runAll d (sts.take n)).2.write p s)) = ((runAll d (sts.take n)).2.write p s)
            rw [if_neg hz]
          have HB := Lib.hid hbad
          clear hbad hz
          generalize ((runAll d (sts.take n)).2.write p s) = x at HB hz' D2 ⊢
          go_wp2
          go_ret
          exact ⟨ret_int (by rw [HB.out]), by rw [HB.out]; exact D2, fr.trans f2⟩
    · obtain rfl : n = sts.length := by omega
      rw [List.take_length] at hr D
      go_wp2
      go_ret
      refine ⟨ret_int (by rw [hr.out]), D, fr⟩
end Go.Proofs.YtcnhlemenpgkbaaGreatDoor
