/- The disk: mounting. -/
import Derived.Test.YtcnhlemenpgkbaaGreatDoorDisk6
namespace Go.Proofs.YtcnhlemenpgkbaaGreatDoor
set_option linter.unusedSimpArgs false
set_option linter.unusedVariables false
set_option linter.unnecessarySimpa false
open Go.RowKit M

/-- A slice of numbers that lies below block B. -/
def IntsAt (B : Nat → Prop) (w : World) (v : Value) (xs : List Int) : Prop :=
  ∃ A c, v = .slice A xs.length c ∧ ∀ j (h : j < xs.length), ∃ ad, A = some ad ∧ B ad.block ∧ w.cell? (ad.add j) = some (.int .i64 xs[j])

theorem add_block (a : Addr) (n : Nat) : (a.add n).block = a.block := by unfold Addr.add; split <;> rfl

theorem IntsAt.fr {B : Nat → Prop} {w w' : World} {v : Value} {xs : List Int} {S : List Nat} (h : IntsAt B w v xs) (hf : Fr S w w') (hS : ∀ k ∈ S, ¬ B k) : IntsAt B w' v xs := by
  obtain ⟨A, c, rfl, hc⟩ := h
  refine ⟨A, c, rfl, fun j hj => ?_⟩
  obtain ⟨ad, e, hb, hcell⟩ := hc j hj
  refine ⟨ad, e, hb, ?_⟩
  have hlt : (ad.add j).block < w.heap.size := World.block_lt_of_cell? _ _ hcell
  rw [World.cell?_of_block (hf.block _ hlt (fun e => by have := hS _ e; rw [add_block] at this; exact this hb))]
  exact hcell

theorem tear_get : ∀ (pg : List Pg) (k0 : Nat) (picks : List Int) (i : Nat) (p : Pg), pg[i]? = some p →
    (∀ b, p.new = some b → ∃ j : Nat, (pendingFrom k0 pg)[j]? = some ((k0 + i : Nat) : Int) ∧ (tearAll pg picks)[i]? = some (p.tear (clamp (picks[j]?.getD 128)))) ∧
    (p.new = none → (tearAll pg picks)[i]? = some p)
  | [], _, _, _, _, h => by simp at h
  | q :: r, k0, picks, 0, p, h => by
    obtain rfl : q = p := by simpa using h
    constructor
    · intro b hb
      refine ⟨0, by simp [pendingFrom, hb], ?_⟩
      simp [tearAll, hb, List.head?_eq_getElem?]
    · intro hb
      simp [tearAll, hb]
  | q :: r, k0, picks, i + 1, p, h => by
    have h' : r[i]? = some p := by simpa using h
    cases hq : q.new with
    | none =>
      obtain ⟨i1, i2⟩ := tear_get r (k0 + 1) picks i p h'
      constructor
      · intro b hb
        obtain ⟨j, h1, h2⟩ := i1 b hb
        refine ⟨j, ?_, ?_⟩
        · simp only [pendingFrom, hq, Option.isSome_none, Bool.false_eq_true, if_false]
          rw [h1]; congr 2; omega
        · simp only [tearAll, hq, List.getElem?_cons_succ]; exact h2
      · intro hb
        simp only [tearAll, hq, List.getElem?_cons_succ]; exact i2 hb
    | some b0 =>
      obtain ⟨i1, i2⟩ := tear_get r (k0 + 1) picks.tail i p h'
      constructor
      · intro b hb
        obtain ⟨j, h1, h2⟩ := i1 b hb
        refine ⟨j + 1, ?_, ?_⟩
        · simp only [pendingFrom, hq, Option.isSome_some, if_true, List.getElem?_cons_succ]
          rw [h1]; congr 2; omega
        · simp only [tearAll, hq, List.getElem?_cons_succ]
          rw [h2]
          simp
      · intro hb
        simp only [tearAll, hq, List.getElem?_cons_succ]; exact i2 hb

theorem tearAll_length : ∀ (pg : List Pg) (picks : List Int), (tearAll pg picks).length = pg.length
  | [], _ => rfl
  | p :: r, picks => by
    cases hp : p.new <;> simp [tearAll, hp, tearAll_length r]

/-- The pages after the first k pending ones were torn. -/
structure Torn (pg T pgs : List Pg) (ps : List Int) : Prop where
  len : pgs.length = pg.length
  at_ : ∀ i : Nat, pgs[i]? = if (i : Int) ∈ ps then T[i]? else pg[i]?

theorem Torn.start (pg T : List Pg) : Torn pg T pg [] := ⟨rfl, fun i => by simp⟩
theorem Torn.step {pg T pgs : List Pg} {ps : List Int} {i : Nat} {q : Pg} (h : Torn pg T pgs ps) (hq : T[i]? = some q) (hi : i < pg.length) : Torn pg T (pgs.set i q) (ps ++ [(i : Int)]) := by
  refine ⟨by simp [h.len], fun j => ?_⟩
  rw [List.getElem?_set]
  by_cases e : i = j
  · subst e
    rw [if_pos rfl, if_pos (by rw [h.len]; exact hi), if_pos (by simp), hq]
  · rw [if_neg e, h.at_ j]
    have : ((j : Int) ∈ ps ++ [(i : Int)]) ↔ (j : Int) ∈ ps := by simp; omega
    simp only [this]
theorem Torn.end_ {pg pgs : List Pg} {picks : List Int} (h : Torn pg (tearAll pg picks) pgs (pendingFrom 0 pg)) : pgs = tearAll pg picks := by
  apply List.ext_getElem?
  intro i
  rw [h.at_ i]
  split
  · rfl
  · rename_i hn
    cases hp : pg[i]? with
    | none =>
      have : (tearAll pg picks)[i]? = none := by rw [List.getElem?_eq_none_iff] at hp ⊢; rw [tearAll_length]; exact hp
      rw [this]
    | some p =>
      cases hb : p.new with
      | none => rw [(tear_get pg 0 picks i p hp).2 hb]
      | some b => exact absurd ((mem_pendingFrom pg 0 i).2 ⟨i, b, by simp, by simp [hp, hb]⟩) hn

theorem tear_none : ∀ {pg : List Pg} {picks : List Int}, ∀ p ∈ tearAll pg picks, p.new = none
  | [], _, p, h => by simp [tearAll] at h
  | q :: r, picks, p, h => by
    cases hq : q.new with
    | none =>
      simp only [tearAll, hq, List.mem_cons] at h
      rcases h with rfl | h
      · exact hq
      · exact tear_none p h
    | some b =>
      simp only [tearAll, hq, List.mem_cons] at h
      rcases h with rfl | h
      · simp [Pg.tear, hq]
      · exact tear_none p h

theorem clamp_eq (p : Int) : ((clamp p : Nat) : Int) = min (max p 0) 128 := by unfold clamp; omega
theorem clamp_le (p : Int) : clamp p ≤ 128 := by unfold clamp; omega

theorem tear_old {p : Pg} {b : Bytes} {k : Nat} (hb : p.new = some b) : (p.tear k) = ⟨b.take k ++ p.old.drop k, none⟩ := by simp [Pg.tear, hb]

theorem rows_split (pgs : List Pg) (i : Nat) (p : Pg) (ho : ∀ q ∈ pgs, q.old.length = 128) (hp : pgs[i]? = some p) : ∃ X Z, rows pgs = X ++ cellsOf p.old ++ Z ∧ X.length = i * 128 := by
  obtain ⟨hi, hpi⟩ := List.getElem?_eq_some_iff.1 hp
  refine ⟨rows (pgs.take i), rows (pgs.drop (i + 1)), ?_, ?_⟩
  · have : pgs = pgs.take i ++ p :: pgs.drop (i + 1) := by
      rw [← hpi, ← List.drop_eq_getElem_cons hi, List.take_append_drop]
    conv => lhs; rw [this]
    simp [rows]
  · rw [rows_length _ (fun q hq => ho q (List.mem_of_mem_take hq)), List.length_take]
    rw [Nat.min_eq_left (by omega), Nat.mul_comm]

theorem splice_row (R : List Value) (o k : Nat) (p : Pg) (b : Bytes) (hR : ∃ X Z, R = X ++ cellsOf p.old ++ Z ∧ X.length = o) (hp : p.old.length = 128) (_hb : b.length = 128) (hk : k ≤ 128) :
    R.take o ++ cellsOf (b.take k) ++ R.drop (o + k) = R.take o ++ cellsOf (b.take k ++ p.old.drop k) ++ R.drop (o + 128) := by
  obtain ⟨X, Z, rfl, rfl⟩ := hR
  have hl : (cellsOf p.old).length = 128 := by rw [cellsOf_length, hp]
  have e1 : (X ++ cellsOf p.old ++ Z).drop (X.length + k) = cellsOf (p.old.drop k) ++ Z := by
    rw [List.append_assoc, List.drop_append, List.drop_of_length_le (by omega), List.nil_append, Nat.add_sub_cancel_left, List.drop_append_of_le_length (by omega)]
    simp [cellsOf]
  have e2 : (X ++ cellsOf p.old ++ Z).drop (X.length + 128) = Z := by
    rw [List.append_assoc, List.drop_append, List.drop_of_length_le (by omega), List.nil_append, Nat.add_sub_cancel_left, List.drop_append, List.drop_of_length_le (by omega), List.nil_append, hl]
    simp
  rw [e1, e2]
  simp [cellsOf]

section
variable {w : World} {L : DL} {d : Disk}

theorem own_read {base n : Nat} {E : TypeId} {p : Option Addr} {m c : Nat} {xs : List Value} (h : w.ownsRow base E 1 (.slice p m c) n xs) : m = n ∧ ∀ j, j < n → ∀ v : Value, xs[j]? = some v → ∃ g, p = some ⟨g, 0, none⟩ ∧ w.cell? ⟨g, j, none⟩ = some v := by
  rcases h.2 with ⟨h1, rfl⟩ | ⟨g, cap, cur, h1, _, hg, _, _, hs, ht⟩
  · cases h1
    exact ⟨rfl, fun j hj => absurd hj (by omega)⟩
  · cases h1
    refine ⟨rfl, fun j hj v hv => ⟨g, rfl, ?_⟩⟩
    rw [cell_of_row w g j cur _ _ hg]
    rw [← ht, List.getElem?_take, if_pos (by omega)] at hv
    simpa using hv

set_option maxRecDepth 100000 in
theorem dMount_calls (h : DiskAt w L d) (B : Nat → Prop) (pv : Value) (picks : List Int) (hp : IntsAt B w pv picks) (hB : ∀ k ∈ L.all, ¬ B k) : Calls Tryz.prog 8 #[Dp L, pv] w fun e w' =>
    e = .returned (.tuple #[]) ∧ DiskAt w' L (d.mount picks) ∧ Fr L.all w w' := by
  have few := h.ok.few
  obtain ⟨A, pc, rfl, _⟩ := id hp
  go_enter Tryz.func8, Tryz.ntmps8
  go_wp2_with fail
  refine (dPending_calls h).mono ?_
  rintro e w1 ⟨v, rfl, hown, f1⟩
  obtain ⟨vp, vm, vc, rfl⟩ := ownsRow_len hown
  obtain ⟨_, hread⟩ := own_read hown
  have D1 := h.fr0 f1
  have hp1 := hp.fr f1 (by simp)
  obtain ⟨l, c, hm1, hP⟩ := D1.hm
  have hplen : d.pending.length ≤ 4096 := Nat.le_trans (pendingFrom_len d.pg 0) few
  go_wp2_with (first | (with_reducible refine wpL_stop (o := ⟨_, .alloc 59, _, _, _, none⟩) ?_) | (with_reducible refine wpL_stop (o := ⟨_, .load 59 _, _, _, _, none⟩) ?_) | (with_reducible refine wpL_stop (o := ⟨_, .store 59 _ _, _, _, _, none⟩) ?_) | (with_reducible refine wpL_stop (o := ⟨_, .lookup _ _ _ _, _, _, _, none⟩) ?_) | (with_reducible refine wpL_stop (o := ⟨_, .box 59 _, _, _, _, none⟩) ?_) | (with_reducible refine wpL_stop (o := ⟨_, .next _ _, _, _, _, none⟩) ?_) | (with_reducible refine wpL_stop (o := ⟨_, .range _ _, _, _, _, none⟩) ?_) | (with_reducible refine wpL_stop (o := ⟨_, .mapUpdate _ _ _ _, _, _, _, none⟩) ?_) | (with_reducible refine wpL_stop (o := ⟨_, .convert 23 9 _, _, _, _, none⟩) ?_) | (with_reducible refine wpL_stop (o := ⟨_, .convert 9 23 _, _, _, _, none⟩) ?_) | (with_reducible refine wpL_stop (o := ⟨_, .call { callee := .builtin .copy, args := _, argTypes := _ }, _, _, _, none⟩) ?_) | (with_reducible refine wpL_stop (o := ⟨_, .call { callee := .builtin .append, args := _, argTypes := _ }, _, _, _, none⟩) ?_) | (with_reducible refine wpL_stop (o := ⟨_, .call { callee := .builtin .clear, args := _, argTypes := _ }, _, _, _, none⟩) ?_) | (with_reducible refine wpL_stop (o := ⟨_, .makeSlice _ _ _, _, _, _, none⟩) ?_) | (with_reducible refine wpL_stop (o := ⟨_, .makeMap _ _, _, _, _, none⟩) ?_) | (with_reducible refine wpL_stop (o := ⟨_, .entry _, _, _, _, none⟩) ?_) | (with_reducible refine wpL_stop (o := ⟨_, .call { callee := .builtin .max, args := _, argTypes := _ }, _, _, _, none⟩) ?_) | (with_reducible refine wpL_stop (o := ⟨_, .call { callee := .builtin .min, args := _, argTypes := _ }, _, _, _, none⟩) ?_) | (with_reducible refine wpL_stop (o := ⟨_, .slice 59 _ none (some _) none, _, _, _, none⟩) ?_) | (with_reducible refine wpL_stop (o := ⟨_, .binOp .add 9 _ _ _, _, _, _, none⟩) ?_) | (with_reducible refine wpL_stop (o := ⟨_, .slice 9 _ _ _ _, _, _, _, none⟩) ?_))
  go_loopg [11] d.pending.length (fun kq v w' => ∃ (n : Nat) (pgs : List Pg), v = .int .i64 n ∧ n ≤ d.pending.length ∧ Hid (kq + n = d.pending.length) ∧ Torn d.pg (tearAll d.pg picks) pgs (d.pending.take n) ∧
    Hid (w'.heap[L.pb]? = some (.cells (rows pgs).toArray 59 (0, 0))) ∧ (∀ p ∈ pgs, p.old.length = 128) ∧ Fr [L.pb] w1 w')
  case atStart => exact ⟨0, d.pg, rfl, by omega, by simp [Hid], by simpa using Torn.start _ _, D1.hp, D1.ok.olds, Fr.refl _ _⟩
  case round =>
    obtain ⟨n, pgs, rfl, hn, hk, HF, hpr, hol, fr⟩ := hrel
    by_cases hlt : n < d.pending.length
    · have hlt' : (n : Int) < (d.pending.length : Int) := by omega
      have hpn : d.pending[n]? = some d.pending[n] := List.getElem?_eq_getElem hlt
      obtain ⟨i, b, hiv, hib⟩ := (mem_pendingFrom d.pg 0 d.pending[n]).1 (List.getElem_mem hlt)
      rw [show ((0 : Nat) : Int) + (i : Int) = (i : Int) from by omega] at hiv
      obtain ⟨p, hp0, hbn⟩ : ∃ p, d.pg[i]? = some p ∧ p.new = some b := by
        cases hq : d.pg[i]? with
        | none => simp [hq] at hib
        | some p => exact ⟨p, rfl, by simpa [hq] using hib⟩
      have hi : i < d.pg.length := (List.getElem?_eq_some_iff.1 hp0).1
      have hi' : (i : Int) < (d.pg.length : Int) := by omega
      have hpm := List.mem_of_getElem? hp0
      have hlb := D1.ok.news p hpm b hbn
      have hpol := D1.ok.olds p hpm
      have hpo : pendOf d.pg (i : Int) = some b := by simp [pendOf, hib]
      have hnd : d.pending.Nodup := (pendingFrom_sorted d.pg 0).imp (by intro a b h; omega)
      have hnot : (i : Int) ∉ d.pending.take n := by
        intro hm
        obtain ⟨j, hj, hje⟩ := List.mem_iff_getElem.1 hm
        rw [List.getElem_take] at hje
        rw [List.length_take] at hj
        have := nodup_get_eq hnd (i := j) (j := n) (by omega) hlt (by rw [hje, hiv])
        omega
      obtain ⟨j, hj1, hT⟩ := (tear_get d.pg 0 picks i p hp0).1 b hbn
      obtain rfl : j = n := by
        obtain ⟨hjl, hje⟩ := List.getElem?_eq_some_iff.1 hj1
        refine nodup_get_eq hnd hjl hlt ?_
        show (pendingFrom 0 d.pg)[j] = _
        rw [hje, hiv]; simp
      have hsnoc : d.pending.take (j + 1) = d.pending.take j ++ [(i : Int)] := by
        rw [List.take_succ_eq_append_getElem hlt, hiv]
      have hic : ∃ g, vp = some ⟨g, 0, none⟩ ∧ wr.cell? ⟨g, j, none⟩ = some (.int .i64 i) := by
        obtain ⟨g, rfl, hcell⟩ := hread j hlt (.int .i64 i) (by simp [intv, hpn, hiv])
        refine ⟨g, rfl, ?_⟩
        have hgb := hown.lt g rfl
        rw [World.cell?_of_block (fr.block g hgb.2 (by have := h.lt L.pb (by simp [DL.all]); simp; omega))]
        exact hcell
      obtain ⟨g, rfl, hgc⟩ := hic
      have hk' := hk
      clear hread hpn
      by_cases hpk : j < picks.length
      · have hpk' : (j : Int) < (picks.length : Int) := by omega
        obtain ⟨A', pc', hA, hcs⟩ := hp1.fr fr (S := [L.pb]) (by simpa using hB L.pb (by simp [DL.all]))
        cases hA
        obtain ⟨ad, rfl, hadB, hcell⟩ := hcs j hpk
        have hx : picks[j]?.getD 128 = picks[j] := by simp [hpk]
        rw [hx] at hT
        obtain ⟨x, hx2⟩ : ∃ x, x = picks[j] := ⟨_, rfl⟩
        rw [← hx2] at hT hcell
        clear hcs hx hx2
        have hcl := clamp_eq x
        have HC := Lib.hid hcl
        clear hcl
        go_wp2_with (first | (with_reducible refine wpL_stop (o := ⟨_, .alloc 59, _, _, _, none⟩) ?_) | (with_reducible refine wpL_stop (o := ⟨_, .load 59 _, _, _, _, none⟩) ?_) | (with_reducible refine wpL_stop (o := ⟨_, .store 59 _ _, _, _, _, none⟩) ?_) | (with_reducible refine wpL_stop (o := ⟨_, .lookup _ _ _ _, _, _, _, none⟩) ?_) | (with_reducible refine wpL_stop (o := ⟨_, .box 59 _, _, _, _, none⟩) ?_) | (with_reducible refine wpL_stop (o := ⟨_, .next _ _, _, _, _, none⟩) ?_) | (with_reducible refine wpL_stop (o := ⟨_, .range _ _, _, _, _, none⟩) ?_) | (with_reducible refine wpL_stop (o := ⟨_, .mapUpdate _ _ _ _, _, _, _, none⟩) ?_) | (with_reducible refine wpL_stop (o := ⟨_, .convert 23 9 _, _, _, _, none⟩) ?_) | (with_reducible refine wpL_stop (o := ⟨_, .convert 9 23 _, _, _, _, none⟩) ?_) | (with_reducible refine wpL_stop (o := ⟨_, .call { callee := .builtin .copy, args := _, argTypes := _ }, _, _, _, none⟩) ?_) | (with_reducible refine wpL_stop (o := ⟨_, .call { callee := .builtin .append, args := _, argTypes := _ }, _, _, _, none⟩) ?_) | (with_reducible refine wpL_stop (o := ⟨_, .call { callee := .builtin .clear, args := _, argTypes := _ }, _, _, _, none⟩) ?_) | (with_reducible refine wpL_stop (o := ⟨_, .makeSlice _ _ _, _, _, _, none⟩) ?_) | (with_reducible refine wpL_stop (o := ⟨_, .makeMap _ _, _, _, _, none⟩) ?_) | (with_reducible refine wpL_stop (o := ⟨_, .entry _, _, _, _, none⟩) ?_) | (with_reducible refine wpL_stop (o := ⟨_, .call { callee := .builtin .max, args := _, argTypes := _ }, _, _, _, none⟩) ?_) | (with_reducible refine wpL_stop (o := ⟨_, .call { callee := .builtin .min, args := _, argTypes := _ }, _, _, _, none⟩) ?_) | (with_reducible refine wpL_stop (o := ⟨_, .slice 59 _ none (some _) none, _, _, _, none⟩) ?_) | (with_reducible refine wpL_stop (o := ⟨_, .binOp .add 9 _ _ _, _, _, _, none⟩) ?_) | (with_reducible refine wpL_stop (o := ⟨_, .slice 9 _ _ _ _, _, _, _, none⟩) ?_))
        refine unhold (wpL_max rfl _ _ _ _ rfl x 0 rfl rfl ?_)
        go_wp2_with (first | (with_reducible refine wpL_stop (o := ⟨_, .alloc 59, _, _, _, none⟩) ?_) | (with_reducible refine wpL_stop (o := ⟨_, .load 59 _, _, _, _, none⟩) ?_) | (with_reducible refine wpL_stop (o := ⟨_, .store 59 _ _, _, _, _, none⟩) ?_) | (with_reducible refine wpL_stop (o := ⟨_, .lookup _ _ _ _, _, _, _, none⟩) ?_) | (with_reducible refine wpL_stop (o := ⟨_, .box 59 _, _, _, _, none⟩) ?_) | (with_reducible refine wpL_stop (o := ⟨_, .next _ _, _, _, _, none⟩) ?_) | (with_reducible refine wpL_stop (o := ⟨_, .range _ _, _, _, _, none⟩) ?_) | (with_reducible refine wpL_stop (o := ⟨_, .mapUpdate _ _ _ _, _, _, _, none⟩) ?_) | (with_reducible refine wpL_stop (o := ⟨_, .convert 23 9 _, _, _, _, none⟩) ?_) | (with_reducible refine wpL_stop (o := ⟨_, .convert 9 23 _, _, _, _, none⟩) ?_) | (with_reducible refine wpL_stop (o := ⟨_, .call { callee := .builtin .copy, args := _, argTypes := _ }, _, _, _, none⟩) ?_) | (with_reducible refine wpL_stop (o := ⟨_, .call { callee := .builtin .append, args := _, argTypes := _ }, _, _, _, none⟩) ?_) | (with_reducible refine wpL_stop (o := ⟨_, .call { callee := .builtin .clear, args := _, argTypes := _ }, _, _, _, none⟩) ?_) | (with_reducible refine wpL_stop (o := ⟨_, .makeSlice _ _ _, _, _, _, none⟩) ?_) | (with_reducible refine wpL_stop (o := ⟨_, .makeMap _ _, _, _, _, none⟩) ?_) | (with_reducible refine wpL_stop (o := ⟨_, .entry _, _, _, _, none⟩) ?_) | (with_reducible refine wpL_stop (o := ⟨_, .call { callee := .builtin .max, args := _, argTypes := _ }, _, _, _, none⟩) ?_) | (with_reducible refine wpL_stop (o := ⟨_, .call { callee := .builtin .min, args := _, argTypes := _ }, _, _, _, none⟩) ?_) | (with_reducible refine wpL_stop (o := ⟨_, .slice 59 _ none (some _) none, _, _, _, none⟩) ?_) | (with_reducible refine wpL_stop (o := ⟨_, .binOp .add 9 _ _ _, _, _, _, none⟩) ?_) | (with_reducible refine wpL_stop (o := ⟨_, .slice 9 _ _ _ _, _, _, _, none⟩) ?_))
        refine unhold (wpL_min rfl _ _ _ _ rfl (max x 0) 128 rfl rfl ?_)
        rw [← HC.out]
        have c1r : wr.cell? ⟨L.b, 1, none⟩ = some (.map (some L.mb)) := blk_cell (fr.heap D1.hb (by simpa using D1.ne1)) 1 rfl
        have hmr := Lib.hid (fr.heap hm1 (by simpa using Ne.symm D1.ne3))
        go_wp2_with (first | (with_reducible refine wpL_stop (o := ⟨_, .alloc 59, _, _, _, none⟩) ?_) | (with_reducible refine wpL_stop (o := ⟨_, .load 59 _, _, _, _, none⟩) ?_) | (with_reducible refine wpL_stop (o := ⟨_, .store 59 _ _, _, _, _, none⟩) ?_) | (with_reducible refine wpL_stop (o := ⟨_, .lookup _ _ _ _, _, _, _, none⟩) ?_) | (with_reducible refine wpL_stop (o := ⟨_, .box 59 _, _, _, _, none⟩) ?_) | (with_reducible refine wpL_stop (o := ⟨_, .next _ _, _, _, _, none⟩) ?_) | (with_reducible refine wpL_stop (o := ⟨_, .range _ _, _, _, _, none⟩) ?_) | (with_reducible refine wpL_stop (o := ⟨_, .mapUpdate _ _ _ _, _, _, _, none⟩) ?_) | (with_reducible refine wpL_stop (o := ⟨_, .convert 23 9 _, _, _, _, none⟩) ?_) | (with_reducible refine wpL_stop (o := ⟨_, .convert 9 23 _, _, _, _, none⟩) ?_) | (with_reducible refine wpL_stop (o := ⟨_, .call { callee := .builtin .copy, args := _, argTypes := _ }, _, _, _, none⟩) ?_) | (with_reducible refine wpL_stop (o := ⟨_, .call { callee := .builtin .append, args := _, argTypes := _ }, _, _, _, none⟩) ?_) | (with_reducible refine wpL_stop (o := ⟨_, .call { callee := .builtin .clear, args := _, argTypes := _ }, _, _, _, none⟩) ?_) | (with_reducible refine wpL_stop (o := ⟨_, .makeSlice _ _ _, _, _, _, none⟩) ?_) | (with_reducible refine wpL_stop (o := ⟨_, .makeMap _ _, _, _, _, none⟩) ?_) | (with_reducible refine wpL_stop (o := ⟨_, .entry _, _, _, _, none⟩) ?_) | (with_reducible refine wpL_stop (o := ⟨_, .call { callee := .builtin .max, args := _, argTypes := _ }, _, _, _, none⟩) ?_) | (with_reducible refine wpL_stop (o := ⟨_, .call { callee := .builtin .min, args := _, argTypes := _ }, _, _, _, none⟩) ?_) | (with_reducible refine wpL_stop (o := ⟨_, .slice 59 _ none (some _) none, _, _, _, none⟩) ?_) | (with_reducible refine wpL_stop (o := ⟨_, .binOp .add 9 _ _ _, _, _, _, none⟩) ?_) | (with_reducible refine wpL_stop (o := ⟨_, .slice 9 _ _ _ _, _, _, _, none⟩) ?_))
        refine unhold (wpL_get_pend rfl 53 _ _ rfl 3 59 Tryz.underlying53 Tryz.underlying3 L.mb rfl i rfl l c d.pg hmr.out hP b hpo ?_)
        go_wp2_with (first | (with_reducible refine wpL_stop (o := ⟨_, .alloc 59, _, _, _, none⟩) ?_) | (with_reducible refine wpL_stop (o := ⟨_, .load 59 _, _, _, _, none⟩) ?_) | (with_reducible refine wpL_stop (o := ⟨_, .store 59 _ _, _, _, _, none⟩) ?_) | (with_reducible refine wpL_stop (o := ⟨_, .lookup _ _ _ _, _, _, _, none⟩) ?_) | (with_reducible refine wpL_stop (o := ⟨_, .box 59 _, _, _, _, none⟩) ?_) | (with_reducible refine wpL_stop (o := ⟨_, .next _ _, _, _, _, none⟩) ?_) | (with_reducible refine wpL_stop (o := ⟨_, .range _ _, _, _, _, none⟩) ?_) | (with_reducible refine wpL_stop (o := ⟨_, .mapUpdate _ _ _ _, _, _, _, none⟩) ?_) | (with_reducible refine wpL_stop (o := ⟨_, .convert 23 9 _, _, _, _, none⟩) ?_) | (with_reducible refine wpL_stop (o := ⟨_, .convert 9 23 _, _, _, _, none⟩) ?_) | (with_reducible refine wpL_stop (o := ⟨_, .call { callee := .builtin .copy, args := _, argTypes := _ }, _, _, _, none⟩) ?_) | (with_reducible refine wpL_stop (o := ⟨_, .call { callee := .builtin .append, args := _, argTypes := _ }, _, _, _, none⟩) ?_) | (with_reducible refine wpL_stop (o := ⟨_, .call { callee := .builtin .clear, args := _, argTypes := _ }, _, _, _, none⟩) ?_) | (with_reducible refine wpL_stop (o := ⟨_, .makeSlice _ _ _, _, _, _, none⟩) ?_) | (with_reducible refine wpL_stop (o := ⟨_, .makeMap _ _, _, _, _, none⟩) ?_) | (with_reducible refine wpL_stop (o := ⟨_, .entry _, _, _, _, none⟩) ?_) | (with_reducible refine wpL_stop (o := ⟨_, .call { callee := .builtin .max, args := _, argTypes := _ }, _, _, _, none⟩) ?_) | (with_reducible refine wpL_stop (o := ⟨_, .call { callee := .builtin .min, args := _, argTypes := _ }, _, _, _, none⟩) ?_) | (with_reducible refine wpL_stop (o := ⟨_, .slice 59 _ none (some _) none, _, _, _, none⟩) ?_) | (with_reducible refine wpL_stop (o := ⟨_, .binOp .add 9 _ _ _, _, _, _, none⟩) ?_) | (with_reducible refine wpL_stop (o := ⟨_, .slice 9 _ _ _ _, _, _, _, none⟩) ?_))
        refine unhold (wpL_alloc rfl 59 rfl _ pageZero ?_)
        intro w3 g3 f3 s3
        go_wp2_with (first | (with_reducible refine wpL_stop (o := ⟨_, .alloc 59, _, _, _, none⟩) ?_) | (with_reducible refine wpL_stop (o := ⟨_, .load 59 _, _, _, _, none⟩) ?_) | (with_reducible refine wpL_stop (o := ⟨_, .store 59 _ _, _, _, _, none⟩) ?_) | (with_reducible refine wpL_stop (o := ⟨_, .lookup _ _ _ _, _, _, _, none⟩) ?_) | (with_reducible refine wpL_stop (o := ⟨_, .box 59 _, _, _, _, none⟩) ?_) | (with_reducible refine wpL_stop (o := ⟨_, .next _ _, _, _, _, none⟩) ?_) | (with_reducible refine wpL_stop (o := ⟨_, .range _ _, _, _, _, none⟩) ?_) | (with_reducible refine wpL_stop (o := ⟨_, .mapUpdate _ _ _ _, _, _, _, none⟩) ?_) | (with_reducible refine wpL_stop (o := ⟨_, .convert 23 9 _, _, _, _, none⟩) ?_) | (with_reducible refine wpL_stop (o := ⟨_, .convert 9 23 _, _, _, _, none⟩) ?_) | (with_reducible refine wpL_stop (o := ⟨_, .call { callee := .builtin .copy, args := _, argTypes := _ }, _, _, _, none⟩) ?_) | (with_reducible refine wpL_stop (o := ⟨_, .call { callee := .builtin .append, args := _, argTypes := _ }, _, _, _, none⟩) ?_) | (with_reducible refine wpL_stop (o := ⟨_, .call { callee := .builtin .clear, args := _, argTypes := _ }, _, _, _, none⟩) ?_) | (with_reducible refine wpL_stop (o := ⟨_, .makeSlice _ _ _, _, _, _, none⟩) ?_) | (with_reducible refine wpL_stop (o := ⟨_, .makeMap _ _, _, _, _, none⟩) ?_) | (with_reducible refine wpL_stop (o := ⟨_, .entry _, _, _, _, none⟩) ?_) | (with_reducible refine wpL_stop (o := ⟨_, .call { callee := .builtin .max, args := _, argTypes := _ }, _, _, _, none⟩) ?_) | (with_reducible refine wpL_stop (o := ⟨_, .call { callee := .builtin .min, args := _, argTypes := _ }, _, _, _, none⟩) ?_) | (with_reducible refine wpL_stop (o := ⟨_, .slice 59 _ none (some _) none, _, _, _, none⟩) ?_) | (with_reducible refine wpL_stop (o := ⟨_, .binOp .add 9 _ _ _, _, _, _, none⟩) ?_) | (with_reducible refine wpL_stop (o := ⟨_, .slice 9 _ _ _ _, _, _, _, none⟩) ?_))
        refine unhold (wpL_store0 rfl 59 _ _ rfl rfl wr.heap.size rfl (cellsOf b) rfl _ _ g3 (pageSizeOf _ (by rw [cellsOf_length, hlb])) (by rw [cellsOf_length, hlb, List.size_toArray, cellsOf_length]; rfl) (cellsOf_one _) ?_)
        intro w4 g4 f4 s4
        have f34 : Fr [] wr w4 := f3.then f4 (by simp)
        have F4 : Fr [L.pb] w1 w4 := fr.trans f34.any
        have c0r : w4.cell? ⟨L.b, 0, none⟩ = some (.slice (some ⟨L.pb, 0, none⟩) d.pg.length d.pg.length) := blk_cell (F4.heap D1.hb (by simpa using D1.ne1)) 0 rfl
        have G4 := Lib.hid g4
        have P4 := Lib.hid (f34.heap hpr.out (by simp))
        clear g3 g4
        go_wp2_with (first | (with_reducible refine wpL_stop (o := ⟨_, .alloc 59, _, _, _, none⟩) ?_) | (with_reducible refine wpL_stop (o := ⟨_, .load 59 _, _, _, _, none⟩) ?_) | (with_reducible refine wpL_stop (o := ⟨_, .store 59 _ _, _, _, _, none⟩) ?_) | (with_reducible refine wpL_stop (o := ⟨_, .lookup _ _ _ _, _, _, _, none⟩) ?_) | (with_reducible refine wpL_stop (o := ⟨_, .box 59 _, _, _, _, none⟩) ?_) | (with_reducible refine wpL_stop (o := ⟨_, .next _ _, _, _, _, none⟩) ?_) | (with_reducible refine wpL_stop (o := ⟨_, .range _ _, _, _, _, none⟩) ?_) | (with_reducible refine wpL_stop (o := ⟨_, .mapUpdate _ _ _ _, _, _, _, none⟩) ?_) | (with_reducible refine wpL_stop (o := ⟨_, .convert 23 9 _, _, _, _, none⟩) ?_) | (with_reducible refine wpL_stop (o := ⟨_, .convert 9 23 _, _, _, _, none⟩) ?_) | (with_reducible refine wpL_stop (o := ⟨_, .call { callee := .builtin .copy, args := _, argTypes := _ }, _, _, _, none⟩) ?_) | (with_reducible refine wpL_stop (o := ⟨_, .call { callee := .builtin .append, args := _, argTypes := _ }, _, _, _, none⟩) ?_) | (with_reducible refine wpL_stop (o := ⟨_, .call { callee := .builtin .clear, args := _, argTypes := _ }, _, _, _, none⟩) ?_) | (with_reducible refine wpL_stop (o := ⟨_, .makeSlice _ _ _, _, _, _, none⟩) ?_) | (with_reducible refine wpL_stop (o := ⟨_, .makeMap _ _, _, _, _, none⟩) ?_) | (with_reducible refine wpL_stop (o := ⟨_, .entry _, _, _, _, none⟩) ?_) | (with_reducible refine wpL_stop (o := ⟨_, .call { callee := .builtin .max, args := _, argTypes := _ }, _, _, _, none⟩) ?_) | (with_reducible refine wpL_stop (o := ⟨_, .call { callee := .builtin .min, args := _, argTypes := _ }, _, _, _, none⟩) ?_) | (with_reducible refine wpL_stop (o := ⟨_, .slice 59 _ none (some _) none, _, _, _, none⟩) ?_) | (with_reducible refine wpL_stop (o := ⟨_, .binOp .add 9 _ _ _, _, _, _, none⟩) ?_) | (with_reducible refine wpL_stop (o := ⟨_, .slice 9 _ _ _ _, _, _, _, none⟩) ?_))
        refine wp_region_still_tail 10 (by kernel_rfl) (by kernel_rfl) ?_
        simp only [List.take_succ_cons, List.take_zero, List.drop_succ_cons, List.drop_zero]
        iterate 7 still_step
        refine wpStill_val rfl (run_sliceTo _ _ _ rfl 128 5 Tryz.underlying59 byteSize (by decide) L.pb (i * 128) ?ptrA (clamp x) ?lenA (clamp_le x)) ?_
        case ptrA => show Value.pointer _ = _; simp
        case lenA => rfl
        still_step
        refine wpStill_val rfl (run_sliceTo _ _ _ rfl 128 5 Tryz.underlying59 byteSize (by decide) wr.heap.size 0 rfl (clamp x) ?len2A (clamp_le x)) ?_
        case len2A => rfl
        refine wpStill_nil ?_
        refine wpL_copy_row rfl _ _ _ _ 5 rfl Tryz.underlying23 byteSize L.pb (i * 128) (clamp x) 128 wr.heap.size 0 (clamp x) 128 rfl rfl (b.take (clamp x)) _ _ P4.out _ _ _ G4.out ?_ ?_ ?_ ?_
        · have := clamp_le x
          rw [List.length_take, hlb]
          show _ = min _ _
          omega
        · intro j hj
          rw [List.length_take, hlb] at hj
          have := clamp_le x
          simp only [cellsOf, Nat.zero_add, List.map_take, List.getElem?_toArray]
          rw [List.getElem?_take, if_pos (by omega)]
        · have := clamp_le x
          rw [List.length_take, hlb, List.size_toArray, rows_length _ hol, HF.len]
          omega
        intro w6 g6 f6 s6
        go_wp2_with (first | (with_reducible refine wpL_stop (o := ⟨_, .alloc 59, _, _, _, none⟩) ?_) | (with_reducible refine wpL_stop (o := ⟨_, .load 59 _, _, _, _, none⟩) ?_) | (with_reducible refine wpL_stop (o := ⟨_, .store 59 _ _, _, _, _, none⟩) ?_) | (with_reducible refine wpL_stop (o := ⟨_, .lookup _ _ _ _, _, _, _, none⟩) ?_) | (with_reducible refine wpL_stop (o := ⟨_, .box 59 _, _, _, _, none⟩) ?_) | (with_reducible refine wpL_stop (o := ⟨_, .next _ _, _, _, _, none⟩) ?_) | (with_reducible refine wpL_stop (o := ⟨_, .range _ _, _, _, _, none⟩) ?_) | (with_reducible refine wpL_stop (o := ⟨_, .mapUpdate _ _ _ _, _, _, _, none⟩) ?_) | (with_reducible refine wpL_stop (o := ⟨_, .convert 23 9 _, _, _, _, none⟩) ?_) | (with_reducible refine wpL_stop (o := ⟨_, .convert 9 23 _, _, _, _, none⟩) ?_) | (with_reducible refine wpL_stop (o := ⟨_, .call { callee := .builtin .copy, args := _, argTypes := _ }, _, _, _, none⟩) ?_) | (with_reducible refine wpL_stop (o := ⟨_, .call { callee := .builtin .append, args := _, argTypes := _ }, _, _, _, none⟩) ?_) | (with_reducible refine wpL_stop (o := ⟨_, .call { callee := .builtin .clear, args := _, argTypes := _ }, _, _, _, none⟩) ?_) | (with_reducible refine wpL_stop (o := ⟨_, .makeSlice _ _ _, _, _, _, none⟩) ?_) | (with_reducible refine wpL_stop (o := ⟨_, .makeMap _ _, _, _, _, none⟩) ?_) | (with_reducible refine wpL_stop (o := ⟨_, .entry _, _, _, _, none⟩) ?_) | (with_reducible refine wpL_stop (o := ⟨_, .call { callee := .builtin .max, args := _, argTypes := _ }, _, _, _, none⟩) ?_) | (with_reducible refine wpL_stop (o := ⟨_, .call { callee := .builtin .min, args := _, argTypes := _ }, _, _, _, none⟩) ?_) | (with_reducible refine wpL_stop (o := ⟨_, .slice 59 _ none (some _) none, _, _, _, none⟩) ?_) | (with_reducible refine wpL_stop (o := ⟨_, .binOp .add 9 _ _ _, _, _, _, none⟩) ?_) | (with_reducible refine wpL_stop (o := ⟨_, .slice 9 _ _ _ _, _, _, _, none⟩) ?_))
        go_roundg (gk - 1)
        case measure => have := hk.out; omega
        case rel =>
          have f46 : Fr [L.pb] w4 w6 := ⟨f6.os, f6.tape, f6.output, f6.size, f6.block⟩
          have hTi : (tearAll d.pg picks)[i]? = some ⟨b.take (clamp x) ++ p.old.drop (clamp x), none⟩ := by rw [hT, tear_old hbn]
          have hql : (b.take (clamp x) ++ p.old.drop (clamp x)).length = 128 := by
            have := clamp_le x
            rw [List.length_append, List.length_take, List.length_drop, hlb, hpol]; omega
          have hset := HF.step hTi hi
          rw [← hsnoc] at hset
          refine ⟨j + 1, _, by go_num, by omega, ?_, hset, ?_, ?_, F4.trans f46⟩
          · have := hk.out; unfold Hid; omega
          · have hpi : pgs[i]? = some p := by
              rw [HF.at_ i, if_neg hnot]; exact hp0
            obtain ⟨hil, hip⟩ := List.getElem?_eq_some_iff.1 hpi
            unfold Hid
            rw [g6, rows_set pgs i ⟨_, none⟩ hol hql (by rw [HF.len]; exact hi)]
            have hlt2 : (b.take (clamp x)).length = clamp x := by have := clamp_le x; rw [List.length_take, hlb]; omega
            have hrow := rows_split pgs i p hol hpi
            rw [hlt2]
            have := splice_row (rows pgs) (i * 128) (clamp x) p b hrow hpol hlb (clamp_le x)
            rw [this]
          · intro q hq
            rcases List.mem_or_eq_of_mem_set hq with hq | rfl
            · exact hol q hq
            · exact hql
      · obtain ⟨x, hx2⟩ : ∃ x : Int, x = 128 := ⟨_, rfl⟩
        have hx : picks[j]?.getD 128 = x := by rw [hx2, List.getElem?_eq_none (by omega)]; rfl
        rw [hx] at hT
        have HC : Hid (x = 128) := hx2
        have hpk' : ¬ ((j : Int) < (picks.length : Int)) := by omega
        clear hx hx2
        have c1r : wr.cell? ⟨L.b, 1, none⟩ = some (.map (some L.mb)) := blk_cell (fr.heap D1.hb (by simpa using D1.ne1)) 1 rfl
        have hmr := Lib.hid (fr.heap hm1 (by simpa using Ne.symm D1.ne3))
        go_wp2_with (first | (with_reducible refine wpL_stop (o := ⟨_, .alloc 59, _, _, _, none⟩) ?_) | (with_reducible refine wpL_stop (o := ⟨_, .load 59 _, _, _, _, none⟩) ?_) | (with_reducible refine wpL_stop (o := ⟨_, .store 59 _ _, _, _, _, none⟩) ?_) | (with_reducible refine wpL_stop (o := ⟨_, .lookup _ _ _ _, _, _, _, none⟩) ?_) | (with_reducible refine wpL_stop (o := ⟨_, .box 59 _, _, _, _, none⟩) ?_) | (with_reducible refine wpL_stop (o := ⟨_, .next _ _, _, _, _, none⟩) ?_) | (with_reducible refine wpL_stop (o := ⟨_, .range _ _, _, _, _, none⟩) ?_) | (with_reducible refine wpL_stop (o := ⟨_, .mapUpdate _ _ _ _, _, _, _, none⟩) ?_) | (with_reducible refine wpL_stop (o := ⟨_, .convert 23 9 _, _, _, _, none⟩) ?_) | (with_reducible refine wpL_stop (o := ⟨_, .convert 9 23 _, _, _, _, none⟩) ?_) | (with_reducible refine wpL_stop (o := ⟨_, .call { callee := .builtin .copy, args := _, argTypes := _ }, _, _, _, none⟩) ?_) | (with_reducible refine wpL_stop (o := ⟨_, .call { callee := .builtin .append, args := _, argTypes := _ }, _, _, _, none⟩) ?_) | (with_reducible refine wpL_stop (o := ⟨_, .call { callee := .builtin .clear, args := _, argTypes := _ }, _, _, _, none⟩) ?_) | (with_reducible refine wpL_stop (o := ⟨_, .makeSlice _ _ _, _, _, _, none⟩) ?_) | (with_reducible refine wpL_stop (o := ⟨_, .makeMap _ _, _, _, _, none⟩) ?_) | (with_reducible refine wpL_stop (o := ⟨_, .entry _, _, _, _, none⟩) ?_) | (with_reducible refine wpL_stop (o := ⟨_, .call { callee := .builtin .max, args := _, argTypes := _ }, _, _, _, none⟩) ?_) | (with_reducible refine wpL_stop (o := ⟨_, .call { callee := .builtin .min, args := _, argTypes := _ }, _, _, _, none⟩) ?_) | (with_reducible refine wpL_stop (o := ⟨_, .slice 59 _ none (some _) none, _, _, _, none⟩) ?_) | (with_reducible refine wpL_stop (o := ⟨_, .binOp .add 9 _ _ _, _, _, _, none⟩) ?_) | (with_reducible refine wpL_stop (o := ⟨_, .slice 9 _ _ _ _, _, _, _, none⟩) ?_))
        refine unhold (wpL_get_pend rfl 53 _ _ rfl 3 59 Tryz.underlying53 Tryz.underlying3 L.mb rfl i rfl l c d.pg hmr.out hP b hpo ?_)
        go_wp2_with (first | (with_reducible refine wpL_stop (o := ⟨_, .alloc 59, _, _, _, none⟩) ?_) | (with_reducible refine wpL_stop (o := ⟨_, .load 59 _, _, _, _, none⟩) ?_) | (with_reducible refine wpL_stop (o := ⟨_, .store 59 _ _, _, _, _, none⟩) ?_) | (with_reducible refine wpL_stop (o := ⟨_, .lookup _ _ _ _, _, _, _, none⟩) ?_) | (with_reducible refine wpL_stop (o := ⟨_, .box 59 _, _, _, _, none⟩) ?_) | (with_reducible refine wpL_stop (o := ⟨_, .next _ _, _, _, _, none⟩) ?_) | (with_reducible refine wpL_stop (o := ⟨_, .range _ _, _, _, _, none⟩) ?_) | (with_reducible refine wpL_stop (o := ⟨_, .mapUpdate _ _ _ _, _, _, _, none⟩) ?_) | (with_reducible refine wpL_stop (o := ⟨_, .convert 23 9 _, _, _, _, none⟩) ?_) | (with_reducible refine wpL_stop (o := ⟨_, .convert 9 23 _, _, _, _, none⟩) ?_) | (with_reducible refine wpL_stop (o := ⟨_, .call { callee := .builtin .copy, args := _, argTypes := _ }, _, _, _, none⟩) ?_) | (with_reducible refine wpL_stop (o := ⟨_, .call { callee := .builtin .append, args := _, argTypes := _ }, _, _, _, none⟩) ?_) | (with_reducible refine wpL_stop (o := ⟨_, .call { callee := .builtin .clear, args := _, argTypes := _ }, _, _, _, none⟩) ?_) | (with_reducible refine wpL_stop (o := ⟨_, .makeSlice _ _ _, _, _, _, none⟩) ?_) | (with_reducible refine wpL_stop (o := ⟨_, .makeMap _ _, _, _, _, none⟩) ?_) | (with_reducible refine wpL_stop (o := ⟨_, .entry _, _, _, _, none⟩) ?_) | (with_reducible refine wpL_stop (o := ⟨_, .call { callee := .builtin .max, args := _, argTypes := _ }, _, _, _, none⟩) ?_) | (with_reducible refine wpL_stop (o := ⟨_, .call { callee := .builtin .min, args := _, argTypes := _ }, _, _, _, none⟩) ?_) | (with_reducible refine wpL_stop (o := ⟨_, .slice 59 _ none (some _) none, _, _, _, none⟩) ?_) | (with_reducible refine wpL_stop (o := ⟨_, .binOp .add 9 _ _ _, _, _, _, none⟩) ?_) | (with_reducible refine wpL_stop (o := ⟨_, .slice 9 _ _ _ _, _, _, _, none⟩) ?_))
        refine unhold (wpL_alloc rfl 59 rfl _ pageZero ?_)
        intro w3 g3 f3 s3
        go_wp2_with (first | (with_reducible refine wpL_stop (o := ⟨_, .alloc 59, _, _, _, none⟩) ?_) | (with_reducible refine wpL_stop (o := ⟨_, .load 59 _, _, _, _, none⟩) ?_) | (with_reducible refine wpL_stop (o := ⟨_, .store 59 _ _, _, _, _, none⟩) ?_) | (with_reducible refine wpL_stop (o := ⟨_, .lookup _ _ _ _, _, _, _, none⟩) ?_) | (with_reducible refine wpL_stop (o := ⟨_, .box 59 _, _, _, _, none⟩) ?_) | (with_reducible refine wpL_stop (o := ⟨_, .next _ _, _, _, _, none⟩) ?_) | (with_reducible refine wpL_stop (o := ⟨_, .range _ _, _, _, _, none⟩) ?_) | (with_reducible refine wpL_stop (o := ⟨_, .mapUpdate _ _ _ _, _, _, _, none⟩) ?_) | (with_reducible refine wpL_stop (o := ⟨_, .convert 23 9 _, _, _, _, none⟩) ?_) | (with_reducible refine wpL_stop (o := ⟨_, .convert 9 23 _, _, _, _, none⟩) ?_) | (with_reducible refine wpL_stop (o := ⟨_, .call { callee := .builtin .copy, args := _, argTypes := _ }, _, _, _, none⟩) ?_) | (with_reducible refine wpL_stop (o := ⟨_, .call { callee := .builtin .append, args := _, argTypes := _ }, _, _, _, none⟩) ?_) | (with_reducible refine wpL_stop (o := ⟨_, .call { callee := .builtin .clear, args := _, argTypes := _ }, _, _, _, none⟩) ?_) | (with_reducible refine wpL_stop (o := ⟨_, .makeSlice _ _ _, _, _, _, none⟩) ?_) | (with_reducible refine wpL_stop (o := ⟨_, .makeMap _ _, _, _, _, none⟩) ?_) | (with_reducible refine wpL_stop (o := ⟨_, .entry _, _, _, _, none⟩) ?_) | (with_reducible refine wpL_stop (o := ⟨_, .call { callee := .builtin .max, args := _, argTypes := _ }, _, _, _, none⟩) ?_) | (with_reducible refine wpL_stop (o := ⟨_, .call { callee := .builtin .min, args := _, argTypes := _ }, _, _, _, none⟩) ?_) | (with_reducible refine wpL_stop (o := ⟨_, .slice 59 _ none (some _) none, _, _, _, none⟩) ?_) | (with_reducible refine wpL_stop (o := ⟨_, .binOp .add 9 _ _ _, _, _, _, none⟩) ?_) | (with_reducible refine wpL_stop (o := ⟨_, .slice 9 _ _ _ _, _, _, _, none⟩) ?_))
        refine unhold (wpL_store0 rfl 59 _ _ rfl rfl wr.heap.size rfl (cellsOf b) rfl _ _ g3 (pageSizeOf _ (by rw [cellsOf_length, hlb])) (by rw [cellsOf_length, hlb, List.size_toArray, cellsOf_length]; rfl) (cellsOf_one _) ?_)
        intro w4 g4 f4 s4
        have f34 : Fr [] wr w4 := f3.then f4 (by simp)
        have F4 : Fr [L.pb] w1 w4 := fr.trans f34.any
        have c0r : w4.cell? ⟨L.b, 0, none⟩ = some (.slice (some ⟨L.pb, 0, none⟩) d.pg.length d.pg.length) := blk_cell (F4.heap D1.hb (by simpa using D1.ne1)) 0 rfl
        have G4 := Lib.hid g4
        have P4 := Lib.hid (f34.heap hpr.out (by simp))
        clear g3 g4
        go_wp2_with (first | (with_reducible refine wpL_stop (o := ⟨_, .alloc 59, _, _, _, none⟩) ?_) | (with_reducible refine wpL_stop (o := ⟨_, .load 59 _, _, _, _, none⟩) ?_) | (with_reducible refine wpL_stop (o := ⟨_, .store 59 _ _, _, _, _, none⟩) ?_) | (with_reducible refine wpL_stop (o := ⟨_, .lookup _ _ _ _, _, _, _, none⟩) ?_) | (with_reducible refine wpL_stop (o := ⟨_, .box 59 _, _, _, _, none⟩) ?_) | (with_reducible refine wpL_stop (o := ⟨_, .next _ _, _, _, _, none⟩) ?_) | (with_reducible refine wpL_stop (o := ⟨_, .range _ _, _, _, _, none⟩) ?_) | (with_reducible refine wpL_stop (o := ⟨_, .mapUpdate _ _ _ _, _, _, _, none⟩) ?_) | (with_reducible refine wpL_stop (o := ⟨_, .convert 23 9 _, _, _, _, none⟩) ?_) | (with_reducible refine wpL_stop (o := ⟨_, .convert 9 23 _, _, _, _, none⟩) ?_) | (with_reducible refine wpL_stop (o := ⟨_, .call { callee := .builtin .copy, args := _, argTypes := _ }, _, _, _, none⟩) ?_) | (with_reducible refine wpL_stop (o := ⟨_, .call { callee := .builtin .append, args := _, argTypes := _ }, _, _, _, none⟩) ?_) | (with_reducible refine wpL_stop (o := ⟨_, .call { callee := .builtin .clear, args := _, argTypes := _ }, _, _, _, none⟩) ?_) | (with_reducible refine wpL_stop (o := ⟨_, .makeSlice _ _ _, _, _, _, none⟩) ?_) | (with_reducible refine wpL_stop (o := ⟨_, .makeMap _ _, _, _, _, none⟩) ?_) | (with_reducible refine wpL_stop (o := ⟨_, .entry _, _, _, _, none⟩) ?_) | (with_reducible refine wpL_stop (o := ⟨_, .call { callee := .builtin .max, args := _, argTypes := _ }, _, _, _, none⟩) ?_) | (with_reducible refine wpL_stop (o := ⟨_, .call { callee := .builtin .min, args := _, argTypes := _ }, _, _, _, none⟩) ?_) | (with_reducible refine wpL_stop (o := ⟨_, .slice 59 _ none (some _) none, _, _, _, none⟩) ?_) | (with_reducible refine wpL_stop (o := ⟨_, .binOp .add 9 _ _ _, _, _, _, none⟩) ?_) | (with_reducible refine wpL_stop (o := ⟨_, .slice 9 _ _ _ _, _, _, _, none⟩) ?_))
        refine wp_region_still_tail 10 (by kernel_rfl) (by kernel_rfl) ?_
        simp only [List.take_succ_cons, List.take_zero, List.drop_succ_cons, List.drop_zero]
        iterate 7 still_step
        refine wpStill_val rfl (run_sliceTo _ _ _ rfl 128 5 Tryz.underlying59 byteSize (by decide) L.pb (i * 128) ?ptrB (clamp x) ?lenB (clamp_le x)) ?_
        case ptrB => show Value.pointer _ = _; simp
        case lenB => show Value.int .i64 128 = _; rw [HC.out]; rfl
        still_step
        refine wpStill_val rfl (run_sliceTo _ _ _ rfl 128 5 Tryz.underlying59 byteSize (by decide) wr.heap.size 0 rfl (clamp x) ?len2B (clamp_le x)) ?_
        case len2B => show Value.int .i64 128 = _; rw [HC.out]; rfl
        refine wpStill_nil ?_
        refine wpL_copy_row rfl _ _ _ _ 5 rfl Tryz.underlying23 byteSize L.pb (i * 128) (clamp x) 128 wr.heap.size 0 (clamp x) 128 rfl rfl (b.take (clamp x)) _ _ P4.out _ _ _ G4.out ?_ ?_ ?_ ?_
        · have := clamp_le x
          rw [List.length_take, hlb]
          show _ = min _ _
          omega
        · intro j hj
          rw [List.length_take, hlb] at hj
          have := clamp_le x
          simp only [cellsOf, Nat.zero_add, List.map_take, List.getElem?_toArray]
          rw [List.getElem?_take, if_pos (by omega)]
        · have := clamp_le x
          rw [List.length_take, hlb, List.size_toArray, rows_length _ hol, HF.len]
          omega
        intro w6 g6 f6 s6
        go_wp2_with (first | (with_reducible refine wpL_stop (o := ⟨_, .alloc 59, _, _, _, none⟩) ?_) | (with_reducible refine wpL_stop (o := ⟨_, .load 59 _, _, _, _, none⟩) ?_) | (with_reducible refine wpL_stop (o := ⟨_, .store 59 _ _, _, _, _, none⟩) ?_) | (with_reducible refine wpL_stop (o := ⟨_, .lookup _ _ _ _, _, _, _, none⟩) ?_) | (with_reducible refine wpL_stop (o := ⟨_, .box 59 _, _, _, _, none⟩) ?_) | (with_reducible refine wpL_stop (o := ⟨_, .next _ _, _, _, _, none⟩) ?_) | (with_reducible refine wpL_stop (o := ⟨_, .range _ _, _, _, _, none⟩) ?_) | (with_reducible refine wpL_stop (o := ⟨_, .mapUpdate _ _ _ _, _, _, _, none⟩) ?_) | (with_reducible refine wpL_stop (o := ⟨_, .convert 23 9 _, _, _, _, none⟩) ?_) | (with_reducible refine wpL_stop (o := ⟨_, .convert 9 23 _, _, _, _, none⟩) ?_) | (with_reducible refine wpL_stop (o := ⟨_, .call { callee := .builtin .copy, args := _, argTypes := _ }, _, _, _, none⟩) ?_) | (with_reducible refine wpL_stop (o := ⟨_, .call { callee := .builtin .append, args := _, argTypes := _ }, _, _, _, none⟩) ?_) | (with_reducible refine wpL_stop (o := ⟨_, .call { callee := .builtin .clear, args := _, argTypes := _ }, _, _, _, none⟩) ?_) | (with_reducible refine wpL_stop (o := ⟨_, .makeSlice _ _ _, _, _, _, none⟩) ?_) | (with_reducible refine wpL_stop (o := ⟨_, .makeMap _ _, _, _, _, none⟩) ?_) | (with_reducible refine wpL_stop (o := ⟨_, .entry _, _, _, _, none⟩) ?_) | (with_reducible refine wpL_stop (o := ⟨_, .call { callee := .builtin .max, args := _, argTypes := _ }, _, _, _, none⟩) ?_) | (with_reducible refine wpL_stop (o := ⟨_, .call { callee := .builtin .min, args := _, argTypes := _ }, _, _, _, none⟩) ?_) | (with_reducible refine wpL_stop (o := ⟨_, .slice 59 _ none (some _) none, _, _, _, none⟩) ?_) | (with_reducible refine wpL_stop (o := ⟨_, .binOp .add 9 _ _ _, _, _, _, none⟩) ?_) | (with_reducible refine wpL_stop (o := ⟨_, .slice 9 _ _ _ _, _, _, _, none⟩) ?_))
        go_roundg (gk - 1)
        case measure => have := hk.out; omega
        case rel =>
          have f46 : Fr [L.pb] w4 w6 := ⟨f6.os, f6.tape, f6.output, f6.size, f6.block⟩
          have hTi : (tearAll d.pg picks)[i]? = some ⟨b.take (clamp x) ++ p.old.drop (clamp x), none⟩ := by rw [hT, tear_old hbn]
          have hql : (b.take (clamp x) ++ p.old.drop (clamp x)).length = 128 := by
            have := clamp_le x
            rw [List.length_append, List.length_take, List.length_drop, hlb, hpol]; omega
          have hset := HF.step hTi hi
          rw [← hsnoc] at hset
          refine ⟨j + 1, _, by go_num, by omega, ?_, hset, ?_, ?_, F4.trans f46⟩
          · have := hk.out; unfold Hid; omega
          · have hpi : pgs[i]? = some p := by
              rw [HF.at_ i, if_neg hnot]; exact hp0
            obtain ⟨hil, hip⟩ := List.getElem?_eq_some_iff.1 hpi
            unfold Hid
            rw [g6, rows_set pgs i ⟨_, none⟩ hol hql (by rw [HF.len]; exact hi)]
            have hlt2 : (b.take (clamp x)).length = clamp x := by have := clamp_le x; rw [List.length_take, hlb]; omega
            have hrow := rows_split pgs i p hol hpi
            rw [hlt2]
            have := splice_row (rows pgs) (i * 128) (clamp x) p b hrow hpol hlb (clamp_le x)
            rw [this]
          · intro q hq
            rcases List.mem_or_eq_of_mem_set hq with hq | rfl
            · exact hol q hq
            · exact hql
    · obtain rfl : n = d.pending.length := by omega
      rw [List.take_length] at HF
      have hend := HF.end_
      subst hend
      have c1r : wr.cell? ⟨L.b, 1, none⟩ = some (.map (some L.mb)) := blk_cell (fr.heap D1.hb (by simpa using D1.ne1)) 1 rfl
      have hmr := Lib.hid (fr.heap hm1 (by simpa using Ne.symm D1.ne3))
      go_wp2_with (first | (with_reducible refine wpL_stop (o := ⟨_, .alloc 59, _, _, _, none⟩) ?_) | (with_reducible refine wpL_stop (o := ⟨_, .load 59 _, _, _, _, none⟩) ?_) | (with_reducible refine wpL_stop (o := ⟨_, .store 59 _ _, _, _, _, none⟩) ?_) | (with_reducible refine wpL_stop (o := ⟨_, .lookup _ _ _ _, _, _, _, none⟩) ?_) | (with_reducible refine wpL_stop (o := ⟨_, .box 59 _, _, _, _, none⟩) ?_) | (with_reducible refine wpL_stop (o := ⟨_, .next _ _, _, _, _, none⟩) ?_) | (with_reducible refine wpL_stop (o := ⟨_, .range _ _, _, _, _, none⟩) ?_) | (with_reducible refine wpL_stop (o := ⟨_, .mapUpdate _ _ _ _, _, _, _, none⟩) ?_) | (with_reducible refine wpL_stop (o := ⟨_, .convert 23 9 _, _, _, _, none⟩) ?_) | (with_reducible refine wpL_stop (o := ⟨_, .convert 9 23 _, _, _, _, none⟩) ?_) | (with_reducible refine wpL_stop (o := ⟨_, .call { callee := .builtin .copy, args := _, argTypes := _ }, _, _, _, none⟩) ?_) | (with_reducible refine wpL_stop (o := ⟨_, .call { callee := .builtin .append, args := _, argTypes := _ }, _, _, _, none⟩) ?_) | (with_reducible refine wpL_stop (o := ⟨_, .call { callee := .builtin .clear, args := _, argTypes := _ }, _, _, _, none⟩) ?_) | (with_reducible refine wpL_stop (o := ⟨_, .makeSlice _ _ _, _, _, _, none⟩) ?_) | (with_reducible refine wpL_stop (o := ⟨_, .makeMap _ _, _, _, _, none⟩) ?_) | (with_reducible refine wpL_stop (o := ⟨_, .entry _, _, _, _, none⟩) ?_) | (with_reducible refine wpL_stop (o := ⟨_, .call { callee := .builtin .max, args := _, argTypes := _ }, _, _, _, none⟩) ?_) | (with_reducible refine wpL_stop (o := ⟨_, .call { callee := .builtin .min, args := _, argTypes := _ }, _, _, _, none⟩) ?_) | (with_reducible refine wpL_stop (o := ⟨_, .slice 59 _ none (some _) none, _, _, _, none⟩) ?_) | (with_reducible refine wpL_stop (o := ⟨_, .binOp .add 9 _ _ _, _, _, _, none⟩) ?_) | (with_reducible refine wpL_stop (o := ⟨_, .slice 9 _ _ _ _, _, _, _, none⟩) ?_))
      refine unhold (wpL_clear_map rfl _ _ rfl rfl 3 59 Tryz.underlying53 L.mb rfl _ c hmr.out ?_)
      intro w3 g3 f3 s3
      have hb3 : w3.heap[L.b]? = _ := f3.heap (fr.heap D1.hb (by simpa using D1.ne1)) (by simpa using D1.ne2)
      have hp3 := f3.heap hpr.out (by simpa using D1.ne3)
      have D3 : DiskAt w3 L { d with pg := tearAll d.pg picks } := by
        refine D1.withPg (tearAll_length _ _) hol ?_ ?_ hp3 ⟨[], c, by simpa using g3, Pends.empty c _ tear_none⟩
        · intro p hp b hb
          rw [tear_none p hp] at hb
          cases hb
        · rw [hb3, D1.hb]
      have D4 := (D3.setOff false).setTripTo (-1) (by omega) (by omega)
      have F3 : Fr L.all w w3 := f1.any.trans ((fr.mono (by simp [DL.all])).then f3 (by simp [DL.all]))
      have c23 := D3.c2
      have c33 := D3.c3
      have f23 := D3.f 2
      have f33 := D3.f 3
      go_wp2_with (first | (with_reducible refine wpL_stop (o := ⟨_, .alloc 59, _, _, _, none⟩) ?_) | (with_reducible refine wpL_stop (o := ⟨_, .load 59 _, _, _, _, none⟩) ?_) | (with_reducible refine wpL_stop (o := ⟨_, .store 59 _ _, _, _, _, none⟩) ?_) | (with_reducible refine wpL_stop (o := ⟨_, .lookup _ _ _ _, _, _, _, none⟩) ?_) | (with_reducible refine wpL_stop (o := ⟨_, .box 59 _, _, _, _, none⟩) ?_) | (with_reducible refine wpL_stop (o := ⟨_, .next _ _, _, _, _, none⟩) ?_) | (with_reducible refine wpL_stop (o := ⟨_, .range _ _, _, _, _, none⟩) ?_) | (with_reducible refine wpL_stop (o := ⟨_, .mapUpdate _ _ _ _, _, _, _, none⟩) ?_) | (with_reducible refine wpL_stop (o := ⟨_, .convert 23 9 _, _, _, _, none⟩) ?_) | (with_reducible refine wpL_stop (o := ⟨_, .convert 9 23 _, _, _, _, none⟩) ?_) | (with_reducible refine wpL_stop (o := ⟨_, .call { callee := .builtin .copy, args := _, argTypes := _ }, _, _, _, none⟩) ?_) | (with_reducible refine wpL_stop (o := ⟨_, .call { callee := .builtin .append, args := _, argTypes := _ }, _, _, _, none⟩) ?_) | (with_reducible refine wpL_stop (o := ⟨_, .call { callee := .builtin .clear, args := _, argTypes := _ }, _, _, _, none⟩) ?_) | (with_reducible refine wpL_stop (o := ⟨_, .makeSlice _ _ _, _, _, _, none⟩) ?_) | (with_reducible refine wpL_stop (o := ⟨_, .makeMap _ _, _, _, _, none⟩) ?_) | (with_reducible refine wpL_stop (o := ⟨_, .entry _, _, _, _, none⟩) ?_) | (with_reducible refine wpL_stop (o := ⟨_, .call { callee := .builtin .max, args := _, argTypes := _ }, _, _, _, none⟩) ?_) | (with_reducible refine wpL_stop (o := ⟨_, .call { callee := .builtin .min, args := _, argTypes := _ }, _, _, _, none⟩) ?_) | (with_reducible refine wpL_stop (o := ⟨_, .slice 59 _ none (some _) none, _, _, _, none⟩) ?_) | (with_reducible refine wpL_stop (o := ⟨_, .binOp .add 9 _ _ _, _, _, _, none⟩) ?_) | (with_reducible refine wpL_stop (o := ⟨_, .slice 9 _ _ _ _, _, _, _, none⟩) ?_))
      go_end0
      exact ⟨rfl, D4, (F3.setCell (.inl (by simp [DL.all])) _).setCell (.inl (by simp [DL.all])) _⟩
end
end Go.Proofs.YtcnhlemenpgkbaaGreatDoor
