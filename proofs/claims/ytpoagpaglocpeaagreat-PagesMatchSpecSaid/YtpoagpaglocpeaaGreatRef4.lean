/- The specification's disk: what is pending; mounting. -/
import Derived.Test.YtpoagpaglocpeaaGreatRef3
import Derived.Test.YtpoagpaglocpeaaGreatPages7
namespace Go.Proofs.YtpoagpaglocpeaaGreat
set_option linter.unusedSimpArgs false
set_option linter.unusedVariables false
set_option linter.unnecessarySimpa false
open Go.RowKit M

theorem pendingFrom_snoc : ∀ (l : List Pg) (k : Nat) (p : Pg), pendingFrom k (l ++ [p]) = pendingFrom k l ++ if p.new.isSome then [((k + l.length : Nat) : Int)] else []
  | [], k, p => by
    simp only [List.nil_append, pendingFrom, List.length_nil, Nat.add_zero]
  | q :: l, k, p => by
    simp only [List.cons_append, pendingFrom, pendingFrom_snoc l (k + 1) p, List.length_cons]
    rw [show k + 1 + l.length = k + (l.length + 1) by omega]
    split <;> simp

section
variable {w : World} {L : RL} {d : Disk}

set_option maxRecDepth 100000 in
theorem rdPending_calls (h : RDiskAt w L d) : Calls Tryz.prog 116 #[Rp L] w fun e w' => ∃ v, e = .returned v ∧ w'.ownsRow w.heap.size 3 1 v d.pending.length (intv d.pending) ∧ Fr [] w w' := by
  have few := h.ok.few
  go_enter Tryz.func116, Tryz.ntmps116
  go_wp2_with fail
  go_loopg [3, 4] d.pg.length (fun kq v i w' => ∃ n : Nat, i = .int .i64 n ∧ n ≤ d.pg.length ∧ Hid (kq + n = d.pg.length) ∧ w'.ownsRow w.heap.size 3 1 v (pendingFrom 0 (d.pg.take n)).length (intv (pendingFrom 0 (d.pg.take n))) ∧ Fr [] w w')
  case atStart => exact ⟨0, rfl, by omega, by simp [Hid], World.ownsRow_nil _ _ _ _, Fr.refl _ _⟩
  case round =>
    obtain ⟨n, rfl, hn, hk, R, fr⟩ := hrel
    have Dr := h.fr0 fr
    have c0 := Dr.c0
    by_cases hlt : n < d.pg.length
    · have hlt' : (n : Int) < (d.pg.length : Int) := by omega
      have hg : d.pg[n]? = some d.pg[n] := List.getElem?_eq_getElem hlt
      obtain ⟨p0, p1, p2⟩ := Dr.pc hg
      have HP : Hid (pendingFrom 0 (d.pg.take (n + 1)) = pendingFrom 0 (d.pg.take n) ++ if d.pg[n].new.isSome then [(n : Int)] else []) := by
        unfold Hid
        rw [take_snoc hg, pendingFrom_snoc, List.length_take, Nat.min_eq_left hn, Nat.zero_add]
      have hpl : (pendingFrom 0 (d.pg.take n)).length ≤ 4096 := by
        have := pendingFrom_len (d.pg.take n) 0
        rw [List.length_take] at this
        omega
      generalize pendingFrom 0 (d.pg.take n) = ps at R HP hpl
      generalize d.pg[n] = pg at hg p2 HP
      clear hg p0 p1
      cases hb : pg.new.isSome with
      | false =>
        rw [hb] at p2
        have HB := Lib.hid hb
        clear hb
        go_wp2_with fail
        go_roundg (gk - 1)
        case measure => have := hk.out; omega
        case rel =>
          refine ⟨n + 1, by go_num, by omega, by have := hk.out; unfold Hid; omega, ?_, fr⟩
          rw [HP.out, HB.out]
          simpa using R
      | true =>
        rw [hb] at p2
        have HB := Lib.hid hb
        clear hb
        go_wp2_with (first | (with_reducible refine wpL_stop (o := ⟨_, .alloc 177, _, _, _, none⟩) ?_) | (with_reducible refine wpL_stop (o := ⟨_, .load 177 _, _, _, _, none⟩) ?_) | (with_reducible refine wpL_stop (o := ⟨_, .store 177 _ _, _, _, _, none⟩) ?_) | (with_reducible refine wpL_stop (o := ⟨_, .lookup _ _ _ _, _, _, _, none⟩) ?_) | (with_reducible refine wpL_stop (o := ⟨_, .box 177 _, _, _, _, none⟩) ?_) | (with_reducible refine wpL_stop (o := ⟨_, .next _ _, _, _, _, none⟩) ?_) | (with_reducible refine wpL_stop (o := ⟨_, .range _ _, _, _, _, none⟩) ?_) | (with_reducible refine wpL_stop (o := ⟨_, .mapUpdate _ _ _ _, _, _, _, none⟩) ?_) | (with_reducible refine wpL_stop (o := ⟨_, .convert 175 9 _, _, _, _, none⟩) ?_) | (with_reducible refine wpL_stop (o := ⟨_, .convert 9 175 _, _, _, _, none⟩) ?_) | (with_reducible refine wpL_stop (o := ⟨_, .call { callee := .builtin .copy, args := _, argTypes := _ }, _, _, _, none⟩) ?_) | (with_reducible refine wpL_stop (o := ⟨_, .call { callee := .builtin .append, args := _, argTypes := _ }, _, _, _, none⟩) ?_) | (with_reducible refine wpL_stop (o := ⟨_, .call { callee := .builtin .clear, args := _, argTypes := _ }, _, _, _, none⟩) ?_) | (with_reducible refine wpL_stop (o := ⟨_, .makeSlice _ _ _, _, _, _, none⟩) ?_) | (with_reducible refine wpL_stop (o := ⟨_, .makeMap _ _, _, _, _, none⟩) ?_) | (with_reducible refine wpL_stop (o := ⟨_, .entry _, _, _, _, none⟩) ?_) | (with_reducible refine wpL_stop (o := ⟨_, .call { callee := .builtin .max, args := _, argTypes := _ }, _, _, _, none⟩) ?_) | (with_reducible refine wpL_stop (o := ⟨_, .call { callee := .builtin .min, args := _, argTypes := _ }, _, _, _, none⟩) ?_) | (with_reducible refine wpL_stop (o := ⟨_, .slice 177 _ none (some _) none, _, _, _, none⟩) ?_) | (with_reducible refine wpL_stop (o := ⟨_, .binOp .add 9 _ _ _, _, _, _, none⟩) ?_) | (with_reducible refine wpL_stop (o := ⟨_, .slice 9 _ _ _ _, _, _, _, none⟩) ?_))
        have f4 := fr.alloc (.cells #[.int .i64 n] 3)
        have hg4 := heap_alloc_new wr (.cells #[.int .i64 n] 3)
        have R4 := ownsRow_fr' R ((Fr.refl [] wr).alloc (.cells #[.int .i64 n] 3)) (by simp)
        generalize wr.alloc (.cells #[.int .i64 n] 3) = w4 at f4 hg4 R4 ⊢
        refine unhold (wpL_append_at rfl _ _ 47 rfl w.heap.size 3 _ 8 Tryz.underlying47 intInfo rfl (by decide) u3 ps.length (intv ps) rfl R4 wr.heap.size 1 [.int .i64 n] rfl _ _ _ hg4 (by intro j u hj; simpa using hj) (by simp [Value.oneCell']) (by simp; omega) f4.size ?_)
        intro v5 w5 hown5 hgr5 hat5
        have f5 : Fr [] w w5 := f4.grown hgr5 (fun k hk => .inr (R4.lt k hk).1)
        go_wp2_with (first | (with_reducible refine wpL_stop (o := ⟨_, .alloc 177, _, _, _, none⟩) ?_) | (with_reducible refine wpL_stop (o := ⟨_, .load 177 _, _, _, _, none⟩) ?_) | (with_reducible refine wpL_stop (o := ⟨_, .store 177 _ _, _, _, _, none⟩) ?_) | (with_reducible refine wpL_stop (o := ⟨_, .lookup _ _ _ _, _, _, _, none⟩) ?_) | (with_reducible refine wpL_stop (o := ⟨_, .box 177 _, _, _, _, none⟩) ?_) | (with_reducible refine wpL_stop (o := ⟨_, .next _ _, _, _, _, none⟩) ?_) | (with_reducible refine wpL_stop (o := ⟨_, .range _ _, _, _, _, none⟩) ?_) | (with_reducible refine wpL_stop (o := ⟨_, .mapUpdate _ _ _ _, _, _, _, none⟩) ?_) | (with_reducible refine wpL_stop (o := ⟨_, .convert 175 9 _, _, _, _, none⟩) ?_) | (with_reducible refine wpL_stop (o := ⟨_, .convert 9 175 _, _, _, _, none⟩) ?_) | (with_reducible refine wpL_stop (o := ⟨_, .call { callee := .builtin .copy, args := _, argTypes := _ }, _, _, _, none⟩) ?_) | (with_reducible refine wpL_stop (o := ⟨_, .call { callee := .builtin .append, args := _, argTypes := _ }, _, _, _, none⟩) ?_) | (with_reducible refine wpL_stop (o := ⟨_, .call { callee := .builtin .clear, args := _, argTypes := _ }, _, _, _, none⟩) ?_) | (with_reducible refine wpL_stop (o := ⟨_, .makeSlice _ _ _, _, _, _, none⟩) ?_) | (with_reducible refine wpL_stop (o := ⟨_, .makeMap _ _, _, _, _, none⟩) ?_) | (with_reducible refine wpL_stop (o := ⟨_, .entry _, _, _, _, none⟩) ?_) | (with_reducible refine wpL_stop (o := ⟨_, .call { callee := .builtin .max, args := _, argTypes := _ }, _, _, _, none⟩) ?_) | (with_reducible refine wpL_stop (o := ⟨_, .call { callee := .builtin .min, args := _, argTypes := _ }, _, _, _, none⟩) ?_) | (with_reducible refine wpL_stop (o := ⟨_, .slice 177 _ none (some _) none, _, _, _, none⟩) ?_) | (with_reducible refine wpL_stop (o := ⟨_, .binOp .add 9 _ _ _, _, _, _, none⟩) ?_) | (with_reducible refine wpL_stop (o := ⟨_, .slice 9 _ _ _ _, _, _, _, none⟩) ?_))
        go_roundg (gk - 1)
        case measure => have := hk.out; omega
        case rel =>
          refine ⟨n + 1, by go_num, by omega, by have := hk.out; unfold Hid; omega, ?_, f5⟩
          rw [HP.out, HB.out]
          simpa [intv] using hown5
    · obtain rfl : n = d.pg.length := by omega
      have hlt' : decide ((d.pg.length : Int) < (d.pg.length : Int)) = false := by simp
      rw [List.take_length] at R
      go_wp2
      go_ret
      exact ⟨_, rfl, R, fr⟩

set_option maxRecDepth 100000 in
theorem rdMount_calls (h : RDiskAt w L d) (B : Nat → Prop) (pv : Value) (picks : List Int) (hp : IntsAt B w pv picks) (hB : ∀ k ∈ L.all, ¬ B k) : Calls Tryz.prog 55 #[Rp L, pv] w fun e w' =>
    e = .returned (.tuple #[]) ∧ RDiskAt w' L (d.mount picks) ∧ Fr L.all w w' := by
  have few := h.ok.few
  obtain ⟨A, pc, rfl, _⟩ := id hp
  have hplen : d.pending.length ≤ 4096 := Nat.le_trans (pendingFrom_len d.pg 0) few
  have hlt := h.lt
  go_enter Tryz.func55, Tryz.ntmps55
  go_wp2_with fail
  refine (rdPending_calls h).mono ?_
  rintro e w1 ⟨v, rfl, hown, f1⟩
  obtain ⟨vp, vc, rfl⟩ := ownsRow_len hown
  obtain ⟨_, hread⟩ := own_read hown
  go_wp2_with fail
  go_loopg [5] d.pending.length (fun kq v w' => ∃ (n : Nat) (pgs : List Pg), v = .int .i64 n ∧ n ≤ d.pending.length ∧ Hid (kq + n = d.pending.length) ∧ Torn d.pg (tearAll d.pg picks) pgs (d.pending.take n) ∧ RDiskAt w' L { d with pg := pgs } ∧ Fr [L.pb] w1 w')
  case atStart => exact ⟨0, d.pg, rfl, by omega, by simp [Hid], by simpa using Torn.start _ _, h.fr0 f1, Fr.refl _ _⟩
  case round =>
    obtain ⟨n, pgs, rfl, hn, hk, HF, Dr, fr⟩ := hrel
    by_cases hlt2 : n < d.pending.length
    · have hlt' : (n : Int) < (d.pending.length : Int) := by omega
      have hpn : d.pending[n]? = some d.pending[n] := List.getElem?_eq_getElem hlt2
      obtain ⟨i, b, hiv, hib⟩ := (mem_pendingFrom d.pg 0 d.pending[n]).1 (List.getElem_mem hlt2)
      rw [show ((0 : Nat) : Int) + (i : Int) = (i : Int) from by omega] at hiv
      obtain ⟨p, hp0, hbn⟩ : ∃ p, d.pg[i]? = some p ∧ p.new = some b := by
        cases hq : d.pg[i]? with
        | none => simp [hq] at hib
        | some p => exact ⟨p, rfl, by simpa [hq] using hib⟩
      have hi : i < d.pg.length := (List.getElem?_eq_some_iff.1 hp0).1
      have hnd : d.pending.Nodup := (pendingFrom_sorted d.pg 0).imp (by intro a b h; omega)
      have hnot : (i : Int) ∉ d.pending.take n := by
        intro hm
        obtain ⟨j, hj, hje⟩ := List.mem_iff_getElem.1 hm
        rw [List.getElem_take] at hje
        rw [List.length_take] at hj
        have := nodup_get_eq hnd (i := j) (j := n) (by omega) hlt2 (by rw [hje, hiv])
        omega
      obtain ⟨j, hj1, hT⟩ := (tear_get d.pg 0 picks i p hp0).1 b hbn
      obtain rfl : j = n := by
        obtain ⟨hjl, hje⟩ := List.getElem?_eq_some_iff.1 hj1
        refine nodup_get_eq hnd hjl hlt2 ?_
        show (pendingFrom 0 d.pg)[j] = _
        rw [hje, hiv]; simp
      have hsnoc : d.pending.take (j + 1) = d.pending.take j ++ [(i : Int)] := by
        rw [List.take_succ_eq_append_getElem hlt2, hiv]
      have hpi : pgs[i]? = some p := by rw [HF.at_ i, if_neg hnot]; exact hp0
      have hset := HF.step hT hi
      rw [← hsnoc] at hset
      have hic : ∃ g, vp = some ⟨g, 0, none⟩ ∧ wr.cell? ⟨g, j, none⟩ = some (.int .i64 i) := by
        obtain ⟨g, rfl, hcell⟩ := hread j hlt2 (.int .i64 i) (by simp [intv, hpn, hiv])
        refine ⟨g, rfl, ?_⟩
        have hgb := hown.lt g rfl
        rw [World.cell?_of_block (fr.block g hgb.2 (by have := hlt L.pb (by simp [RL.all]); simp; omega))]
        exact hcell
      obtain ⟨g, rfl, hgc⟩ := hic
      have hS := fun x => rdSettle_calls Dr i p hpi x
      simp only at hS
      have HSET := Lib.hid hset
      clear hread hpn hset hsnoc hpi hnot hT hj1 hnd hib hiv hp0
      by_cases hpk : j < picks.length
      · have hpk' : (j : Int) < (picks.length : Int) := by omega
        obtain ⟨A', pc', hA, hcs⟩ := (hp.fr f1 (by simp)).fr fr (S := [L.pb]) (by simpa using hB L.pb (by simp [RL.all]))
        cases hA
        obtain ⟨ad, rfl, hadB, hcell⟩ := hcs j hpk
        have hx : picks[j]?.getD 128 = picks[j] := by simp [hpk]
        rw [hx] at HSET
        obtain ⟨x, hx2⟩ : ∃ x, x = picks[j] := ⟨_, rfl⟩
        rw [← hx2] at HSET hcell
        clear hcs hx hx2
        go_wp2_with fail
        refine (hS x).mono ?_
        rintro e w3 ⟨rfl, D3, f3⟩
        go_wp2_with fail
        go_roundg (gk - 1)
        case measure => have := hk.out; omega
        case rel => exact ⟨j + 1, _, by go_num, by omega, by have := hk.out; unfold Hid; omega, HSET.out, D3, fr.trans f3⟩
      · have hx : picks[j]?.getD 128 = 128 := by rw [List.getElem?_eq_none (by omega)]; rfl
        rw [hx] at HSET
        have hpk' : ¬ ((j : Int) < (picks.length : Int)) := by omega
        clear hx
        go_wp2_with fail
        refine (hS 128).mono ?_
        rintro e w3 ⟨rfl, D3, f3⟩
        go_wp2_with fail
        go_roundg (gk - 1)
        case measure => have := hk.out; omega
        case rel => exact ⟨j + 1, _, by go_num, by omega, by have := hk.out; unfold Hid; omega, HSET.out, D3, fr.trans f3⟩
    · obtain rfl : n = d.pending.length := by omega
      have hlt' : decide ((d.pending.length : Int) < (d.pending.length : Int)) = false := by simp
      rw [List.take_length] at HF
      have hend := HF.end_
      subst hend
      have D4 := (Dr.setOff false).setTripTo (-1) (by omega) (by omega)
      have F3 : Fr L.all w wr := f1.any.trans (fr.mono (by simp [RL.all]))
      have c1r := Dr.c1
      have c2r := Dr.c2
      have f1r := Dr.f 1
      have f2r := Dr.f 2
      go_wp2_with fail
      go_end0
      exact ⟨rfl, D4, (F3.setCell (.inl (by simp [RL.all])) _).setCell (.inl (by simp [RL.all])) _⟩
end
end Go.Proofs.YtpoagpaglocpeaaGreat
