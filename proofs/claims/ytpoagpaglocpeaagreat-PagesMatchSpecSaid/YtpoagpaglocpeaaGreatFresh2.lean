/- The specification opens a disk. -/
import Derived.Test.YtpoagpaglocpeaaGreatFresh1
namespace Go.Proofs.YtpoagpaglocpeaaGreat
set_option linter.unusedSimpArgs false
set_option linter.unusedVariables false
set_option linter.unnecessarySimpa false
open Go.RowKit M

structure RPagesAt (w : World) (pl : PL) (L : RL) (p : M.Pages) : Prop where
  low : 0 ≤ p.number
  high : p.number ≤ 1073741824
  at_ : ∃ bv, w.heap[pl.b]? = some (.cells #[Rp L, .int .i64 p.number, bv, .bool p.closed] 112 (0, 0)) ∧ w.ownsRow 0 3 1 bv p.bad.length (intv p.bad) ∧ bv.ownBlock = pl.g
  ne : pl.g ≠ some pl.b

theorem RPagesAt.fr {w w' : World} {pl : PL} {L : RL} {p : M.Pages} {S : List Nat} (h : RPagesAt w pl L p) (hf : Fr S w w') (hS : ∀ k ∈ pl.all, k ∉ S) : RPagesAt w' pl L p := by
  obtain ⟨bv, h1, h2, h3⟩ := h.at_
  exact ⟨h.low, h.high, ⟨bv, hf.heap h1 (hS _ (by simp [PL.all])), ownsRow_fr' h2 hf (fun k hk => hS k (by simp [PL.all, ← h3, hk])), h3⟩, h.ne⟩
theorem RPagesAt.fr0 {w w' : World} {pl : PL} {L : RL} {p : M.Pages} (h : RPagesAt w pl L p) (hf : Fr [] w w') : RPagesAt w' pl L p := h.fr hf (by simp)
theorem RPagesAt.lt {w : World} {pl : PL} {L : RL} {p : M.Pages} (h : RPagesAt w pl L p) : ∀ k ∈ pl.all, k < w.heap.size := by
  obtain ⟨bv, h1, h2, h3⟩ := h.at_
  intro k hk
  simp only [PL.all, List.mem_cons, Option.mem_toList] at hk
  rcases hk with rfl | hk
  · exact lt_of_heap h1
  · exact (h2.lt k (h3.trans hk)).2

theorem max_end (a : Int) (h : 0 ≤ a) (s : Bytes) : max a ((endOf s : Nat) : Int) = upd a (num s) := by
  unfold endOf upd
  split <;> split <;> omega

/-- What stands while the pages are looked at. -/
structure Opp (w4 : World) (L : RL) (pb : Nat) (num : Int) (bv : Value) (bs : List Int) (w' : World) : Prop where
  st : w'.heap[pb]? = some (.cells #[Rp L, .int .i64 num, bv, .bool false] 112 (0, 0))
  row : w'.ownsRow w4.heap.size 3 1 bv bs.length (intv bs)
  fr : Fr [pb] w4 w'
theorem Opp.setNum {w4 : World} {L : RL} {pb : Nat} {num : Int} {bv : Value} {bs : List Int} {A : World} (h : Opp w4 L pb num bv bs A) (hp : pb < w4.heap.size) (n : Int) : Opp w4 L pb n bv bs (A.setCell ⟨pb, 1, none⟩ (.int .i64 n)).drew := by
  have hf : Fr [pb] A (A.setCell ⟨pb, 1, none⟩ (.int .i64 n)).drew := ((Fr.refl _ _).setCell (.inl (by simp)) _).drew
  refine ⟨?_, ownsRow_fr' h.row hf (fun k hk => by have := (h.row.lt k hk).1; simp; omega), h.fr.trans hf⟩
  exact heap_setCell_same' A pb 1 _ _ (.int .i64 n) h.st
theorem Opp.fr0 {w4 : World} {L : RL} {pb : Nat} {num : Int} {bv : Value} {bs : List Int} {A B : World} (h : Opp w4 L pb num bv bs A) (hf : Fr [] A B) : Opp w4 L pb num bv bs B :=
  ⟨hf.heap h.st (by simp), ownsRow_fr' h.row hf (by simp), h.fr.then hf (by simp)⟩

section
variable {w : World} {L : RL} {d d' : Disk}

set_option maxRecDepth 100000 in
theorem rOpen_calls (h : RDiskAt w L d) (hoff : d.off = false) (h18 : 18 ≤ d.pg.length)
    (hrep : ∀ w', RDiskAt w' L d → Calls Tryz.prog 105 #[Rp L] w' fun e w2 => e = .returned (.int .i64 0) ∧ RDiskAt w2 L d' ∧ Fr L.all w' w2) (hoff' : d'.off = false) (hl' : d'.pg.length = d.pg.length) :
    Calls Tryz.prog 38 #[Rp L] w fun e w' => ∃ pl : PL, e = .returned (.tuple #[.pointer (some ⟨pl.b, 0, none⟩), .int .i64 0]) ∧ RDiskAt w' L d' ∧ RPagesAt w' pl L ⟨openNum d.seen, badsFrom 0 (d'.seen.drop 17), false⟩ ∧ Fr L.all w w' ∧ ∀ k ∈ pl.all, w.heap.size ≤ k := by
  have few := h.ok.few
  have hLw := h.lt
  have hlen : d.len = (d.pg.length : Int) := rfl
  have hL := rdLen_calls h
  rw [hlen] at hL
  have hR := rread_calls h hoff
  have hsl := seen_length d
  have hsl' := seen_length d'
  have hN : Hid (d.pg.length = d.pg.length) := rfl
  have h128 : ∀ n, n < d.pg.length → (d.now n).length = 128 := fun n hn => now_len' h hn
  go_enter Tryz.func38, Tryz.ntmps38
  go_wp2_with fail
  refine hL.mono ?_
  rintro e w0 ⟨rfl, rfl⟩
  go_wp2_with fail
  refine hR.mono ?_
  rintro e w1 ⟨v1, rfl, R1, f1⟩
  obtain ⟨vp1, vc1, rfl⟩ := ownsRow_len R1
  have D1 := h.fr0 f1
  go_wp2_with fail
  refine (hrep _ D1).mono ?_
  rintro e w2 ⟨rfl, D2, f2⟩
  have R2 := ownsRow_fr' R1 f2 (fun k hk hk' => by have := (R1.lt k hk).1; have := hLw k hk'; omega)
  have h128' : ∀ n, n < d'.pg.length → (d'.now n).length = 128 := fun n hn => now_len' D2 hn
  go_wp2_with (first | (with_reducible refine wpL_stop (o := ⟨_, .alloc 177, _, _, _, none⟩) ?_) | (with_reducible refine wpL_stop (o := ⟨_, .load 177 _, _, _, _, none⟩) ?_) | (with_reducible refine wpL_stop (o := ⟨_, .store 177 _ _, _, _, _, none⟩) ?_) | (with_reducible refine wpL_stop (o := ⟨_, .lookup _ _ _ _, _, _, _, none⟩) ?_) | (with_reducible refine wpL_stop (o := ⟨_, .box 177 _, _, _, _, none⟩) ?_) | (with_reducible refine wpL_stop (o := ⟨_, .next _ _, _, _, _, none⟩) ?_) | (with_reducible refine wpL_stop (o := ⟨_, .range _ _, _, _, _, none⟩) ?_) | (with_reducible refine wpL_stop (o := ⟨_, .mapUpdate _ _ _ _, _, _, _, none⟩) ?_) | (with_reducible refine wpL_stop (o := ⟨_, .convert 175 9 _, _, _, _, none⟩) ?_) | (with_reducible refine wpL_stop (o := ⟨_, .convert 9 175 _, _, _, _, none⟩) ?_) | (with_reducible refine wpL_stop (o := ⟨_, .call { callee := .builtin .copy, args := _, argTypes := _ }, _, _, _, none⟩) ?_) | (with_reducible refine wpL_stop (o := ⟨_, .call { callee := .builtin .append, args := _, argTypes := _ }, _, _, _, none⟩) ?_) | (with_reducible refine wpL_stop (o := ⟨_, .call { callee := .builtin .clear, args := _, argTypes := _ }, _, _, _, none⟩) ?_) | (with_reducible refine wpL_stop (o := ⟨_, .makeSlice _ _ _, _, _, _, none⟩) ?_) | (with_reducible refine wpL_stop (o := ⟨_, .makeMap _ _, _, _, _, none⟩) ?_) | (with_reducible refine wpL_stop (o := ⟨_, .entry _, _, _, _, none⟩) ?_) | (with_reducible refine wpL_stop (o := ⟨_, .call { callee := .builtin .max, args := _, argTypes := _ }, _, _, _, none⟩) ?_) | (with_reducible refine wpL_stop (o := ⟨_, .call { callee := .builtin .min, args := _, argTypes := _ }, _, _, _, none⟩) ?_) | (with_reducible refine wpL_stop (o := ⟨_, .slice 177 _ none (some _) none, _, _, _, none⟩) ?_) | (with_reducible refine wpL_stop (o := ⟨_, .binOp .add 9 _ _ _, _, _, _, none⟩) ?_) | (with_reducible refine wpL_stop (o := ⟨_, .slice 9 _ _ _ _, _, _, _, none⟩) ?_))
  have f3 := (Fr.refl [] w2).alloc (.cells #[Rp L, .int .i64 0, .slice none 0 0, .bool false] 112)
  have g3 := heap_alloc_new w2 (.cells #[Rp L, .int .i64 0, .slice none 0 0, .bool false] 112)
  have s3 : w2.heap.size < (w2.alloc (.cells #[Rp L, .int .i64 0, .slice none 0 0, .bool false] 112)).heap.size := lt_of_heap g3
  have D3 := D2.fr0 f3
  have R3 := ownsRow_fr' R2 f3 (by simp)
  generalize w2.alloc (.cells #[Rp L, .int .i64 0, .slice none 0 0, .bool false] 112) = w3 at f3 g3 s3 D3 R3 ⊢
  refine (rread_calls D3 hoff').mono ?_
  rintro e w4 ⟨v4, rfl, R4, f4⟩
  rw [hl'] at R4
  obtain ⟨vp4, vc4, rfl⟩ := ownsRow_len R4
  have g4 := f4.heap g3 (by simp)
  have D4 := D3.fr0 f4
  have R5 := ownsRow_fr' R3 f4 (by simp)
  have F4 : Fr L.all w w4 := (((f1.any).trans f2).trans f3.any).trans f4.any
  have hp4 : w2.heap.size < w4.heap.size := by have := f4.size; omega
  have hw2 : w.heap.size ≤ w2.heap.size := by have := f1.size; have := f2.size; omega
  obtain ⟨g1, rfl, hb1, _⟩ := own_cell_fr (S := []) R5 (Fr.refl [] w4) (by simp) (j := 0) (v := str (d.now 0)) (by simp [strs, seen_get d 0 (by omega)])
  obtain ⟨g4b, rfl, hb4, _⟩ := own_cell_fr (S := []) R4 (Fr.refl [] w4) (by simp) (j := 0) (v := str (d'.now 0)) (by simp [strs, seen_get d' 0 (by omega)])
  have hg1 : g1 < w2.heap.size := (R2.lt g1 rfl).2
  go_wp2_with fail
  go_loopg [10] d.pg.length (fun kq i w' => ∃ (n : Nat) (bv : Value), i = .int .i64 n ∧ n ≤ d.pg.length ∧ Hid (kq + n = d.pg.length) ∧ Opp w4 L w2.heap.size (openNum (d.seen.take n)) bv (badsFrom 0 ((d'.seen.take n).drop 17)) w')
  case atStart =>
    refine ⟨0, .slice none 0 0, rfl, by omega, by simp [Hid], ⟨?_, World.ownsRow_nil _ _ _ _, Fr.refl _ _⟩⟩
    exact g4
  case round =>
    obtain ⟨n, bv, rfl, hn, hk, O⟩ := hrel
    by_cases hlt : n < d.pg.length
    · have hlt' : (n : Int) < (d.pg.length : Int) := by omega
      have hs := h128 n hlt
      have hs' := h128' n (by omega)
      have R1r := ownsRow_fr' R5 O.fr (fun k hk => by have := R2.lt k hk; simp; omega)
      have R4r := ownsRow_fr' R4 O.fr (fun k hk => by have := R4.lt k hk; simp; omega)
      have hc1 : wr.cell? ⟨g1, n, none⟩ = some (str (d.now n)) := by
        obtain ⟨g', hg', hc⟩ := (own_read R1r).2 n hlt (str (d.now n)) (by simp [strs, seen_get d n hlt])
        obtain rfl : g' = g1 := by simpa using hg'.symm
        exact hc
      have hc4 : wr.cell? ⟨g4b, n, none⟩ = some (str (d'.now n)) := by
        obtain ⟨g', hg', hc⟩ := (own_read R4r).2 n hlt (str (d'.now n)) (by simp [strs, seen_get d' n (by omega)])
        obtain rfl : g' = g4b := by simpa using hg'.symm
        exact hc
      have P1 : wr.cell? ⟨w2.heap.size, 1, none⟩ = some (.int .i64 (openNum (d.seen.take n))) := blk_cell O.st 1 rfl
      have K1 : wr.frozen? ⟨w2.heap.size, 1, none⟩ = false := blk_free O.st 1
      have hA0 := (openNum_bound (d.seen.take n)).1
      have HA : Hid (openNum (d.seen.take (n + 1)) = upd (upd (openNum (d.seen.take n)) (num ((d.now n).take 4))) (num ((d.now n).drop 124))) := by
        unfold Hid
        rw [take_snoc (seen_get d n hlt), openNum_snoc]
      have hE0 := fun w' => rEnd_calls (d.now n) hs 0 (by omega) w'
      have hE1 := fun w' => rEnd_calls (d.now n) hs 124 (by omega) w'
      rw [List.drop_zero] at hE0
      rw [show ((d.now n).drop 124).take 4 = (d.now n).drop 124 from List.take_of_length_le (by rw [List.length_drop]; omega)] at hE1
      have hM0 := max_end (openNum (d.seen.take n)) hA0 ((d.now n).take 4)
      have hA1 : 0 ≤ upd (openNum (d.seen.take n)) (num ((d.now n).take 4)) := by have := upd_bound (n := num ((d.now n).take 4)) hA0 (openNum_bound (d.seen.take n)).2; omega
      have hM1 := max_end (upd (openNum (d.seen.take n)) (num ((d.now n).take 4))) hA1 ((d.now n).drop 124)
      generalize upd (openNum (d.seen.take n)) (num ((d.now n).take 4)) = a1 at HA hM0 hM1
      generalize upd a1 (num ((d.now n).drop 124)) = a2 at HA hM1
      generalize endOf ((d.now n).take 4) = e0 at hE0 hM0
      generalize endOf ((d.now n).drop 124) = e1 at hE1 hM1
      have HU := fun w' => rUnseal_calls (d'.now n) (by omega) w'
      have HB : Hid (badsFrom 0 ((d'.seen.take (n + 1)).drop 17) = badsFrom 0 ((d'.seen.take n).drop 17) ++ if 17 ≤ n ∧ (unsealed (d'.now n)).ok = false then [((n - 17 : Nat) : Int)] else []) := by
        unfold Hid
        rw [take_snoc (seen_get d' n (by omega)), List.drop_append, List.length_take, hsl', Nat.min_eq_left (by omega)]
        by_cases h17 : 17 ≤ n
        · rw [show 17 - n = 0 by omega, List.drop_zero, badsFrom_snoc, List.length_drop, List.length_take, hsl', Nat.min_eq_left (by omega), Nat.zero_add]
          cases (unsealed (d'.now n)).ok <;> simp [h17]
        · rw [List.drop_eq_nil_of_le (show [d'.now n].length ≤ 17 - n by simp; omega)]
          simp [h17]
      have hbl := badsFrom_length ((d'.seen.take n).drop 17) 0
      rw [List.length_drop, List.length_take, hsl'] at hbl
      generalize badsFrom 0 ((d'.seen.take n).drop 17) = bs at O HB hbl
      generalize openNum (d.seen.take n) = a at P1 O hA0 hM0
      have HM0 := Lib.hid hM0
      have HM1 := Lib.hid hM1
      generalize d.now n = s at hc1 hE0 hE1
      generalize unsealed (d'.now n) = us at HU HB
      obtain ⟨u1, u2, u3⟩ := us
      simp only at HB
      unfold unv at HU
      simp only at HU
      generalize d'.now n = s' at hc4 HU
      clear hM0 hM1 hA1 hA0 hs hs'
      have hF2 := fun w' => unF2 (u1 : Int) ⟨u2.toArray⟩ u3 w'
      go_wp2_with fail
      refine wp_region_still_tail 13 (by kernel_rfl) (by kernel_rfl) ?_
      simp only [List.take_succ_cons, List.take_zero, List.drop_succ_cons, List.drop_zero]
      iterate 9 still_step
      still_call (hE0 _).mono (fun e w' h => ⟨h.1, h.2.symm⟩)
      iterate 3 still_step
      refine wpStill_nil ?_
      go_wp2_with fail
      rw [HM0.out]
      have hf1 : Fr [w2.heap.size] wr (wr.setCell ⟨w2.heap.size, 1, none⟩ (.int .i64 a1)).drew := ((Fr.refl _ _).setCell (.inl (by simp)) _).drew
      have O1 := O.setNum hp4 a1
      have hc1 := cell_fr hf1 hc1 (by simp; omega)
      have hc4 := cell_fr hf1 hc4 (by simp; omega)
      clear P1 K1
      generalize (wr.setCell ⟨w2.heap.size, 1, none⟩ (.int .i64 a1)).drew = w5 at hf1 O1 hc1 hc4 ⊢
      have P1 : w5.cell? ⟨w2.heap.size, 1, none⟩ = some (.int .i64 a1) := blk_cell O1.st 1 rfl
      have K1 : w5.frozen? ⟨w2.heap.size, 1, none⟩ = false := blk_free O1.st 1
      refine wp_region_still_tail 13 (by kernel_rfl) (by kernel_rfl) ?_
      simp only [List.take_succ_cons, List.take_zero, List.drop_succ_cons, List.drop_zero]
      iterate 9 still_step
      still_call (hE1 _).mono (fun e w' h => ⟨h.1, h.2.symm⟩)
      iterate 3 still_step
      refine wpStill_nil ?_
      go_wp2_with (with_reducible refine wpL_stop (o := ⟨_, .binOp .geq _ _ _ _, _, _, _, _⟩) ?_)
      rw [HM1.out]
      have hf2 : Fr [w2.heap.size] w5 (w5.setCell ⟨w2.heap.size, 1, none⟩ (.int .i64 a2)).drew := ((Fr.refl _ _).setCell (.inl (by simp)) _).drew
      have O2 := O1.setNum hp4 a2
      have hc4 := cell_fr hf2 hc4 (by simp; omega)
      clear P1 K1 hc1
      generalize (w5.setCell ⟨w2.heap.size, 1, none⟩ (.int .i64 a2)).drew = w6 at hf2 O2 hc4 ⊢
      refine unhold ?_
      by_cases h17 : 17 ≤ n
      · have h17' : (17 : Int) ≤ n := by omega
        go_wp2_with fail
        refine (HU _).mono ?_
        rintro e w7 ⟨rfl, f7⟩
        have O7 := O2.fr0 f7
        cases u3 with
        | true =>
          go_wp2_with fail
          go_roundg (gk - 1)
          case measure => have := hk.out; omega
          case rel =>
            refine ⟨n + 1, bv, by go_num, by omega, by have := hk.out; unfold Hid; omega, ?_⟩
            rw [HA.out, HB.out]
            simpa using O7
        | false =>
          have P7 : w7.cell? ⟨w2.heap.size, 2, none⟩ = some bv := blk_cell O7.st 2 rfl
          have e17 : ((n : Int) - 17) = ((n - 17 : Nat) : Int) := by omega
          go_wp2_with (first | (with_reducible refine wpL_stop (o := ⟨_, .alloc 177, _, _, _, none⟩) ?_) | (with_reducible refine wpL_stop (o := ⟨_, .load 177 _, _, _, _, none⟩) ?_) | (with_reducible refine wpL_stop (o := ⟨_, .store 177 _ _, _, _, _, none⟩) ?_) | (with_reducible refine wpL_stop (o := ⟨_, .lookup _ _ _ _, _, _, _, none⟩) ?_) | (with_reducible refine wpL_stop (o := ⟨_, .box 177 _, _, _, _, none⟩) ?_) | (with_reducible refine wpL_stop (o := ⟨_, .next _ _, _, _, _, none⟩) ?_) | (with_reducible refine wpL_stop (o := ⟨_, .range _ _, _, _, _, none⟩) ?_) | (with_reducible refine wpL_stop (o := ⟨_, .mapUpdate _ _ _ _, _, _, _, none⟩) ?_) | (with_reducible refine wpL_stop (o := ⟨_, .convert 175 9 _, _, _, _, none⟩) ?_) | (with_reducible refine wpL_stop (o := ⟨_, .convert 9 175 _, _, _, _, none⟩) ?_) | (with_reducible refine wpL_stop (o := ⟨_, .call { callee := .builtin .copy, args := _, argTypes := _ }, _, _, _, none⟩) ?_) | (with_reducible refine wpL_stop (o := ⟨_, .call { callee := .builtin .append, args := _, argTypes := _ }, _, _, _, none⟩) ?_) | (with_reducible refine wpL_stop (o := ⟨_, .call { callee := .builtin .clear, args := _, argTypes := _ }, _, _, _, none⟩) ?_) | (with_reducible refine wpL_stop (o := ⟨_, .makeSlice _ _ _, _, _, _, none⟩) ?_) | (with_reducible refine wpL_stop (o := ⟨_, .makeMap _ _, _, _, _, none⟩) ?_) | (with_reducible refine wpL_stop (o := ⟨_, .entry _, _, _, _, none⟩) ?_) | (with_reducible refine wpL_stop (o := ⟨_, .call { callee := .builtin .max, args := _, argTypes := _ }, _, _, _, none⟩) ?_) | (with_reducible refine wpL_stop (o := ⟨_, .call { callee := .builtin .min, args := _, argTypes := _ }, _, _, _, none⟩) ?_) | (with_reducible refine wpL_stop (o := ⟨_, .slice 177 _ none (some _) none, _, _, _, none⟩) ?_) | (with_reducible refine wpL_stop (o := ⟨_, .binOp .add 9 _ _ _, _, _, _, none⟩) ?_) | (with_reducible refine wpL_stop (o := ⟨_, .slice 9 _ _ _ _, _, _, _, none⟩) ?_))
          have f8 : Fr [] w7 (w7.alloc (.cells #[.int .i64 ((n - 17 : Nat) : Int)] 3)) := (Fr.refl [] w7).alloc _
          have hg8 := heap_alloc_new w7 (.cells #[.int .i64 ((n - 17 : Nat) : Int)] 3)
          have O8 := O7.fr0 f8
          have hsz8 := f8.size
          generalize w7.alloc (.cells #[.int .i64 ((n - 17 : Nat) : Int)] 3) = w8 at f8 hg8 O8 hsz8 ⊢
          have hw48 : w4.heap.size ≤ w8.heap.size := O8.fr.size
          refine unhold (wpL_append_at rfl _ _ 47 rfl w4.heap.size 3 _ 8 Tryz.underlying47 intInfo rfl (by decide) bv bs.length (intv bs) rfl O8.row w7.heap.size 1 [.int .i64 ((n - 17 : Nat) : Int)] rfl _ _ _ hg8 (by intro j u hj; simpa using hj) (by simp [Value.oneCell']) (by simp; omega) hw48 ?_)
          intro v9 w9 hown9 hgr9 hat9
          have f9 : Fr bv.ownBlock.toList w8 w9 := (Fr.refl _ _).grown hgr9 (fun k hk => .inl (by simp [hk]))
          have hst9 := f9.heap O8.st (fun e => by have := (O8.row.lt w2.heap.size (by simpa [Option.mem_toList, eq_comm] using e)).1; omega)
          have F9 : Fr [w2.heap.size] w4 w9 := O8.fr.then f9 (fun i hi => .inr (O8.row.lt i (by simpa [Option.mem_toList, eq_comm] using hi)).1)
          have K2 : w9.frozen? ⟨w2.heap.size, 2, none⟩ = false := blk_free hst9 2
          have C2 : w9.cell? ⟨w2.heap.size, 2, none⟩ = some bv := blk_cell hst9 2 rfl
          have hst := heap_setCell_same' w9 w2.heap.size 2 _ _ v9 hst9
          have fz : Fr [w2.heap.size] w9 (w9.setCell ⟨w2.heap.size, 2, none⟩ v9) := (Fr.refl _ _).setCell (.inl (by simp)) _
          have hrow := ownsRow_fr' hown9 fz (fun k hk => by have := (hown9.lt k hk).1; simp; omega)
          obtain ⟨vp9, vc9, rfl⟩ := ownsRow_len hown9
          go_wp2_with fail
          go_roundg (gk - 1)
          case measure => have := hk.out; omega
          case rel =>
            refine ⟨n + 1, .slice vp9 (bs.length + 1) vc9, by go_num, by omega, by have := hk.out; unfold Hid; omega, ⟨?_, ?_, F9.trans fz⟩⟩
            · rw [HA.out]
              exact hst
            · rw [HB.out]
              simpa [intv, h17] using hrow
      · have h17' : (n : Int) < 17 := by omega
        go_wp2_with fail
        go_roundg (gk - 1)
        case measure => have := hk.out; omega
        case rel =>
          refine ⟨n + 1, bv, by go_num, by omega, by have := hk.out; unfold Hid; omega, ?_⟩
          rw [HA.out, HB.out]
          simpa [h17] using O2
    · obtain rfl : n = d.pg.length := by omega
      have hlt' : decide ((d.pg.length : Int) < (d.pg.length : Int)) = false := by simp
      have e1 : d.seen.take d.pg.length = d.seen := by rw [← hsl, List.take_length]
      have e2 : d'.seen.take d.pg.length = d'.seen := by rw [← hl', ← hsl', List.take_length]
      rw [e1, e2] at O
      have hbn := openNum_bound d.seen
      have hpb : ∀ k ∈ L.all, k ∉ [w2.heap.size] := fun k hk => by have := hLw k hk; simp; omega
      have hFin : RDiskAt wr L d' ∧ RPagesAt wr ⟨w2.heap.size, bv.ownBlock⟩ L ⟨openNum d.seen, badsFrom 0 (d'.seen.drop 17), false⟩ ∧ Fr L.all w wr ∧ ∀ k ∈ (PL.mk w2.heap.size bv.ownBlock).all, w.heap.size ≤ k := by
        refine ⟨D4.fr O.fr hpb, ⟨hbn.1, hbn.2, ⟨bv, O.st, ownsRow_low O.row (Nat.zero_le _), rfl⟩, fun e => by have := (O.row.lt w2.heap.size e).1; omega⟩, F4.then O.fr (by simp; omega), fun k hk => ?_⟩
        simp only [PL.all, List.mem_cons, Option.mem_toList] at hk
        rcases hk with rfl | hk
        · exact hw2
        · have := (O.row.lt k hk).1; omega
      have HF := Lib.hid hFin
      clear hFin hbn hpb
      go_wp2_with fail
      go_ret2
      exact ⟨_, rfl, HF.out⟩
end
end Go.Proofs.YtpoagpaglocpeaaGreat
