/- The texts of a step; the step. -/
import Derived.Test.YtcnhlemenpgkbaaGreatDoorJW12
namespace Go.Proofs.YtcnhlemenpgkbaaGreatDoor
set_option linter.unusedSimpArgs false
set_option linter.unusedVariables false
set_option linter.unnecessarySimpa false
open Go.RowKit M

def tlist (f : UInt8) (ns : List Int) (k : Nat) : List Bytes := (List.range k).map fun i => tx (f + UInt8.ofNat i) (ns.getD i 0)
def texts (f : UInt8) (ns : List Int) : List Bytes := tlist f ns (min ns.length 30)
theorem tlist_succ (f : UInt8) (ns : List Int) (k : Nat) : tlist f ns (k + 1) = tlist f ns k ++ [tx (f + UInt8.ofNat k) (ns.getD k 0)] := by simp [tlist, List.range_succ]
theorem tlist_length (f : UInt8) (ns : List Int) (k : Nat) : (tlist f ns k).length = k := by simp [tlist]

theorem u8_sum (f : UInt8) (k : Nat) : IntKind.u8.wrap ((f.toNat : Int) + IntKind.u8.wrap (k : Int)) = ((f + UInt8.ofNat k).toNat : Int) := by
  have e : ∀ x : Int, IntKind.u8.wrap x = x % 256 := fun x => by simp [IntKind.wrap_u8]
  rw [e, e, UInt8.toNat_add, UInt8.toNat_ofNat']
  have : ((2 : Nat) ^ 8) = 256 := rfl
  rw [this]
  omega

section
variable {w A : World}

set_option maxRecDepth 100000 in
set_option maxHeartbeats 1000000 in
theorem vTexts_calls (kd n : Int) (f : UInt8) {N : Nat → Prop} {v : Value} {ns : List Int} (h : IntsAt N w v ns) (hb : ∀ x ∈ ns, -9223372036854775808 ≤ x ∧ x ≤ 9223372036854775807) :
    Calls Tryz.prog 20 #[.agg #[.int .i64 kd, .int .i64 n, .int .u8 f.toNat, v]] w fun e w' => ∃ v', e = .returned v' ∧ w'.ownsRow w.heap.size 9 1 v' (texts f ns).length (strs (texts f ns)) ∧ Fr [] w w' := by
  obtain ⟨q, cq, rfl, hq⟩ := h
  obtain ⟨m, hm⟩ : ∃ m, min ns.length 30 = m := ⟨_, rfl⟩
  have hcond : ∀ i : Nat, i ≤ m → (i < m ↔ (i < ns.length ∧ i < 30)) := by intro i hi; omega
  have hm30 : m ≤ 30 := by omega
  have htx : texts f ns = tlist f ns m := by unfold texts; rw [hm]
  rw [htx]
  clear htx hm
  go_enter Tryz.func20, Tryz.ntmps20
  go_wp2_with fail
  have gB := heap_alloc_new w (.cells #[.int .i64 kd, .int .i64 n, .int .u8 f.toNat, .slice q ns.length cq] 32)
  have fB := (Fr.refl [] w).alloc (.cells #[.int .i64 kd, .int .i64 n, .int .u8 f.toNat, .slice q ns.length cq] 32)
  have sB : w.heap.size < (w.alloc (.cells #[.int .i64 kd, .int .i64 n, .int .u8 f.toNat, .slice q ns.length cq] 32)).heap.size := by simp
  generalize w.alloc (.cells #[.int .i64 kd, .int .i64 n, .int .u8 f.toNat, .slice q ns.length cq] 32) = w1 at gB fB sB ⊢
  go_loopg [3, 4] m (fun kq u i w' => ∃ k : Nat, i = .int .i64 k ∧ k ≤ m ∧ Hid (kq + k = m) ∧ w'.ownsRow w1.heap.size 9 1 u k (strs (tlist f ns k)) ∧ Fr [] w1 w')
  case atStart => exact ⟨0, rfl, by omega, by simp [Hid], World.ownsRow_nil _ _ _ _, Fr.refl _ _⟩
  case round =>
    obtain ⟨k, rfl, hk, hkq, hrow, FN⟩ := hrel
    have hsz := FN.size
    have gr := FN.heap gB (by simp)
    have b2 : wr.cell? ⟨w.heap.size, 2, none⟩ = some (.int .u8 f.toNat) := blk_cell gr 2 rfl
    have b3 : wr.cell? ⟨w.heap.size, 3, none⟩ = some (.slice q ns.length cq) := blk_cell gr 3 rfl
    by_cases hlt : k < m
    · obtain ⟨c1, c2⟩ := (hcond k hk).1 hlt
      have c1' : (k : Int) < (ns.length : Int) := by omega
      have c2' : (k : Int) < 30 := by omega
      obtain ⟨ad, rfl, _, hcell⟩ := hq k c1
      have hcr : wr.cell? (ad.add k) = some (.int .i64 ns[k]) := (World.cell?_of_block ((fB.trans FN).block _ (World.block_lt_of_cell? _ _ hcell) (by simp))).trans hcell
      have hbk := hb ns[k] (List.getElem_mem c1)
      have hts := tlist_succ f ns k
      rw [show ns.getD k 0 = ns[k] by simp [List.getD, c1]] at hts
      generalize ns[k] = x at hcr hbk hts
      obtain ⟨up, uc, rfl⟩ := ownsRow_len hrow
      go_wp2_with fail
      refine wp_region_keep (fun w' => w'.cell? ⟨w.heap.size, 2, none⟩ = some (.int .u8 f.toNat) ∧ w'.cell? ⟨w.heap.size, 3, none⟩ = some (.slice (some ad) ns.length cq) ∧ w'.cell? (ad.add k) = some (.int .i64 x)) 100 (by kernel_rfl) ?_
      have hS : wr.drew.cell? ⟨w.heap.size, 2, none⟩ = some (.int .u8 f.toNat) ∧ wr.drew.cell? ⟨w.heap.size, 3, none⟩ = some (.slice (some ad) ns.length cq) ∧ wr.drew.cell? (ad.add k) = some (.int .i64 x) := ⟨b2, b3, hcr⟩
      refine keepTake (i := 0) (v := ?_) (a' := ?_) rfl (by kernel_rfl) (by kernel_rfl) (by kernel_rfl) (by kernel_rfl) (by kernel_rfl) (by kernel_rfl) (fun w hSw => ?_) hS ?_ ?_
      rotate_left 2
      · (try dsimp only at hSw); (try (have hSa := hSw.1; have hSb := hSw.2)); (try (have hSc := hSb.1; have hSd := hSb.2)); go_simp; with_reducible rfl
      · go_simp; with_reducible rfl
      refine keepTake (i := 1) (v := ?_) (a' := ?_) rfl (by kernel_rfl) (by kernel_rfl) (by kernel_rfl) (by kernel_rfl) (by kernel_rfl) (by kernel_rfl) (fun w hSw => ?_) hS ?_ ?_
      rotate_left 2
      · (try dsimp only at hSw); (try (have hSa := hSw.1; have hSb := hSw.2)); (try (have hSc := hSb.1; have hSd := hSb.2)); go_simp; with_reducible rfl
      · go_simp; with_reducible rfl
      refine keepTake (i := 2) (v := ?_) (a' := ?_) rfl (by kernel_rfl) (by kernel_rfl) (by kernel_rfl) (by kernel_rfl) (by kernel_rfl) (by kernel_rfl) (fun w hSw => ?_) hS ?_ ?_
      rotate_left 2
      · (try dsimp only at hSw); (try (have hSa := hSw.1; have hSb := hSw.2)); (try (have hSc := hSb.1; have hSd := hSb.2)); go_simp; with_reducible rfl
      · go_simp; with_reducible rfl
      refine keepTake (i := 3) (v := ?_) (a' := ?_) rfl (by kernel_rfl) (by kernel_rfl) (by kernel_rfl) (by kernel_rfl) (by kernel_rfl) (by kernel_rfl) (fun w hSw => ?_) hS ?_ ?_
      rotate_left 2
      · (try dsimp only at hSw); (try (have hSa := hSw.1; have hSb := hSw.2)); (try (have hSc := hSb.1; have hSd := hSb.2)); go_simp; with_reducible rfl
      · go_simp; with_reducible rfl
      refine keepTake (i := 4) (v := ?_) (a' := ?_) rfl (by kernel_rfl) (by kernel_rfl) (by kernel_rfl) (by kernel_rfl) (by kernel_rfl) (by kernel_rfl) (fun w hSw => ?_) hS ?_ ?_
      rotate_left 2
      · (try dsimp only at hSw); (try (have hSa := hSw.1; have hSb := hSw.2)); (try (have hSc := hSb.1; have hSd := hSb.2)); go_simp; with_reducible rfl
      · go_simp; with_reducible rfl
      refine keepTake (i := 5) (v := ?_) (a' := ?_) rfl (by kernel_rfl) (by kernel_rfl) (by kernel_rfl) (by kernel_rfl) (by kernel_rfl) (by kernel_rfl) (fun w hSw => ?_) hS ?_ ?_
      rotate_left 2
      · (try dsimp only at hSw); (try (have hSa := hSw.1; have hSb := hSw.2)); (try (have hSc := hSb.1; have hSd := hSb.2)); go_simp; with_reducible rfl
      · go_simp; with_reducible rfl
      refine keepTake (i := 6) (v := ?_) (a' := ?_) rfl (by kernel_rfl) (by kernel_rfl) (by kernel_rfl) (by kernel_rfl) (by kernel_rfl) (by kernel_rfl) (fun w hSw => ?_) hS ?_ ?_
      rotate_left 2
      · (try dsimp only at hSw); (try (have hSa := hSw.1; have hSb := hSw.2)); (try (have hSc := hSb.1; have hSd := hSb.2)); go_simp; with_reducible rfl
      · go_simp; with_reducible rfl
      refine keepTake (i := 7) (v := ?_) (a' := ?_) rfl (by kernel_rfl) (by kernel_rfl) (by kernel_rfl) (by kernel_rfl) (by kernel_rfl) (by kernel_rfl) (fun w hSw => ?_) hS ?_ ?_
      rotate_left 2
      · (try dsimp only at hSw); (try (have hSa := hSw.1; have hSb := hSw.2)); (try (have hSc := hSb.1; have hSd := hSb.2)); go_simp; with_reducible rfl
      · go_simp; with_reducible rfl
      refine keepTake (i := 8) (v := ?_) (a' := ?_) rfl (by kernel_rfl) (by kernel_rfl) (by kernel_rfl) (by kernel_rfl) (by kernel_rfl) (by kernel_rfl) (fun w hSw => ?_) hS ?_ ?_
      rotate_left 2
      · (try dsimp only at hSw); (try (have hSa := hSw.1; have hSb := hSw.2)); (try (have hSc := hSb.1; have hSd := hSb.2)); go_simp; with_reducible rfl
      · go_simp; with_reducible rfl
      refine keepTake (i := 9) (v := ?_) (a' := ?_) rfl (by kernel_rfl) (by kernel_rfl) (by kernel_rfl) (by kernel_rfl) (by kernel_rfl) (by kernel_rfl) (fun w hSw => ?_) hS ?_ ?_
      rotate_left 2
      · (try dsimp only at hSw); (try (have hSa := hSw.1; have hSb := hSw.2)); (try (have hSc := hSb.1; have hSd := hSb.2)); go_simp; with_reducible rfl
      · go_simp; with_reducible rfl
      refine keepTake (i := 10) (v := ?_) (a' := ?_) rfl (by kernel_rfl) (by kernel_rfl) (by kernel_rfl) (by kernel_rfl) (by kernel_rfl) (by kernel_rfl) (fun w hSw => ?_) hS ?_ ?_
      rotate_left 2
      · (try dsimp only at hSw); (try (have hSa := hSw.1; have hSb := hSw.2)); (try (have hSc := hSb.1; have hSd := hSb.2)); go_simp; with_reducible rfl
      · go_simp; with_reducible rfl
      refine keepReady (rs := [11]) (by kernel_rfl) (by simp) ?_
      refine AllK.cons rfl (fun K hK => ?_) AllK.nil
      go_simp
      rw [u8_sum]
      generalize f + UInt8.ofNat k = fk at hts ⊢
      refine (vText_calls fk x hbk.1 hbk.2).mono ?_
      rintro e w2 ⟨rfl, f2⟩
      have hS : w2.cell? ⟨w.heap.size, 2, none⟩ = some (.int .u8 f.toNat) ∧ w2.cell? ⟨w.heap.size, 3, none⟩ = some (.slice (some ad) ns.length cq) ∧ w2.cell? (ad.add k) = some (.int .i64 x) :=
        ⟨cell_fr f2 (show wr.drew.cell? _ = _ from b2) (by simp), cell_fr f2 (show wr.drew.cell? _ = _ from b3) (by simp), (World.cell?_of_block (f2.block _ (World.block_lt_of_cell? _ _ hcr) (by simp))).trans (show wr.drew.cell? _ = _ from hcr)⟩
      have hrow2 := ownsRow_fr' hrow ((Fr.refl [] wr).drew.trans f2) (by simp)
      have FN2 := FN.trans ((Fr.refl [] wr).drew.trans f2)
      have hs2 : wr.heap.size ≤ w2.heap.size := f2.size
      try dsimp only
      refine hK _ _ (fun _ => hS) ?_
      clear hK K
      try simp only [Act.put, List.setIfInBounds_toArray, List.set_cons_zero, List.set_cons_succ]
      generalize tx fk x = tt at hts ⊢
      refine keepReady (rs := [12]) (by kernel_rfl) (by simp) ?_
      refine AllK.cons rfl (fun K hK => ?_) AllK.nil
      go_simp
      have gX := heap_alloc_new w2 (.cells #[str tt] 9)
      have fX := (Fr.refl [] w2).alloc (.cells #[str tt] 9)
      have hrow3 := ownsRow_fr' hrow2 fX (by simp)
      have FN3 := FN2.trans fX
      have hs3 := fX.size
      have hS : (w2.alloc (.cells #[str tt] 9)).cell? ⟨w.heap.size, 2, none⟩ = some (.int .u8 f.toNat) ∧ (w2.alloc (.cells #[str tt] 9)).cell? ⟨w.heap.size, 3, none⟩ = some (.slice (some ad) ns.length cq) ∧ (w2.alloc (.cells #[str tt] 9)).cell? (ad.add k) = some (.int .i64 x) :=
        ⟨cell_fr fX hS.1 (by simp), cell_fr fX hS.2.1 (by simp), (World.cell?_of_block (fX.block _ (World.block_lt_of_cell? _ _ hS.2.2) (by simp))).trans hS.2.2⟩
      try dsimp only
      refine hK _ _ (fun _ => hS) ?_
      clear hK K
      try simp only [Act.put, List.setIfInBounds_toArray, List.set_cons_zero, List.set_cons_succ]
      generalize w2.alloc (.cells #[str tt] 9) = wa at gX fX hrow3 FN3 hs3 hS ⊢
      refine keepReady (rs := [13]) (by kernel_rfl) (by simp) ?_
      refine AllK.cons rfl (fun K hK => ?_) AllK.nil
      refine step_append_at rfl _ _ 30 rfl w1.heap.size 9 _ 16 Tryz.underlying30 strInfo rfl (by decide) (.slice up k uc) k (strs (tlist f ns k)) rfl hrow3 w2.heap.size 1 [str tt] rfl _ _ _ gX (by intro j u hj; simpa using hj) (by simp [Value.oneCell']) (by simp; omega) (by omega) ?_
      intro v6 w6 hown6 hgr6 hat6
      have hb6 : ∀ q, (Value.slice up k uc).ownBlock = some q → w1.heap.size ≤ q := fun q hq => (hrow3.lt q hq).1
      have hwad : (ad.add k).block < w.heap.size := World.block_lt_of_cell? _ _ hcell
      have gw : wa.heap[w.heap.size]? = _ := FN3.heap gB (by simp)
      have hS : w6.cell? ⟨w.heap.size, 2, none⟩ = some (.int .u8 f.toNat) ∧ w6.cell? ⟨w.heap.size, 3, none⟩ = some (.slice (some ad) ns.length cq) ∧ w6.cell? (ad.add k) = some (.int .i64 x) :=
        ⟨(World.cell?_of_block (hgr6.block w.heap.size (lt_of_heap gw) (fun e => by have := hb6 _ e.symm; omega))).trans hS.1, (World.cell?_of_block (hgr6.block w.heap.size (lt_of_heap gw) (fun e => by have := hb6 _ e.symm; omega))).trans hS.2.1, (World.cell?_of_block (hgr6.block _ (World.block_lt_of_cell? _ _ hS.2.2) (fun e => by have := hb6 _ e.symm; omega))).trans hS.2.2⟩
      have FN6 : Fr [] w1 w6 := FN3.grown hgr6 (fun q hq => .inr (hb6 q hq))
      try dsimp only
      refine hK _ _ (fun _ => hS) ?_
      clear hK K
      try simp only [Act.put, List.setIfInBounds_toArray, List.set_cons_zero, List.set_cons_succ]
      refine keepReady (rs := [14]) (by kernel_rfl) (by simp) ?_
      refine AllK.cons rfl (fun K hK => ?_) AllK.nil
      go_simp
      try dsimp only
      refine hK _ _ (fun _ => hS) ?_
      clear hK K
      try simp only [Act.put, List.setIfInBounds_toArray, List.set_cons_zero, List.set_cons_succ]
      refine keepDone (by kernel_rfl) ?_ _
      go_wp2_with fail
      go_roundg (gk - 1)
      case measure => have := hkq.out; omega
      case rel =>
        refine ⟨k + 1, by go_num, by omega, by have := hkq.out; unfold Hid; omega, ?_, FN6⟩
        rw [hts]
        simpa [strs] using hown6
    · obtain rfl : k = m := by omega
      have hno := (hcond k hk)
      have hlen : (tlist f ns k).length = k := tlist_length _ _ _
      have hrow0 : wr.ownsRow w.heap.size 9 1 u3 k (strs (tlist f ns k)) := ownsRow_low hrow (by omega)
      have hfin : ∃ v', u3 = v' ∧ wr.ownsRow w.heap.size 9 1 v' (tlist f ns k).length (strs (tlist f ns k)) ∧ Fr [] w wr := ⟨u3, rfl, by rw [hlen]; exact hrow0, fB.trans FN⟩
      by_cases c1 : k < ns.length
      · have c2 : decide ((k : Int) < 30) = false := by simp; omega
        have c3 : decide (k < 30) = false := by simp; omega
        have c1' : (k : Int) < (ns.length : Int) := by omega
        clear hno hcond
        go_wp2_with fail
        go_ret
        obtain ⟨v', h1, h2, h3⟩ := hfin
        exact ⟨_, rfl, by rw [← h1] at h2; exact h2, h3⟩
      · have c2 : decide ((k : Int) < (ns.length : Int)) = false := by simp; omega
        have c3 : decide (k < ns.length) = false := by simp; omega
        clear hno hcond
        go_wp2_with fail
        go_ret
        obtain ⟨v', h1, h2, h3⟩ := hfin
        exact ⟨_, rfl, by rw [← h1] at h2; exact h2, h3⟩
end
end Go.Proofs.YtcnhlemenpgkbaaGreatDoor
