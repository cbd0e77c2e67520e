/- The start of the laws on pages: a new disk, opened, of the program and of the specification. -/
import Derived.Test.YtpoagpaglocpeaaGreatLawA
import Derived.Test.YtpoagpaglocpeaaGreatFresh2
import Derived.Test.YtpoagpaglocpeaaGreatAtom
namespace Go.Proofs.YtpoagpaglocpeaaGreat
set_option linter.unusedSimpArgs false
set_option linter.unusedVariables false
set_option linter.unnecessarySimpa false
open Go.RowKit M

theorem bodyPost_row_tmp {P : Program} {fn : Func} {R : Ending → World → Prop} {a : Act} {w : World} (p q : Tmp) (T : TypeId) (hres : fn.results = #[.cell p T, .tmp q]) (g : Nat) (hp : a.tmps.getD p undef = .pointer (some ⟨g, 0, none⟩)) (v : Value) (hq : a.tmps.getD q undef = v)
    (t : TypeId) (vs : List Value) (fr : Nat × Nat) (d : TypeDesc) (hg : w.heap[g]? = some (.cells vs.toArray t fr)) (hu : P.underlying T = some d) (hd : (match d with | .struct _ | .array _ _ => true | _ => false) = true)
    (hi : (P.info? T).map (·.size) = some vs.length) (hdf : a.defers = []) (hR : R (.returned (.tuple #[.agg vs.toArray, v])) w) : bodyPost P fn R .ret a w := by
  refine bodyPost_ret (v := .tuple #[.agg vs.toArray, v]) ?_ hdf hR
  have hp' : a.tmps[p]?.getD undef = .pointer (some ⟨g, 0, none⟩) := by simpa using hp
  have hq' : a.tmps[q]?.getD undef = v := by simpa using hq
  simp [results, hres, hp', hq', asAddr, Sem.run_bind, run_loadVar_row w g t T vs.toArray fr d hg hu hd (by simpa using hi)]
theorem worldSize : (Tryz.prog.info? 43).map (·.size) = some 4 := by kernel_rfl
theorem set4 {w : World} {g : Nat} {a b c d x y z u : Value} {t : TypeId} (h : w.heap[g]? = some (.cells #[a, b, c, d] t (0, 0))) : ((((w.setCell ⟨g, 0, none⟩ x).setCell ⟨g, 1, none⟩ y).setCell ⟨g, 2, none⟩ z).setCell ⟨g, 3, none⟩ u).heap[g]? = some (.cells #[x, y, z, u] t (0, 0)) := by
  have h1 := heap_setCell_same' w g 0 _ _ x h
  have h2 := heap_setCell_same' _ g 1 _ _ y h1
  have h3 := heap_setCell_same' _ g 2 _ _ z h2
  have h4 := heap_setCell_same' _ g 3 _ _ u h3
  simpa using h4

/-- Both, behind the start. -/
structure Start (w w' : World) (n : Nat) (L : DL) (pl : PL) (LR : RL) (ql : PL) : Prop where
  D : DiskAt w' L (openAt (Disk.new n)).1
  Pg : PagesAt w' pl L (openAt (Disk.new n)).2
  RD : RDiskAt w' LR (Disk.new n)
  Q : RPagesAt w' ql LR ⟨openNum (Disk.new n).seen, badsFrom 0 ((Disk.new n).seen.drop 17), false⟩
  fr : Fr [] w w'
  n1 : ∀ k ∈ L.all, w.heap.size ≤ k
  n2 : ∀ k ∈ pl.all, w.heap.size ≤ k ∧ k ∉ L.all
  n3 : ∀ k ∈ LR.all, w.heap.size ≤ k ∧ k ∉ L.all ∧ k ∉ pl.all
  n4 : ∀ k ∈ ql.all, w.heap.size ≤ k ∧ k ∉ L.all ∧ k ∉ pl.all ∧ k ∉ LR.all

theorem start_rep {n : Nat} (h1 : 18 ≤ n) {LR : RL} (w' : World) (h : RDiskAt w' LR (Disk.new n)) : Calls Tryz.prog 105 #[Rp LR] w' fun e w2 => e = .returned (.int .i64 0) ∧ RDiskAt w2 LR (Disk.new n) ∧ Fr LR.all w' w2 := by
  refine (rReplay_blank h rfl (by simp [Disk.new]; omega) ?_).mono ?_
  · have h0 : (Disk.new n).pg[0]? = some ⟨zeros 128, none⟩ := by unfold Disk.new; rw [List.getElem?_replicate, if_pos (by omega)]
    unfold Disk.now
    rw [h0]
    rfl
  · rintro e w2 ⟨rfl, f⟩
    exact ⟨rfl, h.fr0 f, f.any⟩

section
variable {w : World}
set_option maxRecDepth 100000 in
theorem lStart_good (n : Int) (h1 : 18 ≤ n) (h2 : n ≤ 24) : Calls Tryz.prog 10 #[.int .i64 n] w fun e w' =>
    ∃ L pl LR ql, e = .returned (.tuple #[.agg #[Dp L, Pp pl, Rp LR, .pointer (some ⟨ql.b, 0, none⟩)], .bool true]) ∧ Start w w' n.toNat L pl LR ql := by
  have G0 := heap_alloc_new w (.cells #[.pointer none, .pointer none, .pointer none, .pointer none] 43)
  have F0 := (Fr.refl [] w).alloc (.cells #[.pointer none, .pointer none, .pointer none, .pointer none] 43)
  have HN : Hid (18 ≤ n.toNat ∧ n.toNat ≤ 4096) := ⟨by omega, by omega⟩
  go_enter Tryz.func10, Tryz.ntmps10
  go_wp2_with fail
  generalize w.alloc (.cells #[.pointer none, .pointer none, .pointer none, .pointer none] 43) = w0 at G0 F0 ⊢
  refine (dNew_calls w0 n (by omega) (by omega)).mono ?_
  rintro e w1 ⟨L, rfl, D1, f1, nL⟩
  go_wp2_with fail
  refine (rdNew_calls w1 n (by omega) (by omega)).mono ?_
  rintro e w2 ⟨LR, rfl, R2, f2, nR⟩
  have D2 := D1.fr0 f2
  go_wp2_with fail
  refine (pOpen_calls D2 rfl rfl (by have := HN.out; simp [Disk.new]; omega)).mono ?_
  rintro e w3 ⟨pl, rfl, D3, P3, f3, nP⟩
  have lL := D1.lt
  have lR := R2.lt
  have R3 := R2.fr f3 (fun k hk hk' => by have := nR k hk; have := lL k hk'; omega)
  go_wp2_with fail
  refine (rOpen_calls R3 rfl (by have := HN.out; simp [Disk.new]; omega) (start_rep HN.out.1) rfl rfl).mono ?_
  rintro e w4 ⟨ql, rfl, R4, Q4, f4, nQ⟩
  have lP := P3.lt
  have dPL : ∀ k ∈ pl.all, k ∉ LR.all := fun k hk hk' => by have := nP k hk; have := lR k hk'; omega
  have dLR : ∀ k ∈ L.all, k ∉ LR.all := fun k hk hk' => by have := lL k hk; have := nR k hk'; omega
  have D4 := D3.fr f4 dLR
  have P4 := P3.fr f4 dPL
  have s0 : w.heap.size < w0.heap.size := lt_of_heap G0
  have s1 := f1.size
  have s2 := f2.size
  have s3 := f3.size
  have G4 : w4.heap[w.heap.size]? = some (.cells #[.pointer none, .pointer none, .pointer none, .pointer none] 43 (0, 0)) :=
    f4.heap (f3.heap (f2.heap (f1.heap G0 (by simp)) (by simp)) (fun hk => by have := nL _ hk; omega)) (fun hk => by have := nR _ hk; omega)
  have F4 : Fr [] w w4 := by
    refine (((F0.trans f1).trans f2).then f3 (fun k hk => .inr ?_)).then f4 (fun k hk => .inr ?_)
    · have := nL k hk; omega
    · have := nR k hk; omega
  have k0 : w4.cell? ⟨w.heap.size, 0, none⟩ = some (.pointer none) := blk_cell G4 0 rfl
  have k1 : w4.cell? ⟨w.heap.size, 1, none⟩ = some (.pointer none) := blk_cell G4 1 rfl
  have k2 : w4.cell? ⟨w.heap.size, 2, none⟩ = some (.pointer none) := blk_cell G4 2 rfl
  have k3 : w4.cell? ⟨w.heap.size, 3, none⟩ = some (.pointer none) := blk_cell G4 3 rfl
  have z0 := blk_free G4 0
  have z1 := blk_free G4 1
  have z2 := blk_free G4 2
  have z3 := blk_free G4 3
  go_wp2_with fail
  refine bodyPost_row_tmp 2 3 43 rfl w.heap.size rfl _ rfl _ [Dp L, Pp pl, Rp LR, .pointer (some ⟨ql.b, 0, none⟩)] _ _ (set4 G4) Tryz.underlying43 rfl worldSize rfl ?_
  have fz : Fr [w.heap.size] w4 ((((w4.setCell ⟨w.heap.size, 0, none⟩ (Dp L)).setCell ⟨w.heap.size, 1, none⟩ (Pp pl)).setCell ⟨w.heap.size, 2, none⟩ (Rp LR)).setCell ⟨w.heap.size, 3, none⟩ (.pointer (some ⟨ql.b, 0, none⟩))) :=
    ((((Fr.refl _ _).setCell (.inl (by simp)) _).setCell (.inl (by simp)) _).setCell (.inl (by simp)) _).setCell (.inl (by simp)) _
  refine ⟨L, pl, LR, ql, rfl, ?_⟩
  refine ⟨D4.fr fz ?_, P4.fr fz ?_, R4.fr fz ?_, Q4.fr fz ?_, F4.then fz (by simp), ?_, ?_, ?_, ?_⟩
  · intro k hk; have := nL k hk; simp; omega
  · intro k hk; have := nP k hk; simp; omega
  · intro k hk; have := nR k hk; simp; omega
  · intro k hk; have := nQ k hk; simp; omega
  · intro k hk; have := nL k hk; omega
  · intro k hk; exact ⟨by have := nP k hk; omega, fun hk' => by have := nP k hk; have := lL k hk'; omega⟩
  · intro k hk; exact ⟨by have := nR k hk; omega, fun hk' => dLR k hk' hk, fun hk' => dPL k hk' hk⟩
  · intro k hk; exact ⟨by have := nQ k hk; omega, fun hk' => by have := nQ k hk; have := lL k hk'; omega, fun hk' => by have := nQ k hk; have := lP k hk'; omega, fun hk' => by have := nQ k hk; have := lR k hk'; omega⟩

theorem lStart_bad (n : Int) (h : n < 18 ∨ 24 < n) : Calls Tryz.prog 10 #[.int .i64 n] w fun e w' => e = .returned (.tuple #[.agg #[.pointer none, .pointer none, .pointer none, .pointer none], .bool false]) ∧ Fr [] w w' := by
  have G0 := heap_alloc_new w (.cells #[.pointer none, .pointer none, .pointer none, .pointer none] 43)
  have F0 := (Fr.refl [] w).alloc (.cells #[.pointer none, .pointer none, .pointer none, .pointer none] 43)
  by_cases h1 : n < 18
  · go_enter Tryz.func10, Tryz.ntmps10
    go_wp2_with (with_reducible refine wpL_stop (o := ⟨_, .build _ _, _, _, _, _⟩) ?_)
    generalize w.alloc (.cells #[.pointer none, .pointer none, .pointer none, .pointer none] 43) = w0 at G0 F0 ⊢
    have k0 : w0.cell? ⟨w.heap.size, 0, none⟩ = some (.pointer none) := blk_cell G0 0 rfl
    have k1 : w0.cell? ⟨w.heap.size, 1, none⟩ = some (.pointer none) := blk_cell G0 1 rfl
    have k2 : w0.cell? ⟨w.heap.size, 2, none⟩ = some (.pointer none) := blk_cell G0 2 rfl
    have k3 : w0.cell? ⟨w.heap.size, 3, none⟩ = some (.pointer none) := blk_cell G0 3 rfl
    have z0 := blk_free G0 0
    have z1 := blk_free G0 1
    have z2 := blk_free G0 2
    have z3 := blk_free G0 3
    refine unhold ?_
    go_wp2_with fail
    exact bodyPost_row_tmp 2 3 43 rfl w.heap.size rfl _ rfl _ [.pointer none, .pointer none, .pointer none, .pointer none] _ _ (set4 G0) Tryz.underlying43 rfl worldSize rfl ⟨rfl, (((F0.setCell (.inr (Nat.le_refl _)) _).setCell (.inr (Nat.le_refl _)) _).setCell (.inr (Nat.le_refl _)) _).setCell (.inr (Nat.le_refl _)) _⟩
  · have h1' : 24 < n := by omega
    have h1'' : 18 ≤ n := by omega
    go_enter Tryz.func10, Tryz.ntmps10
    go_wp2_with (with_reducible refine wpL_stop (o := ⟨_, .build _ _, _, _, _, _⟩) ?_)
    generalize w.alloc (.cells #[.pointer none, .pointer none, .pointer none, .pointer none] 43) = w0 at G0 F0 ⊢
    have k0 : w0.cell? ⟨w.heap.size, 0, none⟩ = some (.pointer none) := blk_cell G0 0 rfl
    have k1 : w0.cell? ⟨w.heap.size, 1, none⟩ = some (.pointer none) := blk_cell G0 1 rfl
    have k2 : w0.cell? ⟨w.heap.size, 2, none⟩ = some (.pointer none) := blk_cell G0 2 rfl
    have k3 : w0.cell? ⟨w.heap.size, 3, none⟩ = some (.pointer none) := blk_cell G0 3 rfl
    have z0 := blk_free G0 0
    have z1 := blk_free G0 1
    have z2 := blk_free G0 2
    have z3 := blk_free G0 3
    refine unhold ?_
    go_wp2_with fail
    exact bodyPost_row_tmp 2 3 43 rfl w.heap.size rfl _ rfl _ [.pointer none, .pointer none, .pointer none, .pointer none] _ _ (set4 G0) Tryz.underlying43 rfl worldSize rfl ⟨rfl, (((F0.setCell (.inr (Nat.le_refl _)) _).setCell (.inr (Nat.le_refl _)) _).setCell (.inr (Nat.le_refl _)) _).setCell (.inr (Nat.le_refl _)) _⟩
end
end Go.Proofs.YtpoagpaglocpeaaGreat
