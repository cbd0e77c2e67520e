/- The pages in memory; their length, number, damaged pages; reading. -/
import Derived.Test.YtcnhlemenpgkbaaGreatDoorPages3
import Derived.Test.YtcnhlemenpgkbaaGreatDoorModel2
namespace Go.Proofs.YtcnhlemenpgkbaaGreatDoor
set_option linter.unusedSimpArgs false
set_option linter.unusedVariables false
set_option linter.unnecessarySimpa false
open Go.RowKit M

/-- Where pages lie: their struct; the block of the list of damaged pages, if there is one. -/
structure PL where
  b : Nat
  g : Option Nat
def PL.all (p : PL) : List Nat := p.b :: p.g.toList

structure PagesAt (w : World) (pl : PL) (L : DL) (p : M.Pages) : Prop where
  low : 0 ≤ p.number
  high : p.number ≤ 1073741824
  at_ : ∃ bv, w.heap[pl.b]? = some (.cells #[Dp L, .int .i64 p.number, bv, .bool p.closed] 71 (0, 0)) ∧ w.ownsRow 0 3 1 bv p.bad.length (intv p.bad) ∧ bv.ownBlock = pl.g
  ne : pl.g ≠ some pl.b

abbrev Pp (pl : PL) : Value := .pointer (some ⟨pl.b, 0, none⟩)

theorem ownsRow_fr' {w w' : World} {base : Nat} {E : TypeId} {size : Nat} {v : Value} {n : Nat} {xs : List Value} {S : List Nat} (h : w.ownsRow base E size v n xs) (hf : Fr S w w') (hS : ∀ k, v.ownBlock = some k → k ∉ S) : w'.ownsRow base E size v n xs := by
  refine ⟨h.1, ?_⟩
  rcases h.2 with h2 | ⟨g, cap, cur, hv, hb, hg, r⟩
  · exact .inl h2
  · exact .inr ⟨g, cap, cur, hv, hb, hf.heap hg (hS g (by rw [hv]; rfl)), r⟩
theorem ownsRow_low {w : World} {base base' : Nat} {E : TypeId} {size : Nat} {v : Value} {n : Nat} {xs : List Value} (h : w.ownsRow base E size v n xs) (hb : base' ≤ base) : w.ownsRow base' E size v n xs := by
  refine ⟨h.1, ?_⟩
  rcases h.2 with h2 | ⟨g, cap, cur, hv, hg, r⟩
  · exact .inl h2
  · exact .inr ⟨g, cap, cur, hv, by omega, r⟩

theorem PagesAt.fr {w w' : World} {pl : PL} {L : DL} {p : M.Pages} {S : List Nat} (h : PagesAt w pl L p) (hf : Fr S w w') (hS : ∀ k ∈ pl.all, k ∉ S) : PagesAt w' pl L p := by
  obtain ⟨bv, h1, h2, h3⟩ := h.at_
  exact ⟨h.low, h.high, ⟨bv, hf.heap h1 (hS _ (by simp [PL.all])), ownsRow_fr' h2 hf (fun k hk => hS k (by simp [PL.all, ← h3, hk])), h3⟩, h.ne⟩
theorem PagesAt.fr0 {w w' : World} {pl : PL} {L : DL} {p : M.Pages} (h : PagesAt w pl L p) (hf : Fr [] w w') : PagesAt w' pl L p := h.fr hf (by simp)
theorem PagesAt.lt {w : World} {pl : PL} {L : DL} {p : M.Pages} (h : PagesAt w pl L p) : ∀ k ∈ pl.all, k < w.heap.size := by
  obtain ⟨bv, h1, h2, h3⟩ := h.at_
  intro k hk
  simp only [PL.all, List.mem_cons, Option.mem_toList] at hk
  rcases hk with rfl | hk
  · exact lt_of_heap h1
  · exact (h2.lt k (h3.trans hk)).2

section
variable {w : World} {L : DL} {d : Disk} {pl : PL} {p : M.Pages}

theorem PagesAt.c0 (h : PagesAt w pl L p) : w.cell? ⟨pl.b, 0, none⟩ = some (Dp L) := by obtain ⟨bv, h1, _⟩ := h.at_; exact blk_cell h1 0 rfl
theorem PagesAt.c1 (h : PagesAt w pl L p) : w.cell? ⟨pl.b, 1, none⟩ = some (.int .i64 p.number) := by obtain ⟨bv, h1, _⟩ := h.at_; exact blk_cell h1 1 rfl
theorem PagesAt.c3 (h : PagesAt w pl L p) : w.cell? ⟨pl.b, 3, none⟩ = some (.bool p.closed) := by obtain ⟨bv, h1, _⟩ := h.at_; exact blk_cell h1 3 rfl
theorem PagesAt.f (h : PagesAt w pl L p) (j : Nat) : w.frozen? ⟨pl.b, j, none⟩ = false := by obtain ⟨bv, h1, _⟩ := h.at_; exact blk_free h1 j

theorem pLen_calls (h : DiskAt w L d) (hp : PagesAt w pl L p) : Calls Tryz.prog 38 #[Pp pl] w fun e w' => e = .returned (.int .i64 (d.len - 17)) ∧ w = w' := by
  have c0 := hp.c0
  have few := h.ok.few
  have f1 : 0 ≤ d.len := by unfold Disk.len; omega
  have f2 : d.len ≤ 4096 := by unfold Disk.len; omega
  go_enter Tryz.func38, Tryz.ntmps38
  go_wp2_with (go_at_call 30; refine (dLen_calls h).mono ?_; rintro e w' ⟨rfl, rfl⟩)
  go_ret
  exact ⟨rfl, rfl⟩

theorem read_len (h : DiskAt w L d) (i : Int) : (d.read i).1.length ≤ 128 := by
  unfold Disk.read
  cases d.off with
  | true => simp
  | false =>
    cases his : d.is i with
    | false => simp
    | true =>
      have hi := is_iff.1 his
      have := now_len h (show i.toNat < d.pg.length by omega)
      simp [this]

set_option maxRecDepth 100000 in
theorem pRead_calls (h : DiskAt w L d) (hp : PagesAt w pl L p) (i : Int) : Calls Tryz.prog 39 #[Pp pl, .int .i64 i] w fun e w' =>
    e = .returned (.tuple #[str (p.read d i).1, .int .i64 (p.read d i).2]) ∧ Fr [] w w' := by
  have c0 := hp.c0
  have c3 := hp.c3
  have few := h.ok.few
  have f1 : 0 ≤ d.len := by unfold Disk.len; omega
  have f2 : d.len ≤ 4096 := by unfold Disk.len; omega
  have hlt := hp.lt pl.b (by simp [PL.all])
  cases hcl : p.closed with
  | true =>
    have R : p.read d i = ([], 20) := by simp [M.Pages.read, hcl]
    rw [R]
    rw [hcl] at c3
    clear R
    go_enter Tryz.func39, Tryz.ntmps39
    go_wp2
    go_ret2
    exact ⟨rfl, Fr.refl _ _⟩
  | false =>
    rw [hcl] at c3
    by_cases h0 : i < 0
    · have R : p.read d i = ([], 1) := by simp [M.Pages.read, hcl, h0]
      rw [R]
      clear R
      go_enter Tryz.func39, Tryz.ntmps39
      go_wp2
      go_ret2
      exact ⟨rfl, Fr.refl _ _⟩
    · by_cases h1 : d.len - 17 ≤ i
      · have R : p.read d i = ([], 1) := by simp [M.Pages.read, hcl, h1]
        rw [R]
        clear R
        go_enter Tryz.func39, Tryz.ntmps39
        go_wp2_with (go_at_call 38; refine (pLen_calls h hp).mono ?_; rintro e w' ⟨rfl, rfl⟩)
        go_ret2
        exact ⟨rfl, Fr.refl _ _⟩
      · have R : p.read d i = if (d.read (17 + i)).2 ≠ 0 then ([], (d.read (17 + i)).2) else if (unsealed (d.read (17 + i)).1).ok then ((unsealed (d.read (17 + i)).1).data, 0) else ([], 7) := by simp [M.Pages.read, hcl, h0, h1]
        rw [R]
        have hrd := dRead_calls h (17 + i)
        have hlen := read_len h (17 + i)
        clear R
        generalize d.read (17 + i) = x at hrd hlen ⊢
        have h1' : i < d.len - 17 := by omega
        by_cases hz : x.2 = 0
        · rw [if_neg (by simpa using hz)]
          have hz' : (x.2 != 0) = false := by simpa using hz
          clear hz h1
          cases hok : (unsealed x.1).ok with
          | true =>
            rw [if_pos rfl]
            go_enter Tryz.func39, Tryz.ntmps39
            go_wp2_with (go_at_call 38; refine (pLen_calls h hp).mono ?_; rintro e w' ⟨rfl, rfl⟩)
            refine hrd.mono ?_
            rintro e w2 ⟨rfl, f2⟩
            go_wp2_with fail
            refine (pUnseal_calls x.1 (by omega) _).mono ?_
            rintro e w3 ⟨rfl, f3⟩
            go_wp2_with fail
            go_ret2
            exact ⟨rfl, f2.trans f3⟩
          | false =>
            rw [if_neg (by simp)]
            go_enter Tryz.func39, Tryz.ntmps39
            go_wp2_with (go_at_call 38; refine (pLen_calls h hp).mono ?_; rintro e w' ⟨rfl, rfl⟩)
            refine hrd.mono ?_
            rintro e w2 ⟨rfl, f2⟩
            go_wp2_with fail
            refine (pUnseal_calls x.1 (by omega) _).mono ?_
            rintro e w3 ⟨rfl, f3⟩
            go_wp2_with fail
            go_ret2
            exact ⟨rfl, f2.trans f3⟩
        · rw [if_pos hz]
          have hz' : (x.2 != 0) = true := by simpa using hz
          clear hz h1
          go_enter Tryz.func39, Tryz.ntmps39
          go_wp2_with (go_at_call 38; refine (pLen_calls h hp).mono ?_; rintro e w' ⟨rfl, rfl⟩)
          refine hrd.mono ?_
          rintro e w2 ⟨rfl, f2⟩
          go_wp2_with fail
          go_ret2
          exact ⟨rfl, f2⟩
end
end Go.Proofs.YtcnhlemenpgkbaaGreatDoor
