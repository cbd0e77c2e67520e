/- The specification's disk in memory; its small functions. -/
import Derived.Test.YtpoagpaglocpeaaGreatDisk8
namespace Go.Proofs.YtpoagpaglocpeaaGreat
set_option linter.unusedSimpArgs false
set_option linter.unusedVariables false
set_option linter.unnecessarySimpa false
open Go.RowKit M

/-- Where the specification's disk lies. -/
structure RL where
  b : Nat
  pb : Nat
  cap : Nat

def rcells (p : Pg) : List Value := [str p.old, str (p.new.getD []), .bool p.new.isSome]
def rrows (pg : List Pg) : List Value := pg.flatMap rcells

theorem rrows_length : ∀ (pg : List Pg), (rrows pg).length = pg.length * 3
  | [] => rfl
  | p :: r => by
    have := rrows_length r
    simp only [rrows, List.flatMap_cons, List.length_append, List.length_cons] at this ⊢
    simp [rcells, this]
    omega
theorem rrows_get : ∀ (pg : List Pg) (i : Nat) (p : Pg), pg[i]? = some p → ∀ j, j < 3 → (rrows pg)[i * 3 + j]? = (rcells p)[j]?
  | [], i, p, h, j, hj => by simp at h
  | q :: r, 0, p, h, j, hj => by
    have : q = p := by simpa using h
    subst this
    simp only [rrows, List.flatMap_cons, Nat.zero_mul, Nat.zero_add]
    rw [List.getElem?_append_left (by simp [rcells]; omega)]
  | q :: r, i + 1, p, h, j, hj => by
    have := rrows_get r i p (by simpa using h) j hj
    simp only [rrows, List.flatMap_cons]
    rw [List.getElem?_append_right (by simp [rcells]; omega)]
    rw [show (i + 1) * 3 + j - (rcells q).length = i * 3 + j by simp [rcells]; omega]
    exact this

structure RDiskAt (w : World) (L : RL) (d : Disk) : Prop where
  ok : DiskOk d
  hb : w.heap[L.b]? = some (.cells #[.slice (some ⟨L.pb, 0, none⟩) d.pg.length L.cap, .bool d.off, .int .i64 d.trip] 153 (0, 0))
  hp : ∃ cur, w.heap[L.pb]? = some (.cells cur 156 (0, 0)) ∧ ∀ (j : Nat) (v : Value), (rrows d.pg)[j]? = some v → cur[j]? = some v
  ne : L.b ≠ L.pb

def RL.all (L : RL) : List Nat := [L.b, L.pb]
abbrev Rp (L : RL) : Value := .pointer (some ⟨L.b, 0, none⟩)

section
variable {w : World} {L : RL} {d : Disk}

theorem RDiskAt.fr {w' : World} {S : List Nat} (h : RDiskAt w L d) (hf : Fr S w w') (hn : ∀ k ∈ L.all, k ∉ S) : RDiskAt w' L d := by
  have h1 := hn L.b (by simp [RL.all])
  have h2 := hn L.pb (by simp [RL.all])
  obtain ⟨cur, hm, hP⟩ := h.hp
  exact ⟨h.ok, hf.heap h.hb h1, ⟨cur, hf.heap hm h2, hP⟩, h.ne⟩
theorem RDiskAt.fr0 {w' : World} (h : RDiskAt w L d) (hf : Fr [] w w') : RDiskAt w' L d := h.fr hf (by simp)
theorem RDiskAt.lt (h : RDiskAt w L d) : ∀ k ∈ L.all, k < w.heap.size := by
  obtain ⟨cur, hm, hP⟩ := h.hp
  intro k hk
  simp [RL.all] at hk
  rcases hk with rfl | rfl
  · exact lt_of_heap h.hb
  · exact lt_of_heap hm
theorem RDiskAt.c0 (h : RDiskAt w L d) : w.cell? ⟨L.b, 0, none⟩ = some (.slice (some ⟨L.pb, 0, none⟩) d.pg.length L.cap) := blk_cell h.hb 0 rfl
theorem RDiskAt.c1 (h : RDiskAt w L d) : w.cell? ⟨L.b, 1, none⟩ = some (.bool d.off) := blk_cell h.hb 1 rfl
theorem RDiskAt.c2 (h : RDiskAt w L d) : w.cell? ⟨L.b, 2, none⟩ = some (.int .i64 d.trip) := blk_cell h.hb 2 rfl
theorem RDiskAt.f (h : RDiskAt w L d) (j : Nat) : w.frozen? ⟨L.b, j, none⟩ = false := blk_free h.hb j
theorem RDiskAt.fp (h : RDiskAt w L d) (j : Nat) : w.frozen? ⟨L.pb, j, none⟩ = false := by
  obtain ⟨cur, hm, hP⟩ := h.hp
  exact blk_free hm j
theorem RDiskAt.pc (h : RDiskAt w L d) {n : Nat} {p : Pg} (hn : d.pg[n]? = some p) : w.cell? ⟨L.pb, n * 3, none⟩ = some (str p.old) ∧ w.cell? ⟨L.pb, n * 3 + 1, none⟩ = some (str (p.new.getD [])) ∧ w.cell? ⟨L.pb, n * 3 + 2, none⟩ = some (.bool p.new.isSome) := by
  obtain ⟨cur, hm, hP⟩ := h.hp
  refine ⟨blk_cell hm _ (hP _ _ ?_), blk_cell hm _ (hP _ _ ?_), blk_cell hm _ (hP _ _ ?_)⟩
  · have := rrows_get d.pg n p hn 0 (by omega)
    simpa [rcells] using this
  · rw [rrows_get d.pg n p hn 1 (by omega)]; rfl
  · rw [rrows_get d.pg n p hn 2 (by omega)]; rfl

theorem RDiskAt.setOff (h : RDiskAt w L d) (o : Bool) : RDiskAt (w.setCell ⟨L.b, 1, none⟩ (.bool o)) L { d with off := o } := by
  obtain ⟨cur, hm, hP⟩ := h.hp
  refine ⟨⟨h.ok.few, h.ok.olds, h.ok.news, h.ok.low, h.ok.high⟩, ?_, ⟨cur, ?_, hP⟩, h.ne⟩
  · exact heap_setCell_same' _ _ _ _ _ _ h.hb
  · rw [heap_setCell_other _ _ _ _ (Ne.symm h.ne)]; exact hm
theorem RDiskAt.setTripTo (h : RDiskAt w L d) (n : Int) (h1 : -1 ≤ n) (h2 : n ≤ 9223372036854775807) : RDiskAt (w.setCell ⟨L.b, 2, none⟩ (.int .i64 n)) L { d with trip := n } := by
  obtain ⟨cur, hm, hP⟩ := h.hp
  refine ⟨⟨h.ok.few, h.ok.olds, h.ok.news, h1, h2⟩, ?_, ⟨cur, ?_, hP⟩, h.ne⟩
  · exact heap_setCell_same' _ _ _ _ _ _ h.hb
  · rw [heap_setCell_other _ _ _ _ (Ne.symm h.ne)]; exact hm

theorem rdLen_calls (h : RDiskAt w L d) : Calls Tryz.prog 103 #[Rp L] w fun e w' => e = .returned (.int .i64 d.len) ∧ w = w' := by
  have c0 := h.c0
  clear h
  go_enter Tryz.func103, Tryz.ntmps103
  go_wp2
  go_ret
  exact ⟨rfl, rfl⟩

theorem rdIs_calls (h : RDiskAt w L d) (i : Int) : Calls Tryz.prog 118 #[Rp L, .int .i64 i] w fun e w' => e = .returned (.bool (d.is i)) ∧ w = w' := by
  have c0 := h.c0
  clear h
  obtain ⟨v, hv⟩ : ∃ v, d.is i = v := ⟨_, rfl⟩
  have R : Hid ((decide (0 ≤ i) && decide (i < (d.pg.length : Int))) = v) := hv
  rw [hv]
  clear hv
  by_cases h0 : 0 ≤ i
  · by_cases h1 : i < (d.pg.length : Int)
    · go_enter Tryz.func118, Tryz.ntmps118
      go_wp2
      go_ret
      exact ⟨by rw [← R.out]; simp [h0, h1], rfl⟩
    · go_enter Tryz.func118, Tryz.ntmps118
      go_wp2
      go_ret
      exact ⟨by rw [← R.out]; simp [h0]; omega, rfl⟩
  · have h0' : i < 0 := by omega
    go_enter Tryz.func118, Tryz.ntmps118
    go_wp2
    go_ret
    exact ⟨by rw [← R.out]; simp; omega, rfl⟩

theorem rdStep_calls (h : RDiskAt w L d) : Calls Tryz.prog 178 #[Rp L] w fun e w' => e = .returned (.int .i64 d.step.1) ∧ RDiskAt w' L d.step.2 ∧ Fr [L.b] w w' ∧ (d.step.1 ≠ 0 → d.step.1 = 20) := by
  have c1 := h.c1
  have c2 := h.c2
  have f1 := h.f 1
  have f2 := h.f 2
  have t1 := h.ok.low
  have t2 := h.ok.high
  by_cases k0 : d.trip = 0
  · have hs : d.step = (20, { d with off := true }) := by simp [Disk.step, k0]
    rw [hs]
    have hk : (d.trip == 0) = true := by simp [k0]
    have D := h.setOff true
    clear hs k0 h
    go_enter Tryz.func178, Tryz.ntmps178
    go_wp2
    go_ret
    exact ⟨rfl, D, (Fr.refl _ _).setCell (.inl (by simp)) _, by simp⟩
  · have hk : (d.trip == 0) = false := by simp [k0]
    by_cases k1 : 0 < d.trip
    · have hs : d.step = (0, { d with trip := d.trip - 1 }) := by simp [Disk.step, k0, k1]
      rw [hs]
      have D := h.setTripTo (d.trip - 1) (by omega) (by omega)
      clear hs k0 h
      go_enter Tryz.func178, Tryz.ntmps178
      go_wp2
      go_ret
      exact ⟨rfl, D, (Fr.refl _ _).setCell (.inl (by simp)) _, by simp⟩
    · have hs : d.step = (0, d) := by simp [Disk.step, k0, k1]
      rw [hs]
      have k2 : d.trip < 0 := by omega
      clear hs k0 k1
      go_enter Tryz.func178, Tryz.ntmps178
      go_wp2
      go_ret
      exact ⟨rfl, h, Fr.refl _ _, by simp⟩

theorem rdTrip_calls (h : RDiskAt w L d) (n : Int) (hn : n ≤ 9223372036854775807) : Calls Tryz.prog 54 #[Rp L, .int .i64 n] w fun e w' => e = .returned (.tuple #[]) ∧ RDiskAt w' L (d.setTrip n) ∧ Fr [L.b] w w' := by
  have c2 := h.c2
  have f2 := h.f 2
  have D := h.setTripTo (max (-1) n) (by omega) (by omega)
  have D' : RDiskAt (w.setCell ⟨L.b, 2, none⟩ (.int .i64 (max (-1) n))) L (d.setTrip n) := by
    have e : max (-1) n = max n (-1) := by omega
    rw [e] at D ⊢
    exact D
  clear h D
  go_enter Tryz.func54, Tryz.ntmps54
  go_wp2
  go_end0
  exact ⟨rfl, D', (Fr.refl _ _).setCell (.inl (by simp)) _⟩

theorem rdNow_calls (h : RDiskAt w L d) (i : Int) (h0 : 0 ≤ i) (h1 : i < d.pg.length) :
    Calls Tryz.prog 159 #[Rp L, .int .i64 i] w fun e w' => e = .returned (str (d.now i.toNat)) ∧ w = w' := by
  obtain ⟨n, rfl⟩ := Int.eq_ofNat_of_zero_le h0
  have h1' : n < d.pg.length := by omega
  have hg : d.pg[n]? = some d.pg[n] := List.getElem?_eq_getElem h1'
  obtain ⟨p0, p1, p2⟩ := h.pc hg
  have c0 := h.c0
  have hnow : d.now n = d.pg[n].now := by simp [Disk.now, hg]
  generalize d.pg[n] = p at p0 p1 p2 hnow
  have HN := Lib.hid hnow
  clear hnow hg
  obtain ⟨old, new⟩ := p
  cases new with
  | none =>
    go_enter Tryz.func159, Tryz.ntmps159
    go_wp2
    go_ret
    exact ⟨by simp [HN.out, Pg.now], rfl⟩
  | some b =>
    go_enter Tryz.func159, Tryz.ntmps159
    go_wp2
    go_ret
    exact ⟨by simp [HN.out, Pg.now], rfl⟩

theorem rdRead_calls (h : RDiskAt w L d) (i : Int) : Calls Tryz.prog 120 #[Rp L, .int .i64 i] w fun e w' =>
    e = .returned (.tuple #[str (d.read i).1, .int .i64 (d.read i).2]) ∧ Fr [] w w' := by
  have c1 := h.c1
  cases hoff : d.off with
  | true =>
    have R : d.read i = ([], 20) := by simp [Disk.read, hoff]
    rw [R]
    rw [hoff] at c1
    clear R
    go_enter Tryz.func120, Tryz.ntmps120
    go_wp2_with (go_at_call 118; refine (rdIs_calls h i).mono ?_; rintro e w' ⟨rfl, rfl⟩)
    go_ret2
    exact ⟨rfl, Fr.refl _ _⟩
  | false =>
    rw [hoff] at c1
    cases his : d.is i with
    | false =>
      have R : d.read i = ([], 1) := by simp [Disk.read, hoff, his]
      rw [R]
      clear R
      go_enter Tryz.func120, Tryz.ntmps120
      go_wp2_with (go_at_call 118; refine (rdIs_calls h i).mono ?_; rintro e w' ⟨rfl, rfl⟩)
      go_ret2
      exact ⟨rfl, Fr.refl _ _⟩
    | true =>
      have R : d.read i = (d.now i.toNat, 0) := by simp [Disk.read, hoff, his]
      rw [R]
      clear R
      have hi := is_iff.1 his
      go_enter Tryz.func120, Tryz.ntmps120
      go_wp2_with (first | (go_at_call 118; refine (rdIs_calls h i).mono ?_; rintro e w' ⟨rfl, rfl⟩) | (go_at_call 159; refine (rdNow_calls h i hi.1 hi.2).mono ?_; rintro e w1 ⟨rfl, rfl⟩))
      go_ret2
      exact ⟨rfl, Fr.refl _ _⟩
end
end Go.Proofs.YtpoagpaglocpeaaGreat
