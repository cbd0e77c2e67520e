/- The specification replays a log; the plain replay. -/
import Derived.Test.YtpoagpaglocpeaaGreatRef10
import Derived.Test.YtpoagpaglocpeaaGreatFresh2
import Derived.Test.YtpoagpaglocpeaaGreatAtom
import Derived.Test.YtpoagpaglocpeaaGreatLawA
import Derived.Test.YtpoagpaglocpeaaGreatRef9
namespace Go.Proofs.YtpoagpaglocpeaaGreat
set_option linter.unusedSimpArgs false
set_option linter.unusedVariables false
set_option linter.unnecessarySimpa false
open Go.RowKit M

def repPuts (im : List Bytes) (ts : List Nat) (n : Nat) : List Stp := (List.range n).map fun j => .put ((17 + ts.getD j 0 : Nat) : Int) (im.getD (1 + j) [])
/-- The steps of a replay. -/
def repSteps (im : List Bytes) : List Stp := repPuts im (targets im) (targets im).length ++ if targets im = [] then [] else [.flush]

theorem repPuts_succ (im : List Bytes) (ts : List Nat) (n : Nat) : repPuts im ts (n + 1) = repPuts im ts n ++ [.put ((17 + ts.getD n 0 : Nat) : Int) (im.getD (1 + n) [])] := by simp [repPuts, List.range_succ]
theorem repPuts_split (im : List Bytes) (ts : List Nat) (n k : Nat) (h : n ≤ k) : ∃ tl, repPuts im ts k = repPuts im ts n ++ tl := by
  induction k with
  | zero => exact ⟨[], by rw [show n = 0 by omega]; rfl⟩
  | succ k ih =>
    by_cases e : n = k + 1
    · subst e; exact ⟨[], by simp⟩
    · obtain ⟨tl, ht⟩ := ih (by omega)
      exact ⟨tl ++ [.put ((17 + ts.getD k 0 : Nat) : Int) (im.getD (1 + k) [])], by rw [repPuts_succ, ht, List.append_assoc]⟩
theorem putsN_rep (im : List Bytes) (ts : List Nat) (h16 : ts.length ≤ 16) : ∀ n, n ≤ ts.length → putsN im ts n = repPuts im ts n
  | 0, _ => rfl
  | n + 1, hn => by
    rw [putsN, repPuts_succ, putsN_rep im ts h16 n (by omega)]
    congr 3
    rw [List.getD_eq_getElem?_getD, List.getD_eq_getElem?_getD, replayN_other (n + 1) (fun j _ => by omega)]
theorem openSteps_rep (im : List Bytes) : openSteps im = repSteps im := by
  unfold openSteps repSteps
  rw [putsN_rep im _ (targets_spec im).1 _ (Nat.le_refl _)]
theorem runAll_one (d : Disk) (s : Stp) : runAll d [s] = runStep d s := by
  simp only [runAll]
  split
  · rename_i h
    rw [← h]
  · rfl

section
variable {w : World} {L : RL} {d : Disk}

set_option maxRecDepth 100000 in
theorem rReplay_calls (h : RDiskAt w L d) (hoff : d.off = false) (h18 : 18 ≤ d.pg.length) : Calls Tryz.prog 105 #[Rp L] w fun e w' =>
    e = .returned (.int .i64 (runAll d (repSteps d.seen)).1) ∧ RDiskAt w' L (runAll d (repSteps d.seen)).2 ∧ Fr L.all w w' := by
  have few := h.ok.few
  have hLw := h.lt
  have hR := rread_calls h hoff
  have hsl := seen_length d
  have h128 : ∀ x ∈ d.seen, x.length = 128 := by
    intro x hx
    obtain ⟨i, hi, rfl⟩ := List.getElem_of_mem hx
    rw [hsl] at hi
    have := seen_get d i hi
    rw [List.getElem?_eq_getElem (by rw [hsl]; exact hi)] at this
    rw [Option.some.inj this]
    exact now_len' h hi
  have hspec := targets_spec d.seen
  have HRS : Hid (repSteps d.seen = repPuts d.seen (targets d.seen) (targets d.seen).length ++ if targets d.seen = [] then [] else [.flush]) := rfl
  generalize repSteps d.seen = rs at HRS ⊢
  go_enter Tryz.func105, Tryz.ntmps105
  go_wp2_with fail
  refine hR.mono ?_
  rintro e w1 ⟨v, rfl, R, f1⟩
  rw [← hsl] at R
  have hT := rTargets_calls R h128 (by omega) (by omega)
  generalize hts : targets d.seen = ts at hT hspec HRS
  clear hts
  obtain ⟨h16, hin⟩ := hspec
  go_wp2_with fail
  refine hT.mono ?_
  rintro e w2 ⟨u, rfl, RT, f2⟩
  obtain ⟨vp, vc, rfl⟩ := ownsRow_len R
  obtain ⟨up, uc, rfl⟩ := ownsRow_len RT
  have R2 := ownsRow_fr' R f2 (by simp)
  have D2 := (h.fr0 f1).fr0 f2
  have F2 := f1.trans f2
  have s1 := f1.size
  clear hT R f1 f2
  go_wp2_with fail
  go_loopg [6] ts.length (fun kq i w' => ∃ n : Nat, i = .int .i64 n ∧ n ≤ ts.length ∧ Hid (kq + n = ts.length) ∧ Hid ((runAll d (repPuts d.seen ts n)).1 = 0) ∧ RDiskAt w' L (runAll d (repPuts d.seen ts n)).2 ∧ Fr L.all w2 w')
  case atStart => exact ⟨0, rfl, by omega, by simp [Hid], rfl, D2, Fr.refl _ _⟩
  case round =>
    obtain ⟨n, rfl, hn, hk, HZ, Dr, fr⟩ := hrel
    by_cases hlt : n < ts.length
    · have hlt' : (n : Int) < (ts.length : Int) := by omega
      obtain ⟨x, hx⟩ : ∃ x, ts[n]? = some x := ⟨ts[n], List.getElem?_eq_getElem hlt⟩
      have hxin := hin n x hx
      have h1n : 1 + n < d.seen.length := by omega
      have h1n' : (1 : Int) + (n : Int) < (d.seen.length : Int) := by omega
      obtain ⟨s, hs⟩ : ∃ s, d.seen[1 + n]? = some s := ⟨d.seen[1 + n], List.getElem?_eq_getElem h1n⟩
      have hs8 := h128 s (List.mem_of_getElem? hs)
      have Rr := ownsRow_fr' R2 fr (fun k hk => by have := (R2.lt k hk).1; intro hk'; have := hLw k hk'; omega)
      have Tr := ownsRow_fr' RT fr (fun k hk => by have := (RT.lt k hk).1; intro hk'; have := hLw k hk'; omega)
      obtain ⟨g1, hg1, hc1⟩ := (own_read Rr).2 (1 + n) h1n (str s) (by simp [strs, hs])
      obtain ⟨g2, hg2, hc2⟩ := (own_read Tr).2 n hlt (.int .i64 x) (by simp [natv, hx])
      subst hg1
      subst hg2
      have hw := rdWrite_calls (Dr.fr0 ((Fr.refl [] wr).drew)) (17 + (x : Int)) s hs8
      have HP : Hid (repPuts d.seen ts (n + 1) = repPuts d.seen ts n ++ [.put ((17 + x : Nat) : Int) s]) := by
        unfold Hid
        rw [repPuts_succ]
        simp only [List.getD, hx, hs, Option.getD_some]
      have HS : Hid (∃ tl, rs = repPuts d.seen ts (n + 1) ++ tl) := by
        obtain ⟨tl, htl⟩ := repPuts_split d.seen ts (n + 1) ts.length (by omega)
        exact ⟨_, by rw [HRS.out, htl, List.append_assoc]⟩
      have HW : Hid (runAll d (repPuts d.seen ts (n + 1)) = (runAll d (repPuts d.seen ts n)).2.write (17 + (x : Int)) s) := by
        unfold Hid
        rw [HP.out, runAll_snoc0 HZ.out, runAll_one]
        rfl
      generalize hD : (runAll d (repPuts d.seen ts n)).2 = dn at Dr hw HW
      clear hD hx hs
      generalize hq : dn.write (17 + (x : Int)) s = q at hw HW
      clear hq
      obtain ⟨e0, d0⟩ := q
      simp only at hw
      have e17 : IntKind.i64.wrap (17 + (x : Int)) = 17 + (x : Int) := by rw [IntKind.wrap_i64]; omega
      have e1n : IntKind.i64.wrap (1 + (n : Int)) = 1 + (n : Int) := by rw [IntKind.wrap_i64]; omega
      have i2 : (1 + (n : Int)) < d.pg.length := by omega
      have i3 : (1 + (n : Int)).toNat = 1 + n := by omega
      have i4 : 0 ≤ 1 + (n : Int) := by omega
      go_wp2_with fail
      refine wp_region_still_tail 11 (by kernel_rfl) (by kernel_rfl) ?_
      simp only [List.take_succ_cons, List.take_zero, List.drop_succ_cons, List.drop_zero]
      iterate 11 still_step
      refine wpStill_nil ?_
      go_wp2_with fail
      refine hw.mono ?_
      rintro e w4 ⟨rfl, D4, f4⟩
      have F4 : Fr L.all w2 w4 := (fr.trans ((Fr.refl [] wr).drew.any)).trans f4
      by_cases hz : e0 = 0
      · have hz' : (e0 != 0) = false := by simp [hz]
        have HQ : Hid (runAll d (repPuts d.seen ts (n + 1)) = (0, d0)) := by unfold Hid; rw [HW.out, hz]
        clear hz
        go_wp2_with fail
        go_roundg (gk - 1)
        case measure => have := hk.out; omega
        case rel => exact ⟨n + 1, by go_num, by omega, by have := hk.out; unfold Hid; omega, by unfold Hid; rw [HQ.out], by rw [HQ.out]; exact D4, F4⟩
      · have hz' : (e0 != 0) = true := by simpa using hz
        have HQ : Hid (runAll d rs = (e0, d0)) := by
          obtain ⟨tl, htl⟩ := HS.out
          unfold Hid
          rw [htl, runAll_bad (by rw [HW.out]; exact hz), HW.out]
        clear hz
        go_wp2_with fail
        go_ret
        rw [HQ.out]
        exact ⟨rfl, D4, F2.any.trans F4⟩
    · obtain rfl : n = ts.length := by omega
      have hlt' : decide ((ts.length : Int) < (ts.length : Int)) = false := by simp
      by_cases h0 : ts = []
      · have HQ : Hid (runAll d rs = (0, (runAll d (repPuts d.seen ts ts.length)).2)) := by
          unfold Hid
          rw [HRS.out, if_pos h0, List.append_nil]
          have := HZ.out
          generalize runAll d (repPuts d.seen ts ts.length) = q at this ⊢
          rw [← this]
        have hz : ts.length = 0 := by rw [h0]; rfl
        clear h0
        rw [hz] at hlt'
        rw [hz]
        go_wp2_with fail
        go_ret
        rw [HQ.out]
        exact ⟨rfl, Dr, F2.any.trans fr⟩
      · have HQ : Hid (runAll d rs = (runAll d (repPuts d.seen ts ts.length)).2.flush) := by
          unfold Hid
          rw [HRS.out, if_neg h0, runAll_snoc0 HZ.out, runAll_one]
          rfl
        have hpos : (0 : Int) < (ts.length : Int) := by have := List.length_pos_iff.2 h0; omega
        clear h0
        go_wp2_with fail
        refine (rdFlush_calls Dr).mono ?_
        rintro e w4 ⟨rfl, D4, f4⟩
        go_wp2_with fail
        go_ret
        rw [HQ.out]
        exact ⟨rfl, D4, (F2.any.trans fr).trans f4⟩
end
end Go.Proofs.YtpoagpaglocpeaaGreat
/- The specification's pages: their length, reading; equal numbers. -/
namespace Go.Proofs.YtpoagpaglocpeaaGreat
set_option linter.unusedSimpArgs false
set_option linter.unusedVariables false
set_option linter.unnecessarySimpa false
open Go.RowKit M

abbrev Qp (pl : PL) : Value := .pointer (some ⟨pl.b, 0, none⟩)
section
variable {w : World} {pl : PL} {L : RL} {p : M.Pages} {d : Disk}
theorem RPagesAt.c0 (h : RPagesAt w pl L p) : w.cell? ⟨pl.b, 0, none⟩ = some (Rp L) := by obtain ⟨bv, h1, _⟩ := h.at_; exact blk_cell h1 0 rfl
theorem RPagesAt.c1 (h : RPagesAt w pl L p) : w.cell? ⟨pl.b, 1, none⟩ = some (.int .i64 p.number) := by obtain ⟨bv, h1, _⟩ := h.at_; exact blk_cell h1 1 rfl
theorem RPagesAt.c3 (h : RPagesAt w pl L p) : w.cell? ⟨pl.b, 3, none⟩ = some (.bool p.closed) := by obtain ⟨bv, h1, _⟩ := h.at_; exact blk_cell h1 3 rfl
theorem RPagesAt.f (h : RPagesAt w pl L p) (j : Nat) : w.frozen? ⟨pl.b, j, none⟩ = false := by obtain ⟨bv, h1, _⟩ := h.at_; exact blk_free h1 j

theorem rLen_calls (h : RDiskAt w L d) (hp : RPagesAt w pl L p) : Calls Tryz.prog 61 #[Qp pl] w fun e w' => e = .returned (.int .i64 (d.len - 17)) ∧ w = w' := by
  have c0 := hp.c0
  have few := h.ok.few
  have f1 : 0 ≤ d.len := by unfold Disk.len; omega
  have f2 : d.len ≤ 4096 := by unfold Disk.len; omega
  go_enter Tryz.func61, Tryz.ntmps61
  go_wp2_with (go_at_call 103; refine (rdLen_calls h).mono ?_; rintro e w' ⟨rfl, rfl⟩)
  go_ret
  exact ⟨rfl, rfl⟩
theorem read_len' (h : RDiskAt w L d) (i : Int) : (d.read i).1.length ≤ 128 := by
  unfold Disk.read
  cases d.off with
  | true => simp
  | false =>
    cases his : d.is i with
    | false => simp
    | true =>
      have hi := is_iff.1 his
      have := now_len' h (show i.toNat < d.pg.length by omega)
      simp [this]

set_option maxRecDepth 100000 in
theorem rpRead_calls (h : RDiskAt w L d) (hp : RPagesAt w pl L p) (i : Int) : Calls Tryz.prog 62 #[Qp pl, .int .i64 i] w fun e w' =>
    e = .returned (.tuple #[str (p.read d i).1, .int .i64 (p.read d i).2]) ∧ Fr [] w w' := by
  have c0 := hp.c0
  have c3 := hp.c3
  have few := h.ok.few
  have f1 : 0 ≤ d.len := by unfold Disk.len; omega
  have f2 : d.len ≤ 4096 := by unfold Disk.len; omega
  have hlt := hp.lt pl.b (by simp [PL.all])
  cases hcl : p.closed with
  | true =>
    have R : p.read d i = ([], 20) := by simp [M.Pages.read, hcl]
    rw [R]
    rw [hcl] at c3
    clear R
    go_enter Tryz.func62, Tryz.ntmps62
    go_wp2
    go_ret2
    exact ⟨rfl, Fr.refl _ _⟩
  | false =>
    rw [hcl] at c3
    by_cases h0 : i < 0
    · have R : p.read d i = ([], 1) := by simp [M.Pages.read, hcl, h0]
      rw [R]
      clear R
      go_enter Tryz.func62, Tryz.ntmps62
      go_wp2
      go_ret2
      exact ⟨rfl, Fr.refl _ _⟩
    · by_cases h1 : d.len - 17 ≤ i
      · have R : p.read d i = ([], 1) := by simp [M.Pages.read, hcl, h1]
        rw [R]
        clear R
        go_enter Tryz.func62, Tryz.ntmps62
        go_wp2_with (go_at_call 61; refine (rLen_calls h hp).mono ?_; rintro e w' ⟨rfl, rfl⟩)
        go_ret2
        exact ⟨rfl, Fr.refl _ _⟩
      · have R : p.read d i = if (d.read (17 + i)).2 ≠ 0 then ([], (d.read (17 + i)).2) else if (unsealed (d.read (17 + i)).1).ok then ((unsealed (d.read (17 + i)).1).data, 0) else ([], 7) := by simp [M.Pages.read, hcl, h0, h1]
        rw [R]
        have hrd := rdRead_calls h (17 + i)
        have hlen := read_len' h (17 + i)
        clear R
        generalize d.read (17 + i) = x at hrd hlen ⊢
        have h1' : i < d.len - 17 := by omega
        by_cases hz : x.2 = 0
        · rw [if_neg (by simpa using hz)]
          have hz' : (x.2 != 0) = false := by simpa using hz
          clear hz h1
          have hu := fun w' => rUnseal_calls x.1 (by omega) w'
          unfold unv at hu
          generalize unsealed x.1 = us at hu ⊢
          obtain ⟨n0, d0, ok0⟩ := us
          simp only at hu
          cases ok0 with
          | true =>
            rw [if_pos rfl]
            go_enter Tryz.func62, Tryz.ntmps62
            go_wp2_with (go_at_call 61; refine (rLen_calls h hp).mono ?_; rintro e w' ⟨rfl, rfl⟩)
            refine hrd.mono ?_
            rintro e w2 ⟨rfl, f2⟩
            go_wp2_with fail
            refine (hu _).mono ?_
            rintro e w3 ⟨rfl, f3⟩
            have fu := (f2.trans f3).alloc (.cells #[.int .i64 n0, str d0, .bool true] 172)
            have gu := heap_alloc_new w3 (.cells #[.int .i64 n0, str d0, .bool true] 172)
            go_wp2_with fail
            go_ret2
            exact ⟨rfl, fu⟩
          | false =>
            rw [if_neg (by simp)]
            go_enter Tryz.func62, Tryz.ntmps62
            go_wp2_with (go_at_call 61; refine (rLen_calls h hp).mono ?_; rintro e w' ⟨rfl, rfl⟩)
            refine hrd.mono ?_
            rintro e w2 ⟨rfl, f2⟩
            go_wp2_with fail
            refine (hu _).mono ?_
            rintro e w3 ⟨rfl, f3⟩
            have fu := (f2.trans f3).alloc (.cells #[.int .i64 n0, str d0, .bool false] 172)
            have gu := heap_alloc_new w3 (.cells #[.int .i64 n0, str d0, .bool false] 172)
            go_wp2_with fail
            go_ret2
            exact ⟨rfl, fu⟩
        · rw [if_pos hz]
          have hz' : (x.2 != 0) = true := by simpa using hz
          clear hz h1
          go_enter Tryz.func62, Tryz.ntmps62
          go_wp2_with (go_at_call 61; refine (rLen_calls h hp).mono ?_; rintro e w' ⟨rfl, rfl⟩)
          refine hrd.mono ?_
          rintro e w2 ⟨rfl, f2⟩
          go_wp2_with fail
          go_ret2
          exact ⟨rfl, f2⟩

set_option maxRecDepth 100000 in
theorem rSameInts_calls {B B' : Nat} {u v : Value} {a b : List Int} (ha : w.ownsRow B 3 1 u a.length (intv a)) (hb : w.ownsRow B' 3 1 v b.length (intv b)) (hfew : a.length ≤ 100000) :
    Calls Tryz.prog 60 #[u, v] w fun e w' => e = .returned (.bool (decide (a = b))) ∧ Fr [] w w' := by
  obtain ⟨up, uc, rfl⟩ := ownsRow_len ha
  obtain ⟨vp, vc, rfl⟩ := ownsRow_len hb
  by_cases hl : a.length = b.length
  · rw [← hl]
    rw [← hl] at hb
    have HL := Lib.hid hl
    clear hl
    go_enter Tryz.func60, Tryz.ntmps60
    go_wp2_with fail
    go_loopg [5] a.length (fun kq i w' => ∃ n : Nat, i = .int .i64 n ∧ n ≤ a.length ∧ Hid (kq + n = a.length) ∧ Hid (a.take n = b.take n) ∧ Fr [] w w')
    case atStart => exact ⟨0, rfl, by omega, by simp [Hid], by simp [Hid], Fr.refl _ _⟩
    case round =>
      obtain ⟨n, rfl, hn, hk, HT, fr⟩ := hrel
      by_cases hlt : n < a.length
      · have hlt' : (n : Int) < (a.length : Int) := by omega
        have hxa : a[n]? = some a[n] := List.getElem?_eq_getElem hlt
        have hxb : b[n]? = some (b[n]'(by have := HL.out; omega)) := List.getElem?_eq_getElem (by have := HL.out; omega)
        obtain ⟨g1, rfl, _, hc1⟩ := own_cell_fr (ownsRow_low ha (Nat.zero_le _)) fr (by simp) (j := n) (v := .int .i64 a[n]) (by simp [intv, hxa])
        obtain ⟨g2, rfl, _, hc2⟩ := own_cell_fr (ownsRow_low hb (Nat.zero_le _)) fr (by simp) (j := n) (v := .int .i64 (b[n]'(by have := HL.out; omega))) (by simp [intv, hxb])
        have HA : Hid (a.take (n + 1) = a.take n ++ [a[n]]) := take_snoc hxa
        have HB : Hid (b.take (n + 1) = b.take n ++ [b[n]'(by have := HL.out; omega)]) := take_snoc hxb
        have hnb : n < b.length := by have := HL.out; omega
        have HG : Hid (a[n]? = some a[n] ∧ b[n]? = some (b[n]'hnb)) := ⟨hxa, hxb⟩
        generalize a[n] = x at hc1 HA HG
        generalize b[n]'(by have := HL.out; omega) = y at hc2 HB HG
        clear hxa hxb
        by_cases hxy : x = y
        · subst hxy
          go_wp2_with fail
          refine wp_region_still_lit (by kernel_rfl) (by kernel_rfl) ?_
          iterate 9 still_step
          refine wpStill_nil ?_
          go_wp2_with fail
          go_roundg (gk - 1)
          case measure => have := hk.out; omega
          case rel =>
            refine ⟨n + 1, by go_num, by omega, by have := hk.out; unfold Hid; omega, ?_, fr.drew⟩
            unfold Hid
            rw [HA.out, HB.out, HT.out]
        · have HX := Lib.hid hxy
          have HD : Hid (decide (a = b) = false) := by
            unfold Hid
            rw [decide_eq_false_iff_not]
            intro e
            subst e
            have := HG.out
            exact HX.out (Option.some.inj (this.1.symm.trans this.2))
          have hxn : (x == y) = false := by simpa using hxy
          clear hxy
          go_wp2_with fail
          refine wp_region_still_lit (by kernel_rfl) (by kernel_rfl) ?_
          iterate 9 still_step
          refine wpStill_nil ?_
          go_wp2_with fail
          go_ret
          exact ⟨by rw [HD.out]; rfl, fr.drew⟩
      · obtain rfl : n = a.length := by omega
        have hlt' : decide ((a.length : Int) < (a.length : Int)) = false := by simp
        have HD : Hid (decide (a = b) = true) := by
          unfold Hid
          rw [decide_eq_true_eq]
          have := HT.out
          rwa [List.take_length, HL.out, List.take_length] at this
        go_wp2
        go_ret
        exact ⟨by rw [HD.out]; rfl, fr⟩
  · have HD : Hid (decide (a = b) = false) := by
      unfold Hid
      rw [decide_eq_false_iff_not]
      intro e
      exact hl (by rw [e])
    have hne : ((a.length : Int) == (b.length : Int)) = false := by simp; omega
    clear hl
    go_enter Tryz.func60, Tryz.ntmps60
    go_wp2
    go_ret
    exact ⟨by rw [HD.out]; rfl, Fr.refl _ _⟩

end
end Go.Proofs.YtpoagpaglocpeaaGreat
/- The specification writes the log. -/
namespace Go.Proofs.YtpoagpaglocpeaaGreat
set_option linter.unusedSimpArgs false
set_option linter.unusedVariables false
set_option linter.unnecessarySimpa false
open Go.RowKit M

def logSteps (t : Int) (l : List PW) : List Stp := (logs t 1 l ++ [.put 0 (sealed t (record (pgs l)))]) ++ [.flush]

theorem logs_split (t : Int) (l : List PW) (k : Int) (n : Nat) (h : n ≤ l.length) : ∃ tl, logs t k l = logs t k (l.take n) ++ tl := by
  induction l generalizing k n with
  | nil => exact ⟨[], by simp [show n = 0 by simpa using h]⟩
  | cons x l ih =>
    cases n with
    | zero => exact ⟨logs t k (x :: l), by simp [logs]⟩
    | succ n =>
      obtain ⟨tl, ht⟩ := ih (k + 1) n (by simpa using h)
      exact ⟨tl, by simp [logs, ht]⟩

section
variable {w : World} {L : RL} {d : Disk} {pl : PL} {p : M.Pages}

set_option maxRecDepth 100000 in
set_option maxHeartbeats 4000000 in
theorem rLog_calls (h : RDiskAt w L d) (hp : RPagesAt w pl L p) (hne : ∀ k ∈ pl.all, k ∉ L.all) {v : Value} {l : List PW} (hl : PwAt w v l) (hvL : ∀ k, v.ownBlock = some k → k ∉ L.all) (hfew : l.length ≤ 16) (t : Nat) (ht1 : 1 ≤ t) (ht2 : t ≤ 1073741824) (h116 : ∀ x ∈ l, x.2.length = 116) (hnn : ∀ x ∈ l, 0 ≤ x.1) :
    Calls Tryz.prog 115 #[Qp pl, v, .int .i64 t] w fun e w' => e = .returned (.int .i64 (runAll d (logSteps t l)).1) ∧ RDiskAt w' L (runAll d (logSteps t l)).2 ∧ Fr L.all w w' := by
  obtain ⟨vp, vc, rfl⟩ := ownsRow_len hl
  have HRS : Hid (logSteps t l = (logs t 1 l ++ [.put 0 (sealed t (record (pgs l)))]) ++ [.flush]) := rfl
  have hpb : pl.b ∉ L.all := hne pl.b (by simp [PL.all])
  have hrec : (sealed t (record (pgs l))).length = 128 := seal_len ht1 ht2 (record_length _ (by simp [pgs]; omega))
  generalize logSteps t l = rs at HRS ⊢
  go_enter Tryz.func115, Tryz.ntmps115
  go_wp2_with fail
  go_loopg [7] l.length (fun kq i w' => ∃ n : Nat, i = .int .i64 n ∧ n ≤ l.length ∧ Hid (kq + n = l.length) ∧ Hid ((runAll d (logs t 1 (l.take n))).1 = 0) ∧ RDiskAt w' L (runAll d (logs t 1 (l.take n))).2 ∧ Fr L.all w w')
  case atStart => exact ⟨0, rfl, by omega, by simp [Hid], rfl, h, Fr.refl _ _⟩
  case round =>
    rename World => wo
    obtain ⟨n, rfl, hn, hk, HZ, Dr, fr⟩ := hrel
    have c0 : wo.cell? ⟨pl.b, 0, none⟩ = some (Rp L) := cell_fr fr hp.c0 hpb
    have hlr := hl.fr fr hvL
    by_cases hlt : n < l.length
    · have hlt' : (n : Int) < (l.length : Int) := by omega
      obtain ⟨x, hx⟩ : ∃ x, l[n]? = some x := ⟨l[n], List.getElem?_eq_getElem hlt⟩
      obtain ⟨g, rfl, hgl, hca, hcb⟩ := hlr.cells hx
      have hgL : g ∉ L.all := hvL g rfl
      have h1 := h116 x (List.mem_of_getElem? hx)
      have hsl := seal_len ht1 ht2 h1
      have HP : Hid (logs t 1 (l.take (n + 1)) = logs t 1 (l.take n) ++ [.put (1 + (n : Int)) (sealed t x.2)]) := by
        unfold Hid
        rw [take_snoc hx, logs_snoc, List.length_take, Nat.min_eq_left hn]
      have HS : Hid (∃ tl, rs = logs t 1 (l.take (n + 1)) ++ tl) := by
        obtain ⟨tl, htl⟩ := logs_split t l 1 (n + 1) (by omega)
        exact ⟨tl ++ ([.put 0 (sealed t (record (pgs l)))] ++ [.flush]), by rw [HRS.out, htl, List.append_assoc, List.append_assoc]⟩
      have HW : Hid (runAll d (logs t 1 (l.take (n + 1))) = (runAll d (logs t 1 (l.take n))).2.write (1 + (n : Int)) (sealed t x.2)) := by
        unfold Hid
        rw [HP.out, runAll_snoc0 HZ.out, runAll_one]
        rfl
      have hSe := fun w' => rSeal_calls t x.2 w'
      generalize hs : sealed t x.2 = s at hSe hsl HW HP
      clear hs
      have hw := fun (w' : World) (hD : RDiskAt w' L (runAll d (logs t 1 (l.take n))).2) => rdWrite_calls hD (1 + (n : Int)) s hsl
      generalize hD : (runAll d (logs t 1 (l.take n))).2 = dn at Dr hw HW
      clear hD
      generalize hq : dn.write (1 + (n : Int)) s = q at hw HW
      clear hq
      obtain ⟨e0, d0⟩ := q
      simp only at hw
      generalize x.2 = y at hcb hSe h1
      clear hca h1 hx hsl
      have e1n : IntKind.i64.wrap (1 + (n : Int)) = 1 + (n : Int) := by rw [IntKind.wrap_i64]; omega
      go_wp2_with fail
      refine wp_region_keep (fun w' => w'.cell? ⟨pl.b, 0, none⟩ = some (Rp L) ∧ w'.cell? ⟨g, n * 2 + 1, none⟩ = some (str y)) 14 (by kernel_rfl) ?_
      have hS : wo.drew.cell? ⟨pl.b, 0, none⟩ = some (Rp L) ∧ wo.drew.cell? ⟨g, n * 2 + 1, none⟩ = some (str y) := ⟨c0, hcb⟩
      refine keepTake (i := 0) (v := ?_) (a' := ?_) rfl (by kernel_rfl) (by kernel_rfl) (by kernel_rfl) (by kernel_rfl) (by kernel_rfl) (by kernel_rfl) (fun w hSw => ?_) hS ?_ ?_
      rotate_left 2
      · (try dsimp only at hSw); (try (have hSa := hSw.1; have hSb := hSw.2)); (try (have hSc := hSb.1; have hSd := hSb.2)); go_simp; with_reducible rfl
      · go_simp; with_reducible rfl
      refine keepTake (i := 1) (v := ?_) (a' := ?_) rfl (by kernel_rfl) (by kernel_rfl) (by kernel_rfl) (by kernel_rfl) (by kernel_rfl) (by kernel_rfl) (fun w hSw => ?_) hS ?_ ?_
      rotate_left 2
      · (try dsimp only at hSw); (try (have hSa := hSw.1; have hSb := hSw.2)); (try (have hSc := hSb.1; have hSd := hSb.2)); go_simp; with_reducible rfl
      · go_simp; with_reducible rfl
      refine keepTake (i := 2) (v := ?_) (a' := ?_) rfl (by kernel_rfl) (by kernel_rfl) (by kernel_rfl) (by kernel_rfl) (by kernel_rfl) (by kernel_rfl) (fun w hSw => ?_) hS ?_ ?_
      rotate_left 2
      · (try dsimp only at hSw); (try (have hSa := hSw.1; have hSb := hSw.2)); (try (have hSc := hSb.1; have hSd := hSb.2)); go_simp; with_reducible rfl
      · go_simp; with_reducible rfl
      refine keepTake (i := 3) (v := ?_) (a' := ?_) rfl (by kernel_rfl) (by kernel_rfl) (by kernel_rfl) (by kernel_rfl) (by kernel_rfl) (by kernel_rfl) (fun w hSw => ?_) hS ?_ ?_
      rotate_left 2
      · (try dsimp only at hSw); (try (have hSa := hSw.1; have hSb := hSw.2)); (try (have hSc := hSb.1; have hSd := hSb.2)); go_simp; with_reducible rfl
      · go_simp; with_reducible rfl
      refine keepTake (i := 4) (v := ?_) (a' := ?_) rfl (by kernel_rfl) (by kernel_rfl) (by kernel_rfl) (by kernel_rfl) (by kernel_rfl) (by kernel_rfl) (fun w hSw => ?_) hS ?_ ?_
      rotate_left 2
      · (try dsimp only at hSw); (try (have hSa := hSw.1; have hSb := hSw.2)); (try (have hSc := hSb.1; have hSd := hSb.2)); go_simp; with_reducible rfl
      · go_simp; with_reducible rfl
      refine keepTake (i := 5) (v := ?_) (a' := ?_) rfl (by kernel_rfl) (by kernel_rfl) (by kernel_rfl) (by kernel_rfl) (by kernel_rfl) (by kernel_rfl) (fun w hSw => ?_) hS ?_ ?_
      rotate_left 2
      · (try dsimp only at hSw); (try (have hSa := hSw.1; have hSb := hSw.2)); (try (have hSc := hSb.1; have hSd := hSb.2)); go_simp; with_reducible rfl
      · go_simp; with_reducible rfl
      refine keepTake (i := 6) (v := ?_) (a' := ?_) rfl (by kernel_rfl) (by kernel_rfl) (by kernel_rfl) (by kernel_rfl) (by kernel_rfl) (by kernel_rfl) (fun w hSw => ?_) hS ?_ ?_
      rotate_left 2
      · (try dsimp only at hSw); (try (have hSa := hSw.1; have hSb := hSw.2)); (try (have hSc := hSb.1; have hSd := hSb.2)); go_simp; with_reducible rfl
      · go_simp; with_reducible rfl
      refine keepTake (i := 7) (v := ?_) (a' := ?_) rfl (by kernel_rfl) (by kernel_rfl) (by kernel_rfl) (by kernel_rfl) (by kernel_rfl) (by kernel_rfl) (fun w hSw => ?_) hS ?_ ?_
      rotate_left 2
      · (try dsimp only at hSw); (try (have hSa := hSw.1; have hSb := hSw.2)); (try (have hSc := hSb.1; have hSd := hSb.2)); go_simp; with_reducible rfl
      · go_simp; with_reducible rfl
      refine keepTake (i := 8) (v := ?_) (a' := ?_) rfl (by kernel_rfl) (by kernel_rfl) (by kernel_rfl) (by kernel_rfl) (by kernel_rfl) (by kernel_rfl) (fun w hSw => ?_) hS ?_ ?_
      rotate_left 2
      · (try dsimp only at hSw); (try (have hSa := hSw.1; have hSb := hSw.2)); (try (have hSc := hSb.1; have hSd := hSb.2)); go_simp; with_reducible rfl
      · go_simp; with_reducible rfl
      refine keepTake (i := 9) (v := ?_) (a' := ?_) rfl (by kernel_rfl) (by kernel_rfl) (by kernel_rfl) (by kernel_rfl) (by kernel_rfl) (by kernel_rfl) (fun w hSw => ?_) hS ?_ ?_
      rotate_left 2
      · (try dsimp only at hSw); (try (have hSa := hSw.1; have hSb := hSw.2)); (try (have hSc := hSb.1; have hSd := hSb.2)); go_simp; with_reducible rfl
      · go_simp; with_reducible rfl
      refine keepTake (i := 10) (v := ?_) (a' := ?_) rfl (by kernel_rfl) (by kernel_rfl) (by kernel_rfl) (by kernel_rfl) (by kernel_rfl) (by kernel_rfl) (fun w hSw => ?_) hS ?_ ?_
      rotate_left 2
      · (try dsimp only at hSw); (try (have hSa := hSw.1; have hSb := hSw.2)); (try (have hSc := hSb.1; have hSd := hSb.2)); go_simp; with_reducible rfl
      · go_simp; with_reducible rfl
      refine keepTake (i := 11) (v := ?_) (a' := ?_) rfl (by kernel_rfl) (by kernel_rfl) (by kernel_rfl) (by kernel_rfl) (by kernel_rfl) (by kernel_rfl) (fun w hSw => ?_) hS ?_ ?_
      rotate_left 2
      · (try dsimp only at hSw); (try (have hSa := hSw.1; have hSb := hSw.2)); (try (have hSc := hSb.1; have hSd := hSb.2)); go_simp; with_reducible rfl
      · go_simp; with_reducible rfl
      refine keepReady (rs := [12]) (by kernel_rfl) (by simp) ?_
      refine AllK.cons rfl (fun K hK => ?_) AllK.nil
      go_simp
      refine (hSe _).mono ?_
      rintro e w3 ⟨rfl, f3⟩
      have f3' : Fr [] wo w3 := (Fr.refl [] wo).drew.trans f3
      have hS : w3.cell? ⟨pl.b, 0, none⟩ = some (Rp L) ∧ w3.cell? ⟨g, n * 2 + 1, none⟩ = some (str y) := ⟨cell_fr f3' c0 (by simp), cell_fr f3' hcb (by simp)⟩
      try dsimp only
      refine hK _ _ (fun _ => hS) ?_
      clear hK K
      try simp only [Act.put, List.setIfInBounds_toArray, List.set_cons_zero, List.set_cons_succ]
      refine keepReady (rs := [13]) (by kernel_rfl) (by simp) ?_
      refine AllK.cons rfl (fun K hK => ?_) AllK.nil
      go_simp
      refine (hw _ (Dr.fr0 f3')).mono ?_
      rintro e w4 ⟨rfl, D4, f4⟩
      have hS : w4.cell? ⟨pl.b, 0, none⟩ = some (Rp L) ∧ w4.cell? ⟨g, n * 2 + 1, none⟩ = some (str y) := ⟨cell_fr f4 hS.1 hpb, cell_fr f4 hS.2 hgL⟩
      try dsimp only
      refine hK _ _ (fun _ => hS) ?_
      clear hK K
      try simp only [Act.put, List.setIfInBounds_toArray, List.set_cons_zero, List.set_cons_succ]
      refine keepReady (rs := [14]) (by kernel_rfl) (by simp) ?_
      refine AllK.cons rfl (fun K hK => ?_) AllK.nil
      go_simp
      try dsimp only
      refine hK _ _ (fun h => absurd rfl h) ?_
      clear hK K
      try simp only [Act.put, List.setIfInBounds_toArray, List.set_cons_zero, List.set_cons_succ]
      refine keepDone (by kernel_rfl) ?_ _
      have F4 : Fr L.all w w4 := (fr.trans f3'.any).trans f4
      by_cases hz : e0 = 0
      · have hz' : (e0 != 0) = false := by simp [hz]
        have HQ : Hid (runAll d (logs t 1 (l.take (n + 1))) = (0, d0)) := by unfold Hid; rw [HW.out, hz]
        clear hz
        go_wp2_with fail
        go_roundg (gk - 1)
        case measure => have := hk.out; omega
        case rel => exact ⟨n + 1, by go_num, by omega, by have := hk.out; unfold Hid; omega, by unfold Hid; rw [HQ.out], by rw [HQ.out]; exact D4, F4⟩
      · have hz' : (e0 != 0) = true := by simpa using hz
        have HQ : Hid (runAll d rs = (e0, d0)) := by
          obtain ⟨tl, htl⟩ := HS.out
          unfold Hid
          rw [htl, runAll_bad (by rw [HW.out]; exact hz), HW.out]
        clear hz
        go_wp2_with fail
        go_ret
        rw [HQ.out]
        exact ⟨rfl, D4, F4⟩
    · obtain rfl : n = l.length := by omega
      have hlt' : decide ((l.length : Int) < (l.length : Int)) = false := by simp
      rw [List.take_length] at HZ Dr
      have hHd := fun (w' : World) (h' : PwAt w' (.slice vp l.length vc) l) => rHead_calls h' hfew hnn
      have hSe := fun w' => rSeal_calls t (record (pgs l)) w'
      have HW : Hid (runAll d (logs t 1 l ++ [.put 0 (sealed t (record (pgs l)))]) = (runAll d (logs t 1 l)).2.write 0 (sealed t (record (pgs l)))) := by
        unfold Hid
        rw [runAll_snoc0 HZ.out, runAll_one]
        rfl
      generalize hs : sealed t (record (pgs l)) = s at hSe hrec HW HRS
      clear hs
      have hw := fun (w' : World) (hD : RDiskAt w' L (runAll d (logs t 1 l)).2) => rdWrite_calls hD 0 s hrec
      generalize hD : (runAll d (logs t 1 l)).2 = dn at Dr hw HW
      clear hD
      generalize hq : dn.write 0 s = q at hw HW
      clear hq
      obtain ⟨e0, d0⟩ := q
      simp only at hw
      generalize record (pgs l) = y at hHd hSe
      clear hrec
      go_wp2_with fail
      refine wp_region_keep (fun w' => w'.cell? ⟨pl.b, 0, none⟩ = some (Rp L)) 9 (by kernel_rfl) ?_
      have hS : wo.drew.cell? ⟨pl.b, 0, none⟩ = some (Rp L) := c0
      refine keepTake (i := 0) (v := ?_) (a' := ?_) rfl (by kernel_rfl) (by kernel_rfl) (by kernel_rfl) (by kernel_rfl) (by kernel_rfl) (by kernel_rfl) (fun w hSw => ?_) hS ?_ ?_
      rotate_left 2
      · (try dsimp only at hSw); (try (have hSa := hSw.1; have hSb := hSw.2)); (try (have hSc := hSb.1; have hSd := hSb.2)); go_simp; with_reducible rfl
      · go_simp; with_reducible rfl
      refine keepTake (i := 1) (v := ?_) (a' := ?_) rfl (by kernel_rfl) (by kernel_rfl) (by kernel_rfl) (by kernel_rfl) (by kernel_rfl) (by kernel_rfl) (fun w hSw => ?_) hS ?_ ?_
      rotate_left 2
      · (try dsimp only at hSw); (try (have hSa := hSw.1; have hSb := hSw.2)); (try (have hSc := hSb.1; have hSd := hSb.2)); go_simp; with_reducible rfl
      · go_simp; with_reducible rfl
      refine keepTake (i := 2) (v := ?_) (a' := ?_) rfl (by kernel_rfl) (by kernel_rfl) (by kernel_rfl) (by kernel_rfl) (by kernel_rfl) (by kernel_rfl) (fun w hSw => ?_) hS ?_ ?_
      rotate_left 2
      · (try dsimp only at hSw); (try (have hSa := hSw.1; have hSb := hSw.2)); (try (have hSc := hSb.1; have hSd := hSb.2)); go_simp; with_reducible rfl
      · go_simp; with_reducible rfl
      refine keepTake (i := 3) (v := ?_) (a' := ?_) rfl (by kernel_rfl) (by kernel_rfl) (by kernel_rfl) (by kernel_rfl) (by kernel_rfl) (by kernel_rfl) (fun w hSw => ?_) hS ?_ ?_
      rotate_left 2
      · (try dsimp only at hSw); (try (have hSa := hSw.1; have hSb := hSw.2)); (try (have hSc := hSb.1; have hSd := hSb.2)); go_simp; with_reducible rfl
      · go_simp; with_reducible rfl
      refine keepTake (i := 4) (v := ?_) (a' := ?_) rfl (by kernel_rfl) (by kernel_rfl) (by kernel_rfl) (by kernel_rfl) (by kernel_rfl) (by kernel_rfl) (fun w hSw => ?_) hS ?_ ?_
      rotate_left 2
      · (try dsimp only at hSw); (try (have hSa := hSw.1; have hSb := hSw.2)); (try (have hSc := hSb.1; have hSd := hSb.2)); go_simp; with_reducible rfl
      · go_simp; with_reducible rfl
      refine keepTake (i := 5) (v := ?_) (a' := ?_) rfl (by kernel_rfl) (by kernel_rfl) (by kernel_rfl) (by kernel_rfl) (by kernel_rfl) (by kernel_rfl) (fun w hSw => ?_) hS ?_ ?_
      rotate_left 2
      · (try dsimp only at hSw); (try (have hSa := hSw.1; have hSb := hSw.2)); (try (have hSc := hSb.1; have hSd := hSb.2)); go_simp; with_reducible rfl
      · go_simp; with_reducible rfl
      refine keepReady (rs := [6]) (by kernel_rfl) (by simp) ?_
      refine AllK.cons rfl (fun K hK => ?_) AllK.nil
      go_simp
      refine (hHd _ (hlr.fr ((Fr.refl [] wo).drew) (by simp))).mono ?_
      rintro e w3 ⟨rfl, f3⟩
      have f3' : Fr [] wo w3 := (Fr.refl [] wo).drew.trans f3
      have hS : w3.cell? ⟨pl.b, 0, none⟩ = some (Rp L) := cell_fr f3' c0 (by simp)
      try dsimp only
      refine hK _ _ (fun _ => hS) ?_
      clear hK K
      try simp only [Act.put, List.setIfInBounds_toArray, List.set_cons_zero, List.set_cons_succ]
      refine keepReady (rs := [7]) (by kernel_rfl) (by simp) ?_
      refine AllK.cons rfl (fun K hK => ?_) AllK.nil
      go_simp
      refine (hSe _).mono ?_
      rintro e w4 ⟨rfl, f4⟩
      have hS : w4.cell? ⟨pl.b, 0, none⟩ = some (Rp L) := cell_fr f4 hS (by simp)
      try dsimp only
      refine hK _ _ (fun _ => hS) ?_
      clear hK K
      try simp only [Act.put, List.setIfInBounds_toArray, List.set_cons_zero, List.set_cons_succ]
      refine keepReady (rs := [8]) (by kernel_rfl) (by simp) ?_
      refine AllK.cons rfl (fun K hK => ?_) AllK.nil
      go_simp
      refine (hw _ ((Dr.fr0 f3').fr0 f4)).mono ?_
      rintro e w5 ⟨rfl, D5, f5⟩
      have hS : w5.cell? ⟨pl.b, 0, none⟩ = some (Rp L) := cell_fr f5 hS hpb
      have c5 := hS
      try dsimp only
      refine hK _ _ (fun _ => hS) ?_
      clear hK K
      try simp only [Act.put, List.setIfInBounds_toArray, List.set_cons_zero, List.set_cons_succ]
      refine keepReady (rs := [9]) (by kernel_rfl) (by simp) ?_
      refine AllK.cons rfl (fun K hK => ?_) AllK.nil
      go_simp
      try dsimp only
      refine hK _ _ (fun h => absurd rfl h) ?_
      clear hK K
      try simp only [Act.put, List.setIfInBounds_toArray, List.set_cons_zero, List.set_cons_succ]
      refine keepDone (by kernel_rfl) ?_ _
      have F5 : Fr L.all w w5 := (fr.trans (f3'.trans f4).any).trans f5
      by_cases hz : e0 = 0
      · have hz' : (e0 != 0) = false := by simp [hz]
        have HQ : Hid (runAll d rs = d0.flush) := by
          unfold Hid
          rw [HRS.out, runAll_snoc0 (by rw [HW.out]; exact hz), HW.out, runAll_one]
          rfl
        clear hz
        go_wp2_with fail
        refine (rdFlush_calls D5).mono ?_
        rintro e w6 ⟨rfl, D6, f6⟩
        go_wp2_with fail
        go_ret
        rw [HQ.out]
        exact ⟨rfl, D6, F5.trans f6⟩
      · have hz' : (e0 != 0) = true := by simpa using hz
        have HQ : Hid (runAll d rs = (e0, d0)) := by
          unfold Hid
          rw [HRS.out, runAll_bad (by rw [HW.out]; exact hz), HW.out]
        clear hz
        go_wp2_with fail
        go_ret
        rw [HQ.out]
        exact ⟨rfl, D5, F5⟩
end
end Go.Proofs.YtpoagpaglocpeaaGreat
/- The specification writes: the log, then its replay. Plain: what the replay does behind the log's flush. -/
namespace Go.Proofs.YtpoagpaglocpeaaGreat
set_option linter.unusedSimpArgs false
set_option linter.unusedVariables false
set_option linter.unnecessarySimpa false
open Go.RowKit M

theorem seen_bare {d : Disk} {im : List Bytes} (h : d.pg = im.map bare1) : d.seen = im := by
  unfold Disk.seen
  apply List.ext_getElem?
  intro i
  rw [h]
  simp only [List.length_map, List.getElem?_map]
  by_cases hi : i < im.length
  · rw [List.getElem?_range hi, List.getElem?_eq_getElem hi]
    simp [Disk.now, h, hi, bare1, Pg.now]
  · rw [List.getElem?_eq_none (by simpa using hi), List.getElem?_eq_none (by simpa using hi)]
    rfl

theorem log_done {d : Disk} {im : List Bytes} {n : Nat} {l : List PW} (hd : d.pg = im.map bare1) (hoff : d.off = false) (hl : 18 ≤ im.length) (hb : Bat im.length l) (h0 : (runAll d (logSteps n l)).1 = 0) :
    (runAll d (logSteps n l)).2.off = false ∧ ∃ R1 : List Bytes, (runAll d (logSteps n l)).2.pg = R1.map bare1 ∧ R1.length = im.length ∧ Full n l R1 := by
  have few := hb.few
  have hP0 : Pend (nwLog n l) im d := by
    refine ⟨by rw [hd, List.map_map]; exact List.map_id'' (fun _ => rfl) _, fun i p b hp hpb => ?_⟩
    rw [hd, List.getElem?_map] at hp
    cases hi : im[i]? with
    | none => rw [hi] at hp; cases hp
    | some s =>
      rw [hi] at hp
      have := Option.some.inj hp
      subst this
      cases hpb
  have hA : ∀ st ∈ logs n 1 l ++ [.put 0 (sealed n (record (pgs l)))], ∃ (i : Nat) (s : Bytes), st = .put i s ∧ i < im.length ∧ nwLog n l i = some s := by
    intro st hst
    rcases List.mem_append.1 hst with hst | hst
    · obtain ⟨j, x, hj, rfl⟩ := mem_logs hst
      have := (List.getElem?_eq_some_iff.1 hj).1
      refine ⟨j + 1, sealed n x.2, by congr 1; omega, by omega, ?_⟩
      simp only [nwLog, hj]
      rfl
    · have : st = .put 0 (sealed n (record (pgs l))) := by simpa using hst
      subst this
      exact ⟨0, _, rfl, by omega, rfl⟩
  obtain ⟨a1, a2⟩ := run_puts _ d hP0 hoff hA
  have hS : logSteps n l = (logs n 1 l ++ [.put 0 (sealed n (record (pgs l)))]) ++ [.flush] := rfl
  rw [hS] at h0 ⊢
  rcases a2 with a2 | ⟨a2, a3, _, a5⟩
  · rw [runAll_bad (by rw [a2]; decide), a2] at h0
    cases h0
  · rw [runAll_snoc0 a2] at h0 ⊢
    generalize (runAll d (logs n 1 l ++ [.put 0 (sealed n (record (pgs l)))])).2 = d1 at a1 a3 a5 h0 ⊢
    rcases flush_cases d1 a3 with hf | ⟨tr, hf⟩
    · have e : runAll d1 [.flush] = (20, { d1 with off := true }) := by simp [runAll, runStep, hf]
      rw [e] at h0
      cases h0
    · have e : runAll d1 [.flush] = (0, { d1 with trip := tr, pg := d1.pg.map Pg.flush }) := by simp [runAll, runStep, hf]
      rw [e]
      obtain ⟨R1, r1, r2, _, r4⟩ := flush_all a1
      refine ⟨a3, R1, r1, r2, ?_, fun j x hj => ?_⟩
      · obtain ⟨p, hp, hn⟩ := a5 0 _ (List.mem_append.2 (.inr (List.mem_singleton.2 rfl)))
        rw [r4 0 p hp hn]
        rfl
      · have hm := logs_mem (t := n) (k := 1) hj
        rw [show (1 : Int) + (j : Int) = ((j + 1 : Nat) : Int) by omega] at hm
        obtain ⟨p, hp, hn⟩ := a5 (j + 1) _ (List.mem_append.2 (.inl hm))
        rw [show 1 + j = j + 1 by omega, r4 _ p hp hn]
        simp only [nwLog, hj]
        rfl

theorem datas_get (t : Int) : ∀ (l : List PW) (j : Nat), (datas t l)[j]? = (l[j]?).map fun x => .put (17 + x.1) (sealed t x.2)
  | [], j => by simp [datas]
  | x :: l, 0 => by simp [datas]
  | x :: l, j + 1 => by simpa [datas] using datas_get t l j
theorem rep_full {n N : Nat} {l : List PW} {R : List Bytes} (h : Full n l R) (hb : Bat N l) (h1 : 1 ≤ n) (h2 : n ≤ 1073741824) (hN : R.length = N) (hN' : N ≤ 4096) : repSteps R = datas n l ++ [.flush] := by
  have hT := h.targets hb h1 h2 hN hN'
  have hpl : (pgsOf l).length = l.length := by simp [pgsOf]
  have hne : pgsOf l ≠ [] := by
    intro e
    rw [e] at hpl
    exact hb.ne (List.eq_nil_of_length_eq_zero hpl.symm)
  unfold repSteps
  rw [hT, if_neg hne, hpl]
  congr 1
  unfold repPuts
  apply List.ext_getElem?
  intro j
  rw [datas_get, List.getElem?_map]
  by_cases hj : j < l.length
  · have hx := List.getElem?_eq_getElem hj
    have hat := hb.at_ l[j] (List.getElem_mem hj)
    rw [List.getElem?_range hj, hx, Option.map_some, Option.map_some, getD_some (h.body j _ hx)]
    congr 2
    have : (pgsOf l).getD j 0 = l[j].1.toNat := by simp [pgsOf, List.getD, hj]
    rw [this]
    omega
  · rw [List.getElem?_eq_none (by simpa using hj), List.getElem?_eq_none (by omega)]
    rfl
theorem steps_log (n : Int) (l : List PW) : steps n l = logSteps n l ++ (datas n l ++ [.flush]) := by
  unfold steps logSteps
  have : (l.map fun x => x.1.toNat) = pgs l := rfl
  rw [this]
  simp

section
variable {w : World} {L : RL} {d : Disk} {pl : PL} {p : M.Pages}

theorem RPagesAt.setClosed (h : RPagesAt w pl L p) (b : Bool) : RPagesAt (w.setCell ⟨pl.b, 3, none⟩ (.bool b)) pl L { p with closed := b } := by
  obtain ⟨bv, h1, h2, h3⟩ := h.at_
  refine ⟨h.low, h.high, ⟨bv, heap_setCell_same' w pl.b 3 _ _ _ h1, ownsRow_fr' h2 ((Fr.refl [pl.b] w).setCell (.inl (by simp)) _) (fun k hk e => h.ne ?_), h3⟩, h.ne⟩
  have : k = pl.b := by simpa using e
  rw [← this, ← h3, hk]
theorem RPagesAt.setNumber (h : RPagesAt w pl L p) (n : Int) (h0 : 0 ≤ n) (hn : n ≤ 1073741824) : RPagesAt (w.setCell ⟨pl.b, 1, none⟩ (.int .i64 n)) pl L { p with number := n } := by
  obtain ⟨bv, h1, h2, h3⟩ := h.at_
  refine ⟨h0, hn, ⟨bv, heap_setCell_same' w pl.b 1 _ _ _ h1, ownsRow_fr' h2 ((Fr.refl [pl.b] w).setCell (.inl (by simp)) _) (fun k hk e => h.ne ?_), h3⟩, h.ne⟩
  have : k = pl.b := by simpa using e
  rw [← this, ← h3, hk]
end
end Go.Proofs.YtpoagpaglocpeaaGreat
