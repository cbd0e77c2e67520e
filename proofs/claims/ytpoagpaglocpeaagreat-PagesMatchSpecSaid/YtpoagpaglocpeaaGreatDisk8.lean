/- The disk: a bit that rots. -/
import Derived.Test.YtpoagpaglocpeaaGreatDisk7
namespace Go.Proofs.YtpoagpaglocpeaaGreat
set_option linter.unusedSimpArgs false
set_option linter.unusedVariables false
set_option linter.unnecessarySimpa false
open Go.RowKit M

theorem flip_val (x : UInt8) (r : Nat) (hr : r < 8) : bits .xor .u8 (x.toNat : Int) (IntKind.u8.wrap (2 ^ r)) = ((x ^^^ UInt8.ofNat (2 ^ r)).toNat : Int) := by
  have hp : (2 : Int) ^ r < 256 ∧ 0 ≤ (2 : Int) ^ r := by
    have : r = 0 ∨ r = 1 ∨ r = 2 ∨ r = 3 ∨ r = 4 ∨ r = 5 ∨ r = 6 ∨ r = 7 := by omega
    rcases this with rfl | rfl | rfl | rfl | rfl | rfl | rfl | rfl <;> decide
  have hn : (2 : Nat) ^ r < 256 := by
    have : ((2 ^ r : Nat) : Int) < 256 := by push_cast; exact hp.1
    omega
  have hx : x.toNat < 256 := x.toNat_lt
  rw [IntWalk.u8_in _ (by omega), u8_xor _ _ (by omega) (by omega) hp.2 hp.1, UInt8.toNat_xor, UInt8.toNat_ofNat']
  have e : ((2 : Int) ^ r).toNat = 2 ^ r := by
    have : ((2 ^ r : Nat) : Int) = (2 : Int) ^ r := by push_cast; rfl
    omega
  rw [e, Int.toNat_natCast, Nat.mod_eq_of_lt (by simpa using hn)]

theorem cellsOf_set (s : Bytes) (q : Nat) (y : UInt8) : cellsOf (s.set q y) = (cellsOf s).set q (.int .u8 y.toNat) := by simp [cellsOf, List.map_set]

theorem rows_flip (pg : List Pg) (m q : Nat) (p : Pg) (y : UInt8) (ho : ∀ x ∈ pg, x.old.length = 128) (hp : pg[m]? = some p) (hq : q < 128) :
    rows (pg.set m { p with old := p.old.set q y }) = (rows pg).set (m * 128 + q) (.int .u8 y.toNat) := by
  obtain ⟨hm, hpm⟩ := List.getElem?_eq_some_iff.1 hp
  have hol := ho p (List.mem_of_getElem? hp)
  obtain ⟨X, Z, hR, hX⟩ := rows_split pg m p ho hp
  have hc : (cellsOf p.old).length = 128 := by rw [cellsOf_length, hol]
  rw [rows_set pg m _ ho (by simpa using hol) hm, hR, ← hX]
  have e1 : (X ++ cellsOf p.old ++ Z).take X.length = X := by rw [List.append_assoc, List.take_left']; rfl
  have e2 : (X ++ cellsOf p.old ++ Z).drop (X.length + 128) = Z := by
    rw [show X.length + 128 = (X ++ cellsOf p.old).length from by simp [hc], List.drop_left']; rfl
  rw [e1, e2, cellsOf_set, List.set_append_left _ _ (by simp [hc]; omega), List.set_append_right _ _ (by omega), Nat.add_sub_cancel_left]

section
variable {w : World} {L : DL} {d : Disk}

set_option maxRecDepth 100000 in
theorem dRot_calls (h : DiskAt w L d) (i bit : Int) : Calls Tryz.prog 47 #[Dp L, .int .i64 i, .int .i64 bit] w fun e w' =>
    e = .returned (.int .i64 (d.rot i bit).1) ∧ DiskAt w' L (d.rot i bit).2 ∧ Fr L.all w w' := by
  cases his : d.is i with
  | false =>
    have R : d.rot i bit = (1, d) := by simp [Disk.rot, his]
    rw [R]
    clear R
    go_enter Tryz.func47, Tryz.ntmps47
    go_wp2_with (go_at_call 112; refine (dIs_calls h i).mono ?_; rintro e w' ⟨rfl, rfl⟩)
    go_ret
    exact ⟨rfl, h, Fr.refl _ _⟩
  | true =>
    have hi := is_iff.1 his
    by_cases hb : 0 ≤ bit ∧ bit < 1024
    · obtain ⟨n, rfl⟩ := Int.eq_ofNat_of_zero_le hb.1
      obtain ⟨m, rfl⟩ := Int.eq_ofNat_of_zero_le hi.1
      have hb1 : (n : Int) < 1024 := hb.2
      have hm : m < d.pg.length := by omega
      have hm' : (m : Int) < (d.pg.length : Int) := hi.2
      have hol := h.ok.olds d.pg[m] (List.getElem_mem hm)
      have c0 := h.c0
      have hrow : ∀ j, j < 128 → w.cell? ⟨L.pb, m * 128 + j, none⟩ = (cellsOf d.pg[m].old)[j]? := by
        intro j hj
        rw [cell_of_row w L.pb _ _ _ _ h.hp]
        exact rows_at h hm j hj
      have hj : n / 8 < 128 := by omega
      have hcell := hrow (n / 8) hj
      have hx : (cellsOf d.pg[m].old)[n / 8]? = some (.int .u8 (d.pg[m].old[n / 8]'(by omega)).toNat) := by
        have hl : n / 8 < (d.pg[m].old).length := by omega
        simp [cellsOf, List.getElem?_eq_getElem hl]
      rw [hx] at hcell
      have hfr := blk_free h.hp (m * 128 + n / 8)
      obtain ⟨x, hxe⟩ : ∃ x, x = d.pg[m].old[n / 8]'(by omega) := ⟨_, rfl⟩
      rw [← hxe] at hcell
      have R : d.rot m n = (0, { d with pg := d.pg.modify m fun p => { p with old := flipBit p.old n } }) := by
        have e1 : ¬ ((n : Int) < 0) := by omega
        have e2 : ¬ (1024 ≤ (n : Int)) := by omega
        simp [Disk.rot, his, e1, e2]
      rw [R]
      have HR := Lib.hid hxe
      obtain ⟨q, hq⟩ : ∃ q : Nat, q = n / 8 := ⟨_, rfl⟩
      obtain ⟨r, hr⟩ : ∃ r : Nat, r = n % 8 := ⟨_, rfl⟩
      have hqi : (n : Int) / 8 = (q : Int) := by omega
      have hri : (n : Int).tmod 8 = (r : Int) := by rw [Int.tmod_eq_emod_of_nonneg (by omega)]; omega
      have hq1 : (q : Int) < 128 := by omega
      have hr1 : (r : Int) < 8 := by omega
      have hw1 : IntKind.i64.wrap (q : Int) = q := IntWalk.i64_in _ (by omega)
      rw [← hq] at hcell hfr hj
      have HQ := Lib.hid hq
      have HRR := Lib.hid hr
      clear hq hr
      clear R hrow hx hb hxe
      go_enter Tryz.func47, Tryz.ntmps47
      go_wp2_with (first | (go_at_call 112; refine (dIs_calls h m).mono ?_; rintro e w' ⟨rfl, rfl⟩))
      refine wp_region_still_tail 16 (by kernel_rfl) (by kernel_rfl) ?_
      simp only [List.take_succ_cons, List.take_zero, List.drop_succ_cons, List.drop_zero]
      repeat still_step
      refine wpStill_nil ?_
      have hg : d.pg[m]? = some d.pg[m] := List.getElem?_eq_getElem hm
      have hval := flip_val x r (by omega)
      have hrows : rows (d.pg.modify m fun p => { p with old := flipBit p.old n }) = (rows d.pg).set (m * 128 + q) (.int .u8 (x ^^^ UInt8.ofNat (2 ^ r)).toNat) := by
        have e1 : d.pg.modify m (fun p => { p with old := flipBit p.old n }) = d.pg.set m { d.pg[m] with old := (d.pg[m].old).set q (x ^^^ UInt8.ofNat (2 ^ r)) } := by
          apply List.ext_getElem?
          intro k
          rw [List.getElem?_modify, List.getElem?_set]
          by_cases e : m = k
          · subst e
            have hfl : flipBit d.pg[m].old n = (d.pg[m].old).set q (x ^^^ UInt8.ofNat (2 ^ r)) := by
              unfold flipBit
              rw [← HQ.out, ← HRR.out, HR.out]
              apply List.ext_getElem?
              intro k
              rw [List.getElem?_modify, List.getElem?_set]
              have hql : n / 8 < d.pg[m].old.length := by omega
              by_cases e : q = k
              · subst e
                simp [HQ.out, hql]
              · simp [e]
            simp [hm, hfl]
          · rw [if_neg e]
            cases d.pg[k]? <;> simp [e]
        rw [e1, rows_flip d.pg m q d.pg[m] _ h.ok.olds hg (by omega)]
      have hold : ∀ p ∈ d.pg.modify m (fun p => { p with old := flipBit p.old n }), p.old.length = 128 ∧ ∀ b, p.new = some b → b.length = 128 := by
        intro p hp
        obtain ⟨k, hk, hke⟩ := List.mem_iff_getElem.1 hp
        rw [List.getElem_modify] at hke
        have hkl : k < d.pg.length := by simpa using hk
        have hmem := List.getElem_mem hkl
        split at hke
        · subst hke
          exact ⟨by simpa [flipBit] using h.ok.olds d.pg[k] hmem, fun b hb => h.ok.news d.pg[k] hmem b hb⟩
        · subst hke
          exact ⟨h.ok.olds _ hmem, h.ok.news _ hmem⟩
      obtain ⟨y, hy⟩ : ∃ y, y = x ^^^ UInt8.ofNat (2 ^ r) := ⟨_, rfl⟩
      rw [← hy] at hval hrows
      clear hy
      have HV := Lib.hid hval
      have HH := Lib.hid hrows
      have HO := Lib.hid hold
      have HG := Lib.hid hg
      clear hrows hold hg hval
      go_wp2
      go_ret
      have HV2 : bits .xor .u8 (x.toNat : Int) (2 ^ r % 256) = (y.toNat : Int) := by
        have := HV.out
        rwa [IntKind.wrap_u8] at this
      rw [HV2]
      obtain ⟨l, c, hml, hP⟩ := h.hm
      have F : Fr L.all w (w.drew.setCell ⟨L.pb, m * 128 + q, none⟩ (.int .u8 y.toNat)) := (Fr.refl _ _).drew.setCell (.inl (by simp [DL.all])) _
      refine ⟨rfl, ?_, F⟩
      have hsame : ∀ k : Nat, (((d.pg.modify m fun p => { p with old := flipBit p.old n })[k]?).bind Pg.new) = (d.pg[k]?).bind Pg.new := by
        intro k
        rw [List.getElem?_modify]
        by_cases e : m = k
        · simp only [e, if_true]
          cases d.pg[k]? <;> rfl
        · simp [e]
      have e0 : (w.setCell ⟨L.pb, m * 128 + q, none⟩ (.int .u8 y.toNat)).drew = w.drew.setCell ⟨L.pb, m * 128 + q, none⟩ (.int .u8 y.toNat) := rfl
      rw [e0]
      refine h.withPg (by simp) (fun p hp => (HO.out p hp).1) (fun p hp => (HO.out p hp).2) ?_ ?_ ⟨l, c, ?_, ⟨hP.keys, hP.borns, hP.young, fun k b => ?_⟩⟩
      · rw [heap_setCell_other _ _ _ _ h.ne1]; rfl
      · have := heap_setCell_same' w.drew L.pb (m * 128 + q) _ _ (.int .u8 y.toNat) h.hp
        rw [this, HH.out]
        simp
      · rw [heap_setCell_other _ _ _ _ (Ne.symm h.ne3)]; exact hml
      · rw [hsame]; exact hP.fits k b
    · have hb' : bit < 0 ∨ 1024 ≤ bit := by omega
      have R : d.rot i bit = (1, d) := by rcases hb' with x | x <;> simp [Disk.rot, x]
      rw [R]
      clear R hb
      rcases hb' with x | x
      · go_enter Tryz.func47, Tryz.ntmps47
        go_wp2_with (go_at_call 112; refine (dIs_calls h i).mono ?_; rintro e w' ⟨rfl, rfl⟩)
        go_ret
        exact ⟨rfl, h, Fr.refl _ _⟩
      · have y : 0 ≤ bit := by omega
        go_enter Tryz.func47, Tryz.ntmps47
        go_wp2_with (go_at_call 112; refine (dIs_calls h i).mono ?_; rintro e w' ⟨rfl, rfl⟩)
        go_ret
        exact ⟨rfl, h, Fr.refl _ _⟩
end
end Go.Proofs.YtpoagpaglocpeaaGreat
