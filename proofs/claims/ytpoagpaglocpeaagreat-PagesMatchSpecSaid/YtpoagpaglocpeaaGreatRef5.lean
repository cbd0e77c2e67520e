/- The specification's disk: its contents; a bit that rots; a new disk. -/
import Derived.Test.YtpoagpaglocpeaaGreatRef4
import Derived.Test.YtpoagpaglocpeaaGreatPages10
namespace Go.Proofs.YtpoagpaglocpeaaGreat
set_option linter.unusedSimpArgs false
set_option linter.unusedVariables false
set_option linter.unnecessarySimpa false
open Go.RowKit M

section
variable {P : Program} {ops : Array Oper} {Q : Exit → Act → World → Prop} {a : Act} {w : World} {rest : List Oper} {o : Oper}
theorem run_text (src dst : TypeId) (x : Operand) (ho : o.op = .convert src dst x) (e : TypeId) (hs : P.underlying src = some (.slice e)) (he : P.underlying e = some (.int .u8)) (hd : P.underlying dst = some .string)
    (g off len cap : Nat) (hx : a.eval x = .slice (some ⟨g, off, none⟩) len cap) (t : TypeId) (cs : Array Value) (fr : Nat × Nat) (s : Bytes) (hg : w.heap[g]? = some (.cells cs t fr)) (hl : s.length = len)
    (hv : ∀ j, j < len → cs[off + j]? = (cellsOf s)[j]?) : (execOp a.eval o).run P w = .ok (.value (str s)) w := by
  have hc := run_convert_bytes_arg (P := P) w src e hs he g off len cap (s.map fun x => (x.toNat : Int)) (by simpa using hl) (fun i hi => by
    rw [cell_of_row w g _ cs t fr hg, hv i hi]
    have hi' : i < s.length := by omega
    simp [cellsOf, List.getD, hi']) dst hd
  unfold execOp
  simp only [ho, hx, Sem.run_bind, hc, Result.andThen_ok, strOf_nums]
  rfl
end

theorem heap_setCell_any (w : World) (g i : Nat) (cs : Array Value) (t : TypeId) (fz : Nat × Nat) (v : Value) (hg : w.heap[g]? = some (.cells cs t fz)) : (w.setCell ⟨g, i, none⟩ v).heap[g]? = some (.cells (cs.setIfInBounds i v) t fz) := by
  simp only [World.setCell, Array.getElem?_modify, if_true, hg]
  rfl

section
variable {w : World} {L : RL} {d : Disk}

set_option maxRecDepth 100000 in
theorem rdImage_calls (h : RDiskAt w L d) : Calls Tryz.prog 59 #[Rp L] w fun e w' => ∃ v, e = .returned v ∧ w'.ownsRow w.heap.size 9 1 v d.pg.length (strs d.image) ∧ Fr [] w w' := by
  have few := h.ok.few
  go_enter Tryz.func59, Tryz.ntmps59
  go_wp2_with fail
  go_loopg [3, 4] d.pg.length (fun kq v i w' => ∃ n : Nat, i = .int .i64 n ∧ n ≤ d.pg.length ∧ Hid (kq + n = d.pg.length) ∧ w'.ownsRow w.heap.size 9 1 v n (strs ((d.pg.take n).map Pg.old)) ∧ Fr [] w w')
  case atStart => exact ⟨0, rfl, by omega, by simp [Hid], World.ownsRow_nil _ _ _ _, Fr.refl _ _⟩
  case round =>
    obtain ⟨n, rfl, hn, hk, R, fr⟩ := hrel
    have Dr := h.fr0 fr
    have c0 := Dr.c0
    by_cases hlt : n < d.pg.length
    · have hlt' : (n : Int) < (d.pg.length : Int) := by omega
      have hg : d.pg[n]? = some d.pg[n] := List.getElem?_eq_getElem hlt
      obtain ⟨p0, p1, p2⟩ := Dr.pc hg
      have HP : Hid (strs ((d.pg.take (n + 1)).map Pg.old) = strs ((d.pg.take n).map Pg.old) ++ [str d.pg[n].old]) := by
        unfold Hid strs
        rw [take_snoc hg]
        simp only [List.map_append, List.map_cons, List.map_nil]
      generalize strs ((d.pg.take n).map Pg.old) = ps at R HP
      generalize d.pg[n] = pg at hg p0 HP
      clear hg p1 p2
      go_wp2_with (first | (with_reducible refine wpL_stop (o := ⟨_, .alloc 177, _, _, _, none⟩) ?_) | (with_reducible refine wpL_stop (o := ⟨_, .load 177 _, _, _, _, none⟩) ?_) | (with_reducible refine wpL_stop (o := ⟨_, .store 177 _ _, _, _, _, none⟩) ?_) | (with_reducible refine wpL_stop (o := ⟨_, .lookup _ _ _ _, _, _, _, none⟩) ?_) | (with_reducible refine wpL_stop (o := ⟨_, .box 177 _, _, _, _, none⟩) ?_) | (with_reducible refine wpL_stop (o := ⟨_, .next _ _, _, _, _, none⟩) ?_) | (with_reducible refine wpL_stop (o := ⟨_, .range _ _, _, _, _, none⟩) ?_) | (with_reducible refine wpL_stop (o := ⟨_, .mapUpdate _ _ _ _, _, _, _, none⟩) ?_) | (with_reducible refine wpL_stop (o := ⟨_, .convert 175 9 _, _, _, _, none⟩) ?_) | (with_reducible refine wpL_stop (o := ⟨_, .convert 9 175 _, _, _, _, none⟩) ?_) | (with_reducible refine wpL_stop (o := ⟨_, .call { callee := .builtin .copy, args := _, argTypes := _ }, _, _, _, none⟩) ?_) | (with_reducible refine wpL_stop (o := ⟨_, .call { callee := .builtin .append, args := _, argTypes := _ }, _, _, _, none⟩) ?_) | (with_reducible refine wpL_stop (o := ⟨_, .call { callee := .builtin .clear, args := _, argTypes := _ }, _, _, _, none⟩) ?_) | (with_reducible refine wpL_stop (o := ⟨_, .makeSlice _ _ _, _, _, _, none⟩) ?_) | (with_reducible refine wpL_stop (o := ⟨_, .makeMap _ _, _, _, _, none⟩) ?_) | (with_reducible refine wpL_stop (o := ⟨_, .entry _, _, _, _, none⟩) ?_) | (with_reducible refine wpL_stop (o := ⟨_, .call { callee := .builtin .max, args := _, argTypes := _ }, _, _, _, none⟩) ?_) | (with_reducible refine wpL_stop (o := ⟨_, .call { callee := .builtin .min, args := _, argTypes := _ }, _, _, _, none⟩) ?_) | (with_reducible refine wpL_stop (o := ⟨_, .slice 177 _ none (some _) none, _, _, _, none⟩) ?_) | (with_reducible refine wpL_stop (o := ⟨_, .binOp .add 9 _ _ _, _, _, _, none⟩) ?_) | (with_reducible refine wpL_stop (o := ⟨_, .slice 9 _ _ _ _, _, _, _, none⟩) ?_))
      have f4 := fr.alloc (.cells #[str pg.old] 9)
      have hg4 := heap_alloc_new wr (.cells #[str pg.old] 9)
      have R4 := ownsRow_fr' R ((Fr.refl [] wr).alloc (.cells #[str pg.old] 9)) (by simp)
      generalize wr.alloc (.cells #[str pg.old] 9) = w4 at f4 hg4 R4 ⊢
      refine unhold (wpL_append_at rfl _ _ 108 rfl w.heap.size 9 _ 16 Tryz.underlying108 strInfo rfl (by decide) u3 n ps rfl R4 wr.heap.size 1 [str pg.old] rfl _ _ _ hg4 (by intro j u hj; simpa using hj) (by simp [Value.oneCell']) (by simp; omega) f4.size ?_)
      intro v5 w5 hown5 hgr5 hat5
      have f5 : Fr [] w w5 := f4.grown hgr5 (fun k hk => .inr (R4.lt k hk).1)
      go_wp2_with (first | (with_reducible refine wpL_stop (o := ⟨_, .alloc 177, _, _, _, none⟩) ?_) | (with_reducible refine wpL_stop (o := ⟨_, .load 177 _, _, _, _, none⟩) ?_) | (with_reducible refine wpL_stop (o := ⟨_, .store 177 _ _, _, _, _, none⟩) ?_) | (with_reducible refine wpL_stop (o := ⟨_, .lookup _ _ _ _, _, _, _, none⟩) ?_) | (with_reducible refine wpL_stop (o := ⟨_, .box 177 _, _, _, _, none⟩) ?_) | (with_reducible refine wpL_stop (o := ⟨_, .next _ _, _, _, _, none⟩) ?_) | (with_reducible refine wpL_stop (o := ⟨_, .range _ _, _, _, _, none⟩) ?_) | (with_reducible refine wpL_stop (o := ⟨_, .mapUpdate _ _ _ _, _, _, _, none⟩) ?_) | (with_reducible refine wpL_stop (o := ⟨_, .convert 175 9 _, _, _, _, none⟩) ?_) | (with_reducible refine wpL_stop (o := ⟨_, .convert 9 175 _, _, _, _, none⟩) ?_) | (with_reducible refine wpL_stop (o := ⟨_, .call { callee := .builtin .copy, args := _, argTypes := _ }, _, _, _, none⟩) ?_) | (with_reducible refine wpL_stop (o := ⟨_, .call { callee := .builtin .append, args := _, argTypes := _ }, _, _, _, none⟩) ?_) | (with_reducible refine wpL_stop (o := ⟨_, .call { callee := .builtin .clear, args := _, argTypes := _ }, _, _, _, none⟩) ?_) | (with_reducible refine wpL_stop (o := ⟨_, .makeSlice _ _ _, _, _, _, none⟩) ?_) | (with_reducible refine wpL_stop (o := ⟨_, .makeMap _ _, _, _, _, none⟩) ?_) | (with_reducible refine wpL_stop (o := ⟨_, .entry _, _, _, _, none⟩) ?_) | (with_reducible refine wpL_stop (o := ⟨_, .call { callee := .builtin .max, args := _, argTypes := _ }, _, _, _, none⟩) ?_) | (with_reducible refine wpL_stop (o := ⟨_, .call { callee := .builtin .min, args := _, argTypes := _ }, _, _, _, none⟩) ?_) | (with_reducible refine wpL_stop (o := ⟨_, .slice 177 _ none (some _) none, _, _, _, none⟩) ?_) | (with_reducible refine wpL_stop (o := ⟨_, .binOp .add 9 _ _ _, _, _, _, none⟩) ?_) | (with_reducible refine wpL_stop (o := ⟨_, .slice 9 _ _ _ _, _, _, _, none⟩) ?_))
      go_roundg (gk - 1)
      case measure => have := hk.out; omega
      case rel =>
        refine ⟨n + 1, by go_num, by omega, by have := hk.out; unfold Hid; omega, ?_, f5⟩
        rw [HP.out]
        exact hown5
    · obtain rfl : n = d.pg.length := by omega
      have hlt' : decide ((d.pg.length : Int) < (d.pg.length : Int)) = false := by simp
      rw [List.take_length] at R
      go_wp2
      go_ret
      exact ⟨_, rfl, R, fr⟩

set_option maxRecDepth 100000 in
theorem rdRot_calls (h : RDiskAt w L d) (i bit : Int) : Calls Tryz.prog 56 #[Rp L, .int .i64 i, .int .i64 bit] w fun e w' =>
    e = .returned (.int .i64 (d.rot i bit).1) ∧ RDiskAt w' L (d.rot i bit).2 ∧ Fr L.all w w' := by
  cases his : d.is i with
  | false =>
    have R : d.rot i bit = (1, d) := by simp [Disk.rot, his]
    rw [R]
    clear R
    go_enter Tryz.func56, Tryz.ntmps56
    go_wp2_with (go_at_call 118; refine (rdIs_calls h i).mono ?_; rintro e w' ⟨rfl, rfl⟩)
    go_ret
    exact ⟨rfl, h, Fr.refl _ _⟩
  | true =>
    have hi := is_iff.1 his
    by_cases hb : 0 ≤ bit ∧ bit < 1024
    · obtain ⟨n, rfl⟩ := Int.eq_ofNat_of_zero_le hb.1
      obtain ⟨m, rfl⟩ := Int.eq_ofNat_of_zero_le hi.1
      have hb1 : (n : Int) < 1024 := hb.2
      have hm : m < d.pg.length := by omega
      have hm' : (m : Int) < (d.pg.length : Int) := hi.2
      have hg : d.pg[m]? = some d.pg[m] := List.getElem?_eq_getElem hm
      have hol := h.ok.olds d.pg[m] (List.getElem_mem hm)
      have hnw := h.ok.news d.pg[m] (List.getElem_mem hm)
      have R : d.rot m n = (0, { d with pg := d.pg.modify m fun p => { p with old := flipBit p.old n } }) := by
        have e1 : ¬ ((n : Int) < 0) := by omega
        have e2 : ¬ (1024 ≤ (n : Int)) := by omega
        simp [Disk.rot, his, e1, e2]
      have hmod : (d.pg.modify m fun p => { p with old := flipBit p.old n }) = d.pg.set m { d.pg[m] with old := flipBit d.pg[m].old n } := by
        apply List.ext_getElem?
        intro k
        rw [List.getElem?_modify, List.getElem?_set]
        by_cases e : m = k
        · subst e; simp [hm]
        · simp [e]
      rw [R, hmod]
      clear R hmod hb
      obtain ⟨p0, p1, p2⟩ := h.pc hg
      generalize d.pg[m] = pg at hg hol hnw p0 p1 p2 ⊢
      obtain ⟨old, new⟩ := pg
      simp only at hol hnw p0 p1 p2 ⊢
      have c0 := h.c0
      have HNW := Lib.hid hnw
      obtain ⟨q, hq⟩ : ∃ q : Nat, q = n / 8 := ⟨_, rfl⟩
      obtain ⟨r, hr⟩ : ∃ r : Nat, r = n % 8 := ⟨_, rfl⟩
      have hqi : (n : Int) / 8 = (q : Int) := by omega
      have hri : (n : Int).tmod 8 = (r : Int) := by rw [Int.tmod_eq_emod_of_nonneg (by omega)]; omega
      have hq1 : (q : Int) < 128 := by omega
      have hr1 : (r : Int) < 8 := by omega
      have hw1 : IntKind.i64.wrap (q : Int) = q := IntWalk.i64_in _ (by omega)
      have hxq : old[q]? = some (old[q]'(by omega)) := List.getElem?_eq_getElem _
      generalize old[q]'(by omega) = x at hxq
      have hval := flip_val x r (by omega)
      have hfl : flipBit old n = old.set q (x ^^^ UInt8.ofNat (2 ^ r)) := by
        unfold flipBit
        rw [← hq, ← hr]
        apply List.ext_getElem?
        intro k
        rw [List.getElem?_modify, List.getElem?_set]
        by_cases e : q = k
        · subst e
          simp only [if_true, hxq, show q < old.length by omega]
          rfl
        · simp [e]
      rw [hfl]
      generalize x ^^^ UInt8.ofNat (2 ^ r) = y at hval ⊢
      have hval2 : bits .xor .u8 (x.toNat : Int) (2 ^ r % 256) = (y.toNat : Int) := by
        rwa [IntKind.wrap_u8] at hval
      have HQ := Lib.hid hq
      have HRR := Lib.hid hr
      have HV := Lib.hid hval2
      have HX := Lib.hid hxq
      have HG := Lib.hid hg
      clear hq hr hval hval2 hfl hxq hnw hg
      have hol' := Lib.hid hol
      go_enter Tryz.func56, Tryz.ntmps56
      go_wp2_with (first | (go_at_call 118; refine (rdIs_calls h m).mono ?_; rintro e w' ⟨rfl, rfl⟩) | first | (with_reducible refine wpL_stop (o := ⟨_, .alloc 177, _, _, _, none⟩) ?_) | (with_reducible refine wpL_stop (o := ⟨_, .load 177 _, _, _, _, none⟩) ?_) | (with_reducible refine wpL_stop (o := ⟨_, .store 177 _ _, _, _, _, none⟩) ?_) | (with_reducible refine wpL_stop (o := ⟨_, .lookup _ _ _ _, _, _, _, none⟩) ?_) | (with_reducible refine wpL_stop (o := ⟨_, .box 177 _, _, _, _, none⟩) ?_) | (with_reducible refine wpL_stop (o := ⟨_, .next _ _, _, _, _, none⟩) ?_) | (with_reducible refine wpL_stop (o := ⟨_, .range _ _, _, _, _, none⟩) ?_) | (with_reducible refine wpL_stop (o := ⟨_, .mapUpdate _ _ _ _, _, _, _, none⟩) ?_) | (with_reducible refine wpL_stop (o := ⟨_, .convert 175 9 _, _, _, _, none⟩) ?_) | (with_reducible refine wpL_stop (o := ⟨_, .convert 9 175 _, _, _, _, none⟩) ?_) | (with_reducible refine wpL_stop (o := ⟨_, .call { callee := .builtin .copy, args := _, argTypes := _ }, _, _, _, none⟩) ?_) | (with_reducible refine wpL_stop (o := ⟨_, .call { callee := .builtin .append, args := _, argTypes := _ }, _, _, _, none⟩) ?_) | (with_reducible refine wpL_stop (o := ⟨_, .call { callee := .builtin .clear, args := _, argTypes := _ }, _, _, _, none⟩) ?_) | (with_reducible refine wpL_stop (o := ⟨_, .makeSlice _ _ _, _, _, _, none⟩) ?_) | (with_reducible refine wpL_stop (o := ⟨_, .makeMap _ _, _, _, _, none⟩) ?_) | (with_reducible refine wpL_stop (o := ⟨_, .entry _, _, _, _, none⟩) ?_) | (with_reducible refine wpL_stop (o := ⟨_, .call { callee := .builtin .max, args := _, argTypes := _ }, _, _, _, none⟩) ?_) | (with_reducible refine wpL_stop (o := ⟨_, .call { callee := .builtin .min, args := _, argTypes := _ }, _, _, _, none⟩) ?_) | (with_reducible refine wpL_stop (o := ⟨_, .slice 177 _ none (some _) none, _, _, _, none⟩) ?_) | (with_reducible refine wpL_stop (o := ⟨_, .binOp .add 9 _ _ _, _, _, _, none⟩) ?_) | (with_reducible refine wpL_stop (o := ⟨_, .slice 9 _ _ _ _, _, _, _, none⟩) ?_))
      refine unhold (wpL_toBytes rfl _ _ 5 _ rfl Tryz.underlying9 Tryz.underlying175 Tryz.underlying5 old rfl ?_)
      intro w2 cap cs fz g2 hcs hfz hcap f2 s2
      have hcq : w2.cell? ⟨w.heap.size, q, none⟩ = some (.int .u8 x.toNat) := by
        rw [cell_of_row w2 _ _ _ _ _ g2, hcs q (by omega)]
        have := HX.out
        simp [cellsOf, this]
      have hfq := hfz q (by omega)
      have HCS := Lib.hid hcs
      clear hcs hfz
      rw [hol'.out]
      go_wp2_with (first | (with_reducible refine wpL_stop (o := ⟨_, .alloc 177, _, _, _, none⟩) ?_) | (with_reducible refine wpL_stop (o := ⟨_, .load 177 _, _, _, _, none⟩) ?_) | (with_reducible refine wpL_stop (o := ⟨_, .store 177 _ _, _, _, _, none⟩) ?_) | (with_reducible refine wpL_stop (o := ⟨_, .lookup _ _ _ _, _, _, _, none⟩) ?_) | (with_reducible refine wpL_stop (o := ⟨_, .box 177 _, _, _, _, none⟩) ?_) | (with_reducible refine wpL_stop (o := ⟨_, .next _ _, _, _, _, none⟩) ?_) | (with_reducible refine wpL_stop (o := ⟨_, .range _ _, _, _, _, none⟩) ?_) | (with_reducible refine wpL_stop (o := ⟨_, .mapUpdate _ _ _ _, _, _, _, none⟩) ?_) | (with_reducible refine wpL_stop (o := ⟨_, .convert 175 9 _, _, _, _, none⟩) ?_) | (with_reducible refine wpL_stop (o := ⟨_, .convert 9 175 _, _, _, _, none⟩) ?_) | (with_reducible refine wpL_stop (o := ⟨_, .call { callee := .builtin .copy, args := _, argTypes := _ }, _, _, _, none⟩) ?_) | (with_reducible refine wpL_stop (o := ⟨_, .call { callee := .builtin .append, args := _, argTypes := _ }, _, _, _, none⟩) ?_) | (with_reducible refine wpL_stop (o := ⟨_, .call { callee := .builtin .clear, args := _, argTypes := _ }, _, _, _, none⟩) ?_) | (with_reducible refine wpL_stop (o := ⟨_, .makeSlice _ _ _, _, _, _, none⟩) ?_) | (with_reducible refine wpL_stop (o := ⟨_, .makeMap _ _, _, _, _, none⟩) ?_) | (with_reducible refine wpL_stop (o := ⟨_, .entry _, _, _, _, none⟩) ?_) | (with_reducible refine wpL_stop (o := ⟨_, .call { callee := .builtin .max, args := _, argTypes := _ }, _, _, _, none⟩) ?_) | (with_reducible refine wpL_stop (o := ⟨_, .call { callee := .builtin .min, args := _, argTypes := _ }, _, _, _, none⟩) ?_) | (with_reducible refine wpL_stop (o := ⟨_, .slice 177 _ none (some _) none, _, _, _, none⟩) ?_) | (with_reducible refine wpL_stop (o := ⟨_, .binOp .add 9 _ _ _, _, _, _, none⟩) ?_) | (with_reducible refine wpL_stop (o := ⟨_, .slice 9 _ _ _ _, _, _, _, none⟩) ?_))
      refine wp_region_still_tail 13 (by kernel_rfl) (by kernel_rfl) ?_
      simp only [List.take_succ_cons, List.take_zero, List.drop_succ_cons, List.drop_zero]
      iterate 13 still_step
      refine wpStill_nil ?_
      go_wp2_with (first | (with_reducible refine wpL_stop (o := ⟨_, .alloc 177, _, _, _, none⟩) ?_) | (with_reducible refine wpL_stop (o := ⟨_, .load 177 _, _, _, _, none⟩) ?_) | (with_reducible refine wpL_stop (o := ⟨_, .store 177 _ _, _, _, _, none⟩) ?_) | (with_reducible refine wpL_stop (o := ⟨_, .lookup _ _ _ _, _, _, _, none⟩) ?_) | (with_reducible refine wpL_stop (o := ⟨_, .box 177 _, _, _, _, none⟩) ?_) | (with_reducible refine wpL_stop (o := ⟨_, .next _ _, _, _, _, none⟩) ?_) | (with_reducible refine wpL_stop (o := ⟨_, .range _ _, _, _, _, none⟩) ?_) | (with_reducible refine wpL_stop (o := ⟨_, .mapUpdate _ _ _ _, _, _, _, none⟩) ?_) | (with_reducible refine wpL_stop (o := ⟨_, .convert 175 9 _, _, _, _, none⟩) ?_) | (with_reducible refine wpL_stop (o := ⟨_, .convert 9 175 _, _, _, _, none⟩) ?_) | (with_reducible refine wpL_stop (o := ⟨_, .call { callee := .builtin .copy, args := _, argTypes := _ }, _, _, _, none⟩) ?_) | (with_reducible refine wpL_stop (o := ⟨_, .call { callee := .builtin .append, args := _, argTypes := _ }, _, _, _, none⟩) ?_) | (with_reducible refine wpL_stop (o := ⟨_, .call { callee := .builtin .clear, args := _, argTypes := _ }, _, _, _, none⟩) ?_) | (with_reducible refine wpL_stop (o := ⟨_, .makeSlice _ _ _, _, _, _, none⟩) ?_) | (with_reducible refine wpL_stop (o := ⟨_, .makeMap _ _, _, _, _, none⟩) ?_) | (with_reducible refine wpL_stop (o := ⟨_, .entry _, _, _, _, none⟩) ?_) | (with_reducible refine wpL_stop (o := ⟨_, .call { callee := .builtin .max, args := _, argTypes := _ }, _, _, _, none⟩) ?_) | (with_reducible refine wpL_stop (o := ⟨_, .call { callee := .builtin .min, args := _, argTypes := _ }, _, _, _, none⟩) ?_) | (with_reducible refine wpL_stop (o := ⟨_, .slice 177 _ none (some _) none, _, _, _, none⟩) ?_) | (with_reducible refine wpL_stop (o := ⟨_, .binOp .add 9 _ _ _, _, _, _, none⟩) ?_) | (with_reducible refine wpL_stop (o := ⟨_, .slice 9 _ _ _ _, _, _, _, none⟩) ?_))
      rw [HV.out]
      have D3 := (h.fr0 f2).fr ((Fr.refl [w.heap.size] w2).setCell (p := ⟨w.heap.size, q, none⟩) (.inl (by simp)) (.int .u8 y.toNat)).drew (fun k hk => by have := h.lt k hk; simp; omega)
      have F3 : Fr [] w (w2.setCell ⟨w.heap.size, q, none⟩ (.int .u8 y.toNat)).drew := f2.then ((Fr.refl [w.heap.size] w2).setCell (.inl (by simp)) _).drew (by simp)
      have g3 : ∃ cs', (w2.setCell ⟨w.heap.size, q, none⟩ (.int .u8 y.toNat)).drew.heap[w.heap.size]? = some (.cells cs' 5 fz) ∧ ∀ j, j < 128 → cs'[j]? = (cellsOf (old.set q y))[j]? := by
        refine ⟨_, heap_setCell_any w2 w.heap.size q cs _ _ _ g2, fun j hj => ?_⟩
        rw [cellsOf_set, List.getElem?_set]
        by_cases e : q = j
        · subst e
          have hqs : q < cs.size := by
            have := HCS.out q (by have := hol'.out; omega)
            rcases Nat.lt_or_ge q cs.size with hh | hh
            · exact hh
            · rw [Array.getElem?_eq_none hh, List.getElem?_eq_getElem (by rw [cellsOf_length, hol'.out]; exact hj)] at this
              cases this
          rw [set_same' _ _ _ hqs, if_pos rfl, if_pos (by rw [cellsOf_length, hol'.out]; exact hj)]
        · rw [set_other _ _ _ _ (Ne.symm e), if_neg e]
          exact HCS.out j (by have := hol'.out; omega)
      generalize (w2.setCell ⟨w.heap.size, q, none⟩ (.int .u8 y.toNat)).drew = w3 at D3 F3 g3 ⊢
      obtain ⟨cs', g3, hc3⟩ := g3
      obtain ⟨q0, q1, q2⟩ := D3.pc HG.out
      have c03 := D3.c0
      have fz3 := D3.fp (m * 3)
      have hol3 := hol'.out
      refine wp_region_still_tail 9 (by kernel_rfl) (by kernel_rfl) ?_
      simp only [List.take_succ_cons, List.take_zero, List.drop_succ_cons, List.drop_zero]
      iterate 6 still_step
      refine wpStill_val rfl (run_text _ _ _ rfl 5 Tryz.underlying175 Tryz.underlying5 Tryz.underlying9 w.heap.size 0 128 cap rfl _ _ _ (old.set q y) g3 (by simp [hol3]) (by intro j hj; rw [Nat.zero_add]; exact hc3 j hj)) ?_
      iterate 2 still_step
      refine wpStill_nil ?_
      go_wp2_with fail
      go_ret
      have hW : RDiskAt (w3.setCell ⟨L.pb, m * 3, none⟩ (str (old.set q y))).drew L { d with pg := d.pg.set m ⟨old.set q y, new⟩ } := by
        refine D3.put hm _ (by simp [hol3]) (fun b hb => HNW.out b hb) ((Fr.refl _ _).setCell (.inl (by simp)) _).drew ?_
        intro cur hmm hsz
        have e1 := heap_setCell_same' w3 L.pb (m * 3) cur _ (str (old.set q y)) hmm
        refine ⟨_, e1, fun j hj => set_other _ _ _ _ (by omega), ?_⟩
        intro j v hj hv
        match j, hj with
        | 0, _ =>
          rw [Nat.add_zero, set_same' _ _ _ (by omega)]
          exact hv
        | 1, _ =>
          rw [set_other _ _ _ _ (by omega)]
          have := q1
          rw [cell_of_row w3 L.pb _ cur _ _ hmm] at this
          rw [this]; exact hv
        | 2, _ =>
          rw [set_other _ _ _ _ (by omega)]
          have := q2
          rw [cell_of_row w3 L.pb _ cur _ _ hmm] at this
          rw [this]; exact hv
      exact ⟨rfl, hW, F3.any.trans (((Fr.refl _ _).setCell (.inl (by simp [RL.all])) _).drew)⟩
    · have hb' : bit < 0 ∨ 1024 ≤ bit := by omega
      have R : d.rot i bit = (1, d) := by rcases hb' with x | x <;> simp [Disk.rot, x]
      rw [R]
      clear R hb
      rcases hb' with x | x
      · go_enter Tryz.func56, Tryz.ntmps56
        go_wp2_with (go_at_call 118; refine (rdIs_calls h i).mono ?_; rintro e w' ⟨rfl, rfl⟩)
        go_ret
        exact ⟨rfl, h, Fr.refl _ _⟩
      · have y : 0 ≤ bit := by omega
        go_enter Tryz.func56, Tryz.ntmps56
        go_wp2_with (go_at_call 118; refine (rdIs_calls h i).mono ?_; rintro e w' ⟨rfl, rfl⟩)
        go_ret
        exact ⟨rfl, h, Fr.refl _ _⟩
end
end Go.Proofs.YtpoagpaglocpeaaGreat
