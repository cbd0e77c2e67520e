/- The disk: what is pending made the content. -/
import Derived.Test.YtcnhlemenpgkbaaGreatDoorLaws
import Derived.Test.YtcnhlemenpgkbaaGreatDoorDisk2
import Derived.Deep.LoopGhost
import Derived.Maps.RangeWalk
namespace Go.Proofs.YtcnhlemenpgkbaaGreatDoor
set_option linter.unusedSimpArgs false
set_option linter.unusedVariables false
set_option linter.unnecessarySimpa false
open Go.RowKit M

theorem rows_set : ∀ (pg : List Pg) (n : Nat) (q : Pg), (∀ p ∈ pg, p.old.length = 128) → q.old.length = 128 → n < pg.length →
    rows (pg.set n q) = (rows pg).take (n * 128) ++ cellsOf q.old ++ (rows pg).drop (n * 128 + 128)
  | [], _, _, _, _, h => by simp at h
  | p :: r, 0, q, ho, hq, _ => by
    have hp : (cellsOf p.old).length = 128 := by rw [cellsOf_length]; exact ho p (by simp)
    simp only [rows, List.set_cons_zero, List.flatMap_cons, Nat.zero_mul, List.take_zero, List.nil_append, Nat.zero_add]
    rw [List.drop_append_of_le_length (by omega), List.drop_of_length_le (by omega), List.nil_append]
  | p :: r, n + 1, q, ho, hq, h => by
    have hp : (cellsOf p.old).length = 128 := by rw [cellsOf_length]; exact ho p (by simp)
    have ih := rows_set r n q (fun x hx => ho x (by simp [hx])) hq (by simpa using h)
    simp only [rows, List.set_cons_succ, List.flatMap_cons] at ih ⊢
    have e1 : (cellsOf p.old).take ((n + 1) * 128) = cellsOf p.old := List.take_of_length_le (by omega)
    have e2 : (cellsOf p.old).drop ((n + 1) * 128 + 128) = [] := List.drop_of_length_le (by omega)
    rw [ih, List.take_append, List.drop_append, hp, e1, e2]
    rw [show (n + 1) * 128 - 128 = n * 128 from by omega, show (n + 1) * 128 + 128 - 128 = n * 128 + 128 from by omega]
    simp only [List.nil_append, List.append_assoc]

/-- The pages while what is pending is written: those of 'done' are. -/
structure Half (pg pgs : List Pg) (done : List Ent) : Prop where
  len : pgs.length = pg.length
  at_ : ∀ i p, pg[i]? = some p → ∃ q, pgs[i]? = some q ∧ q.new = p.new ∧ ((∃ x ∈ done, x.i = i) → q.old = p.now) ∧ ((∀ x ∈ done, x.i ≠ i) → q.old = p.old)

theorem Half.start (pg : List Pg) : Half pg pg [] := ⟨rfl, fun i p h => ⟨p, h, rfl, by simp, by simp⟩⟩
theorem Half.step {pg pgs : List Pg} {done l : List Ent} {c : Nat} (h : Half pg pgs done) (hP : Pends l c pg) {x : Ent} (hx : x ∈ l) :
    ∃ p, pg[x.i]? = some p ∧ p.new = some x.b ∧ Half pg (pgs.set x.i ⟨x.b, some x.b⟩) (done ++ [x]) := by
  have hb := (hP.fits x.i x.b).1 ⟨x, hx, rfl, rfl⟩
  cases hp : pg[x.i]? with
  | none => simp [hp] at hb
  | some p =>
    have hn : p.new = some x.b := by simpa [hp] using hb
    refine ⟨p, rfl, hn, by simp [h.len], fun i p' hp' => ?_⟩
    obtain ⟨q, hq, h1, h2, h3⟩ := h.at_ i p' hp'
    by_cases e : x.i = i
    · subst e
      have : p' = p := by rw [hp] at hp'; injection hp' with e; exact e.symm
      subst this
      refine ⟨⟨x.b, some x.b⟩, by rw [List.getElem?_set, if_pos rfl, if_pos (List.getElem?_eq_some_iff.1 hq).1], hn.symm, fun _ => by simp [Pg.now, hn], fun hno => absurd rfl (hno x (by simp))⟩
    · refine ⟨q, by rw [List.getElem?_set, if_neg e]; exact hq, h1, ?_, ?_⟩
      · rintro ⟨y, hy, hyi⟩
        rcases List.mem_append.1 hy with hy | hy
        · exact h2 ⟨y, hy, hyi⟩
        · simp at hy; subst hy; exact absurd hyi e
      · intro hno
        exact h3 fun y hy => hno y (by simp [hy])

theorem Half.done {pg pgs : List Pg} {done l : List Ent} {c : Nat} (h : Half pg pgs done) (hP : Pends l c pg) (hall : ∀ x ∈ l, x ∈ done) (hsub : ∀ x ∈ done, x ∈ l) : rows pgs = rows (pg.map Pg.flush) := by
  have : pgs.map Pg.old = (pg.map Pg.flush).map Pg.old := by
    apply List.ext_getElem?
    intro i
    rw [List.getElem?_map, List.getElem?_map, List.getElem?_map]
    cases hp : pg[i]? with
    | none =>
      have : pgs[i]? = none := by rw [List.getElem?_eq_none_iff] at hp ⊢; rw [h.len]; exact hp
      simp [this]
    | some p =>
      obtain ⟨q, hq, h1, h2, h3⟩ := h.at_ i p hp
      simp only [hq, Option.map_some, Pg.flush]
      congr 1
      cases hn : p.new with
      | none =>
        rw [h3, Pg.now, hn]
        · rfl
        · intro x hx e
          have := (hP.fits x.i x.b).1 ⟨x, hsub x hx, rfl, rfl⟩
          rw [e, hp] at this
          simp [hn] at this
      | some b =>
        obtain ⟨x, hx, hxi, _⟩ := (hP.fits i b).2 (by simp [hp, hn])
        exact h2 ⟨x, hall x hx, hxi⟩
  unfold rows
  have e : ∀ l : List Pg, (l.flatMap fun p => cellsOf p.old) = (l.map Pg.old).flatMap cellsOf := fun l => by rw [List.flatMap_map]
  rw [e, e, this]

theorem Pends.empty (c : Nat) (pg : List Pg) (h : ∀ p ∈ pg, p.new = none) : Pends [] c pg :=
  ⟨by simp, by simp, by simp, fun i b => by
    constructor
    · rintro ⟨x, hx, _⟩; simp at hx
    · intro hb
      cases hp : pg[i]? with
      | none => simp [hp] at hb
      | some p =>
        have := h p (List.mem_of_getElem? hp)
        simp [hp, this] at hb⟩

theorem flush_len {pg : List Pg} (ho : ∀ p ∈ pg, p.old.length = 128) (hn : ∀ p ∈ pg, ∀ b, p.new = some b → b.length = 128) : ∀ p ∈ pg.map Pg.flush, p.old.length = 128 := by
  intro p hp
  obtain ⟨q, hq, rfl⟩ := List.mem_map.1 hp
  simp only [Pg.flush, Pg.now]
  cases hb : q.new with
  | none => exact ho q hq
  | some b => exact hn q hq b hb

section
variable {w : World} {L : DL} {d : Disk}

set_option maxRecDepth 100000 in
theorem dFlush_calls (h : DiskAt w L d) : Calls Tryz.prog 35 #[Dp L] w fun e w' =>
    e = .returned (.int .i64 d.flush.1) ∧ DiskAt w' L d.flush.2 ∧ Fr L.all w w' := by
  have c2 := h.c2
  cases hoff : d.off with
  | true =>
    have R : d.flush = (20, d) := by simp [Disk.flush, hoff]
    rw [R]
    rw [hoff] at c2
    clear R
    go_enter Tryz.func35, Tryz.ntmps35
    go_wp2
    go_ret
    exact ⟨rfl, h, Fr.refl _ _⟩
  | false =>
    rw [hoff] at c2
    have hs1 := dStep_calls h
    by_cases hz : d.step.1 = 0
    · rw [hz] at hs1
      have hpg : d.step.2.pg = d.pg := by unfold Disk.step; split <;> (try split) <;> rfl
      have R : d.flush = (0, { d.step.2 with pg := d.step.2.pg.map Pg.flush }) := by simp [Disk.flush, hoff, hz, hpg]
      rw [R]
      generalize d.step.2 = d1 at hs1 hpg R ⊢
      clear R hz hpg
      go_enter Tryz.func35, Tryz.ntmps35
      go_wp2_with fail
      refine hs1.mono ?_
      rintro e w1 ⟨rfl, D1, f1, _⟩
      have c1 := D1.c1
      go_wp2_with (first | (with_reducible refine wpL_stop (o := ⟨_, .alloc 59, _, _, _, none⟩) ?_) | (with_reducible refine wpL_stop (o := ⟨_, .load 59 _, _, _, _, none⟩) ?_) | (with_reducible refine wpL_stop (o := ⟨_, .store 59 _ _, _, _, _, none⟩) ?_) | (with_reducible refine wpL_stop (o := ⟨_, .lookup _ _ _ _, _, _, _, none⟩) ?_) | (with_reducible refine wpL_stop (o := ⟨_, .box 59 _, _, _, _, none⟩) ?_) | (with_reducible refine wpL_stop (o := ⟨_, .next _ _, _, _, _, none⟩) ?_) | (with_reducible refine wpL_stop (o := ⟨_, .range _ _, _, _, _, none⟩) ?_) | (with_reducible refine wpL_stop (o := ⟨_, .mapUpdate _ _ _ _, _, _, _, none⟩) ?_) | (with_reducible refine wpL_stop (o := ⟨_, .convert 23 9 _, _, _, _, none⟩) ?_) | (with_reducible refine wpL_stop (o := ⟨_, .convert 9 23 _, _, _, _, none⟩) ?_) | (with_reducible refine wpL_stop (o := ⟨_, .call { callee := .builtin .copy, args := _, argTypes := _ }, _, _, _, none⟩) ?_) | (with_reducible refine wpL_stop (o := ⟨_, .call { callee := .builtin .append, args := _, argTypes := _ }, _, _, _, none⟩) ?_) | (with_reducible refine wpL_stop (o := ⟨_, .call { callee := .builtin .clear, args := _, argTypes := _ }, _, _, _, none⟩) ?_) | (with_reducible refine wpL_stop (o := ⟨_, .makeSlice _ _ _, _, _, _, none⟩) ?_) | (with_reducible refine wpL_stop (o := ⟨_, .makeMap _ _, _, _, _, none⟩) ?_) | (with_reducible refine wpL_stop (o := ⟨_, .entry _, _, _, _, none⟩) ?_) | (with_reducible refine wpL_stop (o := ⟨_, .call { callee := .builtin .max, args := _, argTypes := _ }, _, _, _, none⟩) ?_) | (with_reducible refine wpL_stop (o := ⟨_, .call { callee := .builtin .min, args := _, argTypes := _ }, _, _, _, none⟩) ?_) | (with_reducible refine wpL_stop (o := ⟨_, .slice 59 _ none (some _) none, _, _, _, none⟩) ?_) | (with_reducible refine wpL_stop (o := ⟨_, .binOp .add 9 _ _ _, _, _, _, none⟩) ?_) | (with_reducible refine wpL_stop (o := ⟨_, .slice 9 _ _ _ _, _, _, _, none⟩) ?_))
      obtain ⟨l, c, hm, hP⟩ := D1.hm
      refine unhold (wpL_range rfl _ _ rfl 3 59 Tryz.underlying53 L.mb rfl _ c hm ?_)
      intro w2 g2 f2 s2
      go_wp2_with (first | (with_reducible refine wpL_stop (o := ⟨_, .alloc 59, _, _, _, none⟩) ?_) | (with_reducible refine wpL_stop (o := ⟨_, .load 59 _, _, _, _, none⟩) ?_) | (with_reducible refine wpL_stop (o := ⟨_, .store 59 _ _, _, _, _, none⟩) ?_) | (with_reducible refine wpL_stop (o := ⟨_, .lookup _ _ _ _, _, _, _, none⟩) ?_) | (with_reducible refine wpL_stop (o := ⟨_, .box 59 _, _, _, _, none⟩) ?_) | (with_reducible refine wpL_stop (o := ⟨_, .next _ _, _, _, _, none⟩) ?_) | (with_reducible refine wpL_stop (o := ⟨_, .range _ _, _, _, _, none⟩) ?_) | (with_reducible refine wpL_stop (o := ⟨_, .mapUpdate _ _ _ _, _, _, _, none⟩) ?_) | (with_reducible refine wpL_stop (o := ⟨_, .convert 23 9 _, _, _, _, none⟩) ?_) | (with_reducible refine wpL_stop (o := ⟨_, .convert 9 23 _, _, _, _, none⟩) ?_) | (with_reducible refine wpL_stop (o := ⟨_, .call { callee := .builtin .copy, args := _, argTypes := _ }, _, _, _, none⟩) ?_) | (with_reducible refine wpL_stop (o := ⟨_, .call { callee := .builtin .append, args := _, argTypes := _ }, _, _, _, none⟩) ?_) | (with_reducible refine wpL_stop (o := ⟨_, .call { callee := .builtin .clear, args := _, argTypes := _ }, _, _, _, none⟩) ?_) | (with_reducible refine wpL_stop (o := ⟨_, .makeSlice _ _ _, _, _, _, none⟩) ?_) | (with_reducible refine wpL_stop (o := ⟨_, .makeMap _ _, _, _, _, none⟩) ?_) | (with_reducible refine wpL_stop (o := ⟨_, .entry _, _, _, _, none⟩) ?_) | (with_reducible refine wpL_stop (o := ⟨_, .call { callee := .builtin .max, args := _, argTypes := _ }, _, _, _, none⟩) ?_) | (with_reducible refine wpL_stop (o := ⟨_, .call { callee := .builtin .min, args := _, argTypes := _ }, _, _, _, none⟩) ?_) | (with_reducible refine wpL_stop (o := ⟨_, .slice 59 _ none (some _) none, _, _, _, none⟩) ?_) | (with_reducible refine wpL_stop (o := ⟨_, .binOp .add 9 _ _ _, _, _, _, none⟩) ?_) | (with_reducible refine wpL_stop (o := ⟨_, .slice 9 _ _ _ _, _, _, _, none⟩) ?_))
      go_frame
      have g2b := D1.fr0 f2
      go_loopg [] (leftN (l.map Ent.born) []) (fun kq w' => ∃ done pgs, Hid (kq = leftN (l.map Ent.born) (done.map Ent.born)) ∧ Hid (w'.heap[L.mb]? = some (.map (l.map ent).toArray c)) ∧
        Hid (w'.heap[w1.heap.size]? = some (.mapIter (some L.mb) c (done.map Ent.born).toArray c)) ∧ Hid (w'.heap[L.pb]? = some (.cells (rows pgs).toArray 59 (0, 0))) ∧ Half d1.pg pgs done ∧ (∀ x ∈ done, x ∈ l) ∧ (∀ p ∈ pgs, p.old.length = 128) ∧ Fr [L.pb] w1 w')
      case atStart =>
        exact ⟨[], d1.pg, rfl, f2.heap hm (by simp), g2, g2b.hp, Half.start _, by simp, D1.ok.olds, f2.any⟩
      case round =>
        obtain ⟨done, pgs, hk, hmr, hit, hpr, HF, hsub, hol, fr⟩ := hrel
        go_wp2_with (first | (with_reducible refine wpL_stop (o := ⟨_, .alloc 59, _, _, _, none⟩) ?_) | (with_reducible refine wpL_stop (o := ⟨_, .load 59 _, _, _, _, none⟩) ?_) | (with_reducible refine wpL_stop (o := ⟨_, .store 59 _ _, _, _, _, none⟩) ?_) | (with_reducible refine wpL_stop (o := ⟨_, .lookup _ _ _ _, _, _, _, none⟩) ?_) | (with_reducible refine wpL_stop (o := ⟨_, .box 59 _, _, _, _, none⟩) ?_) | (with_reducible refine wpL_stop (o := ⟨_, .next _ _, _, _, _, none⟩) ?_) | (with_reducible refine wpL_stop (o := ⟨_, .range _ _, _, _, _, none⟩) ?_) | (with_reducible refine wpL_stop (o := ⟨_, .mapUpdate _ _ _ _, _, _, _, none⟩) ?_) | (with_reducible refine wpL_stop (o := ⟨_, .convert 23 9 _, _, _, _, none⟩) ?_) | (with_reducible refine wpL_stop (o := ⟨_, .convert 9 23 _, _, _, _, none⟩) ?_) | (with_reducible refine wpL_stop (o := ⟨_, .call { callee := .builtin .copy, args := _, argTypes := _ }, _, _, _, none⟩) ?_) | (with_reducible refine wpL_stop (o := ⟨_, .call { callee := .builtin .append, args := _, argTypes := _ }, _, _, _, none⟩) ?_) | (with_reducible refine wpL_stop (o := ⟨_, .call { callee := .builtin .clear, args := _, argTypes := _ }, _, _, _, none⟩) ?_) | (with_reducible refine wpL_stop (o := ⟨_, .makeSlice _ _ _, _, _, _, none⟩) ?_) | (with_reducible refine wpL_stop (o := ⟨_, .makeMap _ _, _, _, _, none⟩) ?_) | (with_reducible refine wpL_stop (o := ⟨_, .entry _, _, _, _, none⟩) ?_) | (with_reducible refine wpL_stop (o := ⟨_, .call { callee := .builtin .max, args := _, argTypes := _ }, _, _, _, none⟩) ?_) | (with_reducible refine wpL_stop (o := ⟨_, .call { callee := .builtin .min, args := _, argTypes := _ }, _, _, _, none⟩) ?_) | (with_reducible refine wpL_stop (o := ⟨_, .slice 59 _ none (some _) none, _, _, _, none⟩) ?_) | (with_reducible refine wpL_stop (o := ⟨_, .binOp .add 9 _ _ _, _, _, _, none⟩) ?_) | (with_reducible refine wpL_stop (o := ⟨_, .slice 9 _ _ _ _, _, _, _, none⟩) ?_))
        refine unhold (wpL_next rfl _ rfl w1.heap.size L.mb rfl (l.map ent) c (done.map Ent.born) hmr.out hit.out ?_ ?_ ?_)
        · intro e he
          obtain ⟨x, hx, rfl⟩ := List.mem_map.1 he
          exact hP.young x hx
        · intro hall
          have c1r : wr.cell? ⟨L.b, 1, none⟩ = some (.map (some L.mb)) := blk_cell (fr.heap D1.hb (by simpa using D1.ne1)) 1 rfl
          go_wp2_with (first | (with_reducible refine wpL_stop (o := ⟨_, .alloc 59, _, _, _, none⟩) ?_) | (with_reducible refine wpL_stop (o := ⟨_, .load 59 _, _, _, _, none⟩) ?_) | (with_reducible refine wpL_stop (o := ⟨_, .store 59 _ _, _, _, _, none⟩) ?_) | (with_reducible refine wpL_stop (o := ⟨_, .lookup _ _ _ _, _, _, _, none⟩) ?_) | (with_reducible refine wpL_stop (o := ⟨_, .box 59 _, _, _, _, none⟩) ?_) | (with_reducible refine wpL_stop (o := ⟨_, .next _ _, _, _, _, none⟩) ?_) | (with_reducible refine wpL_stop (o := ⟨_, .range _ _, _, _, _, none⟩) ?_) | (with_reducible refine wpL_stop (o := ⟨_, .mapUpdate _ _ _ _, _, _, _, none⟩) ?_) | (with_reducible refine wpL_stop (o := ⟨_, .convert 23 9 _, _, _, _, none⟩) ?_) | (with_reducible refine wpL_stop (o := ⟨_, .convert 9 23 _, _, _, _, none⟩) ?_) | (with_reducible refine wpL_stop (o := ⟨_, .call { callee := .builtin .copy, args := _, argTypes := _ }, _, _, _, none⟩) ?_) | (with_reducible refine wpL_stop (o := ⟨_, .call { callee := .builtin .append, args := _, argTypes := _ }, _, _, _, none⟩) ?_) | (with_reducible refine wpL_stop (o := ⟨_, .call { callee := .builtin .clear, args := _, argTypes := _ }, _, _, _, none⟩) ?_) | (with_reducible refine wpL_stop (o := ⟨_, .makeSlice _ _ _, _, _, _, none⟩) ?_) | (with_reducible refine wpL_stop (o := ⟨_, .makeMap _ _, _, _, _, none⟩) ?_) | (with_reducible refine wpL_stop (o := ⟨_, .entry _, _, _, _, none⟩) ?_) | (with_reducible refine wpL_stop (o := ⟨_, .call { callee := .builtin .max, args := _, argTypes := _ }, _, _, _, none⟩) ?_) | (with_reducible refine wpL_stop (o := ⟨_, .call { callee := .builtin .min, args := _, argTypes := _ }, _, _, _, none⟩) ?_) | (with_reducible refine wpL_stop (o := ⟨_, .slice 59 _ none (some _) none, _, _, _, none⟩) ?_) | (with_reducible refine wpL_stop (o := ⟨_, .binOp .add 9 _ _ _, _, _, _, none⟩) ?_) | (with_reducible refine wpL_stop (o := ⟨_, .slice 9 _ _ _ _, _, _, _, none⟩) ?_))
          refine unhold (wpL_clear_map rfl _ _ rfl rfl 3 59 Tryz.underlying53 L.mb rfl _ c hmr.out ?_)
          intro w3 g3 f3 s3
          go_wp2_with (first | (with_reducible refine wpL_stop (o := ⟨_, .alloc 59, _, _, _, none⟩) ?_) | (with_reducible refine wpL_stop (o := ⟨_, .load 59 _, _, _, _, none⟩) ?_) | (with_reducible refine wpL_stop (o := ⟨_, .store 59 _ _, _, _, _, none⟩) ?_) | (with_reducible refine wpL_stop (o := ⟨_, .lookup _ _ _ _, _, _, _, none⟩) ?_) | (with_reducible refine wpL_stop (o := ⟨_, .box 59 _, _, _, _, none⟩) ?_) | (with_reducible refine wpL_stop (o := ⟨_, .next _ _, _, _, _, none⟩) ?_) | (with_reducible refine wpL_stop (o := ⟨_, .range _ _, _, _, _, none⟩) ?_) | (with_reducible refine wpL_stop (o := ⟨_, .mapUpdate _ _ _ _, _, _, _, none⟩) ?_) | (with_reducible refine wpL_stop (o := ⟨_, .convert 23 9 _, _, _, _, none⟩) ?_) | (with_reducible refine wpL_stop (o := ⟨_, .convert 9 23 _, _, _, _, none⟩) ?_) | (with_reducible refine wpL_stop (o := ⟨_, .call { callee := .builtin .copy, args := _, argTypes := _ }, _, _, _, none⟩) ?_) | (with_reducible refine wpL_stop (o := ⟨_, .call { callee := .builtin .append, args := _, argTypes := _ }, _, _, _, none⟩) ?_) | (with_reducible refine wpL_stop (o := ⟨_, .call { callee := .builtin .clear, args := _, argTypes := _ }, _, _, _, none⟩) ?_) | (with_reducible refine wpL_stop (o := ⟨_, .makeSlice _ _ _, _, _, _, none⟩) ?_) | (with_reducible refine wpL_stop (o := ⟨_, .makeMap _ _, _, _, _, none⟩) ?_) | (with_reducible refine wpL_stop (o := ⟨_, .entry _, _, _, _, none⟩) ?_) | (with_reducible refine wpL_stop (o := ⟨_, .call { callee := .builtin .max, args := _, argTypes := _ }, _, _, _, none⟩) ?_) | (with_reducible refine wpL_stop (o := ⟨_, .call { callee := .builtin .min, args := _, argTypes := _ }, _, _, _, none⟩) ?_) | (with_reducible refine wpL_stop (o := ⟨_, .slice 59 _ none (some _) none, _, _, _, none⟩) ?_) | (with_reducible refine wpL_stop (o := ⟨_, .binOp .add 9 _ _ _, _, _, _, none⟩) ?_) | (with_reducible refine wpL_stop (o := ⟨_, .slice 9 _ _ _ _, _, _, _, none⟩) ?_))
          go_ret
          have hallb : ∀ x ∈ l, x ∈ done := by
            intro x hx
            have := hall (ent x) (List.mem_map_of_mem hx)
            obtain ⟨y, hy, hyx⟩ := List.mem_map.1 this
            have : y = x := by
              obtain ⟨i, hi, rfl⟩ := List.mem_iff_getElem.1 (hsub y hy)
              obtain ⟨j, hj, rfl⟩ := List.mem_iff_getElem.1 hx
              have := nodup_get_eq hP.borns (i := i) (j := j) (by simpa using hi) (by simpa using hj) (by simpa [ent] using hyx)
              subst this; rfl
            exact this ▸ hy
          have hrows := HF.done hP hallb hsub
          refine ⟨rfl, D1.withPg (by simp) (flush_len D1.ok.olds D1.ok.news) ?_ ?_ ?_ ⟨[], c, by simpa using g3, Pends.empty c _ ?_⟩, ?_⟩
          · intro p hp b hb
            obtain ⟨q, _, rfl⟩ := List.mem_map.1 hp
            simp [Pg.flush] at hb
          · rw [f3.block _ (by have := lt_of_heap D1.hb; have := fr.size; omega) (by simpa using D1.ne2), fr.block _ (lt_of_heap D1.hb) (by simpa using D1.ne1)]
          · rw [← hrows]
            exact f3.heap hpr.out (by simpa using D1.ne3)
          · intro p hp
            obtain ⟨q, _, rfl⟩ := List.mem_map.1 hp
            rfl
          · have F : Fr L.all w wr := (f1.mono (by simp [DL.all])).trans (fr.mono (by simp [DL.all]))
            exact F.then f3 (by simp [DL.all])
        · intro e w3 he hne git f3 s3
          obtain ⟨x, hx, rfl⟩ := List.mem_map.1 he
          obtain ⟨p, hp, hpn, HF'⟩ := HF.step hP hx
          have hxi : x.i < d1.pg.length := (List.getElem?_eq_some_iff.1 hp).1
          have hxb : x.b.length = 128 := D1.ok.news p (List.mem_of_getElem? hp) _ hpn
          have hnd : x.born ∉ done.map Ent.born := hne
          have hlt := leftN_lt (List.mem_map_of_mem (f := Ent.born) hx) hnd
          have hm3 := f3.heap hmr.out (by simp; have := lt_of_heap hm; omega)
          have F3 : Fr [L.pb] w1 w3 := fr.then f3 (by simp)
          have hxi' : (x.i : Int) < (d1.pg.length : Int) := by omega
          change wpList _ _ _ _ (Act.put _ _ (.tuple #[.bool true, .int .i64 x.i, .agg (cellsOf x.b).toArray])) _
          go_wp2_with (first | (with_reducible refine wpL_stop (o := ⟨_, .alloc 59, _, _, _, none⟩) ?_) | (with_reducible refine wpL_stop (o := ⟨_, .load 59 _, _, _, _, none⟩) ?_) | (with_reducible refine wpL_stop (o := ⟨_, .store 59 _ _, _, _, _, none⟩) ?_) | (with_reducible refine wpL_stop (o := ⟨_, .lookup _ _ _ _, _, _, _, none⟩) ?_) | (with_reducible refine wpL_stop (o := ⟨_, .box 59 _, _, _, _, none⟩) ?_) | (with_reducible refine wpL_stop (o := ⟨_, .next _ _, _, _, _, none⟩) ?_) | (with_reducible refine wpL_stop (o := ⟨_, .range _ _, _, _, _, none⟩) ?_) | (with_reducible refine wpL_stop (o := ⟨_, .mapUpdate _ _ _ _, _, _, _, none⟩) ?_) | (with_reducible refine wpL_stop (o := ⟨_, .convert 23 9 _, _, _, _, none⟩) ?_) | (with_reducible refine wpL_stop (o := ⟨_, .convert 9 23 _, _, _, _, none⟩) ?_) | (with_reducible refine wpL_stop (o := ⟨_, .call { callee := .builtin .copy, args := _, argTypes := _ }, _, _, _, none⟩) ?_) | (with_reducible refine wpL_stop (o := ⟨_, .call { callee := .builtin .append, args := _, argTypes := _ }, _, _, _, none⟩) ?_) | (with_reducible refine wpL_stop (o := ⟨_, .call { callee := .builtin .clear, args := _, argTypes := _ }, _, _, _, none⟩) ?_) | (with_reducible refine wpL_stop (o := ⟨_, .makeSlice _ _ _, _, _, _, none⟩) ?_) | (with_reducible refine wpL_stop (o := ⟨_, .makeMap _ _, _, _, _, none⟩) ?_) | (with_reducible refine wpL_stop (o := ⟨_, .entry _, _, _, _, none⟩) ?_) | (with_reducible refine wpL_stop (o := ⟨_, .call { callee := .builtin .max, args := _, argTypes := _ }, _, _, _, none⟩) ?_) | (with_reducible refine wpL_stop (o := ⟨_, .call { callee := .builtin .min, args := _, argTypes := _ }, _, _, _, none⟩) ?_) | (with_reducible refine wpL_stop (o := ⟨_, .slice 59 _ none (some _) none, _, _, _, none⟩) ?_) | (with_reducible refine wpL_stop (o := ⟨_, .binOp .add 9 _ _ _, _, _, _, none⟩) ?_) | (with_reducible refine wpL_stop (o := ⟨_, .slice 9 _ _ _ _, _, _, _, none⟩) ?_))
          refine unhold (wpL_entry rfl _ rfl w1.heap.size L.mb rfl (l.map ent) c (done.map Ent.born) (ent x) hm3 git he (by simpa [ent, Function.comp_def] using hP.borns) ?_)
          change wpList _ _ _ _ (Act.put _ _ (.tuple #[.int .i64 x.i, .agg (cellsOf x.b).toArray])) _
          go_wp2_with (first | (with_reducible refine wpL_stop (o := ⟨_, .alloc 59, _, _, _, none⟩) ?_) | (with_reducible refine wpL_stop (o := ⟨_, .load 59 _, _, _, _, none⟩) ?_) | (with_reducible refine wpL_stop (o := ⟨_, .store 59 _ _, _, _, _, none⟩) ?_) | (with_reducible refine wpL_stop (o := ⟨_, .lookup _ _ _ _, _, _, _, none⟩) ?_) | (with_reducible refine wpL_stop (o := ⟨_, .box 59 _, _, _, _, none⟩) ?_) | (with_reducible refine wpL_stop (o := ⟨_, .next _ _, _, _, _, none⟩) ?_) | (with_reducible refine wpL_stop (o := ⟨_, .range _ _, _, _, _, none⟩) ?_) | (with_reducible refine wpL_stop (o := ⟨_, .mapUpdate _ _ _ _, _, _, _, none⟩) ?_) | (with_reducible refine wpL_stop (o := ⟨_, .convert 23 9 _, _, _, _, none⟩) ?_) | (with_reducible refine wpL_stop (o := ⟨_, .convert 9 23 _, _, _, _, none⟩) ?_) | (with_reducible refine wpL_stop (o := ⟨_, .call { callee := .builtin .copy, args := _, argTypes := _ }, _, _, _, none⟩) ?_) | (with_reducible refine wpL_stop (o := ⟨_, .call { callee := .builtin .append, args := _, argTypes := _ }, _, _, _, none⟩) ?_) | (with_reducible refine wpL_stop (o := ⟨_, .call { callee := .builtin .clear, args := _, argTypes := _ }, _, _, _, none⟩) ?_) | (with_reducible refine wpL_stop (o := ⟨_, .makeSlice _ _ _, _, _, _, none⟩) ?_) | (with_reducible refine wpL_stop (o := ⟨_, .makeMap _ _, _, _, _, none⟩) ?_) | (with_reducible refine wpL_stop (o := ⟨_, .entry _, _, _, _, none⟩) ?_) | (with_reducible refine wpL_stop (o := ⟨_, .call { callee := .builtin .max, args := _, argTypes := _ }, _, _, _, none⟩) ?_) | (with_reducible refine wpL_stop (o := ⟨_, .call { callee := .builtin .min, args := _, argTypes := _ }, _, _, _, none⟩) ?_) | (with_reducible refine wpL_stop (o := ⟨_, .slice 59 _ none (some _) none, _, _, _, none⟩) ?_) | (with_reducible refine wpL_stop (o := ⟨_, .binOp .add 9 _ _ _, _, _, _, none⟩) ?_) | (with_reducible refine wpL_stop (o := ⟨_, .slice 9 _ _ _ _, _, _, _, none⟩) ?_))
          refine unhold (wpL_alloc rfl 59 rfl _ pageZero ?_)
          intro w4 g4 f4 s4
          rw [s3] at g4 s4
          go_wp2_with (first | (with_reducible refine wpL_stop (o := ⟨_, .alloc 59, _, _, _, none⟩) ?_) | (with_reducible refine wpL_stop (o := ⟨_, .load 59 _, _, _, _, none⟩) ?_) | (with_reducible refine wpL_stop (o := ⟨_, .store 59 _ _, _, _, _, none⟩) ?_) | (with_reducible refine wpL_stop (o := ⟨_, .lookup _ _ _ _, _, _, _, none⟩) ?_) | (with_reducible refine wpL_stop (o := ⟨_, .box 59 _, _, _, _, none⟩) ?_) | (with_reducible refine wpL_stop (o := ⟨_, .next _ _, _, _, _, none⟩) ?_) | (with_reducible refine wpL_stop (o := ⟨_, .range _ _, _, _, _, none⟩) ?_) | (with_reducible refine wpL_stop (o := ⟨_, .mapUpdate _ _ _ _, _, _, _, none⟩) ?_) | (with_reducible refine wpL_stop (o := ⟨_, .convert 23 9 _, _, _, _, none⟩) ?_) | (with_reducible refine wpL_stop (o := ⟨_, .convert 9 23 _, _, _, _, none⟩) ?_) | (with_reducible refine wpL_stop (o := ⟨_, .call { callee := .builtin .copy, args := _, argTypes := _ }, _, _, _, none⟩) ?_) | (with_reducible refine wpL_stop (o := ⟨_, .call { callee := .builtin .append, args := _, argTypes := _ }, _, _, _, none⟩) ?_) | (with_reducible refine wpL_stop (o := ⟨_, .call { callee := .builtin .clear, args := _, argTypes := _ }, _, _, _, none⟩) ?_) | (with_reducible refine wpL_stop (o := ⟨_, .makeSlice _ _ _, _, _, _, none⟩) ?_) | (with_reducible refine wpL_stop (o := ⟨_, .makeMap _ _, _, _, _, none⟩) ?_) | (with_reducible refine wpL_stop (o := ⟨_, .entry _, _, _, _, none⟩) ?_) | (with_reducible refine wpL_stop (o := ⟨_, .call { callee := .builtin .max, args := _, argTypes := _ }, _, _, _, none⟩) ?_) | (with_reducible refine wpL_stop (o := ⟨_, .call { callee := .builtin .min, args := _, argTypes := _ }, _, _, _, none⟩) ?_) | (with_reducible refine wpL_stop (o := ⟨_, .slice 59 _ none (some _) none, _, _, _, none⟩) ?_) | (with_reducible refine wpL_stop (o := ⟨_, .binOp .add 9 _ _ _, _, _, _, none⟩) ?_) | (with_reducible refine wpL_stop (o := ⟨_, .slice 9 _ _ _ _, _, _, _, none⟩) ?_))
          refine unhold (wpL_store0 rfl 59 _ _ rfl rfl wr.heap.size rfl (cellsOf x.b) rfl _ _ g4 (pageSizeOf _ (by rw [cellsOf_length, hxb])) (by simp [cellsOf_length, hxb, zeros]) (cellsOf_one _) ?_)
          intro w5 g5 f5 s5
          clear g4
          have F5 : Fr [L.pb] w1 w5 := F3.then (f4.then f5 (S := []) (by simp; omega)) (by simp)
          have f35 : Fr [] w3 w5 := f4.then f5 (by simp; omega)
          have hm5 := Lib.hid (f35.heap hm3 (by simp))
          have it5 := Lib.hid (f35.heap git (by simp))
          have p5 := Lib.hid (f35.heap (f3.heap hpr.out (by simp; have := D1.lt L.pb (by simp [DL.all]); omega)) (by simp))
          have c0 : w5.cell? ⟨L.b, 0, none⟩ = some (.slice (some ⟨L.pb, 0, none⟩) d1.pg.length d1.pg.length) := blk_cell (F5.heap D1.hb (by simpa using D1.ne1)) 0 rfl
          have G5 := Lib.hid g5
          have H3 := Lib.hid hm3
          have HG := Lib.hid git
          clear hm3 git g5 f35 s4 s5
          go_wp2_with (first | (with_reducible refine wpL_stop (o := ⟨_, .alloc 59, _, _, _, none⟩) ?_) | (with_reducible refine wpL_stop (o := ⟨_, .load 59 _, _, _, _, none⟩) ?_) | (with_reducible refine wpL_stop (o := ⟨_, .store 59 _ _, _, _, _, none⟩) ?_) | (with_reducible refine wpL_stop (o := ⟨_, .lookup _ _ _ _, _, _, _, none⟩) ?_) | (with_reducible refine wpL_stop (o := ⟨_, .box 59 _, _, _, _, none⟩) ?_) | (with_reducible refine wpL_stop (o := ⟨_, .next _ _, _, _, _, none⟩) ?_) | (with_reducible refine wpL_stop (o := ⟨_, .range _ _, _, _, _, none⟩) ?_) | (with_reducible refine wpL_stop (o := ⟨_, .mapUpdate _ _ _ _, _, _, _, none⟩) ?_) | (with_reducible refine wpL_stop (o := ⟨_, .convert 23 9 _, _, _, _, none⟩) ?_) | (with_reducible refine wpL_stop (o := ⟨_, .convert 9 23 _, _, _, _, none⟩) ?_) | (with_reducible refine wpL_stop (o := ⟨_, .call { callee := .builtin .copy, args := _, argTypes := _ }, _, _, _, none⟩) ?_) | (with_reducible refine wpL_stop (o := ⟨_, .call { callee := .builtin .append, args := _, argTypes := _ }, _, _, _, none⟩) ?_) | (with_reducible refine wpL_stop (o := ⟨_, .call { callee := .builtin .clear, args := _, argTypes := _ }, _, _, _, none⟩) ?_) | (with_reducible refine wpL_stop (o := ⟨_, .makeSlice _ _ _, _, _, _, none⟩) ?_) | (with_reducible refine wpL_stop (o := ⟨_, .makeMap _ _, _, _, _, none⟩) ?_) | (with_reducible refine wpL_stop (o := ⟨_, .entry _, _, _, _, none⟩) ?_) | (with_reducible refine wpL_stop (o := ⟨_, .call { callee := .builtin .max, args := _, argTypes := _ }, _, _, _, none⟩) ?_) | (with_reducible refine wpL_stop (o := ⟨_, .call { callee := .builtin .min, args := _, argTypes := _ }, _, _, _, none⟩) ?_) | (with_reducible refine wpL_stop (o := ⟨_, .slice 59 _ none (some _) none, _, _, _, none⟩) ?_) | (with_reducible refine wpL_stop (o := ⟨_, .binOp .add 9 _ _ _, _, _, _, none⟩) ?_) | (with_reducible refine wpL_stop (o := ⟨_, .slice 9 _ _ _ _, _, _, _, none⟩) ?_))
          refine wp_region_still_tail 7 (by kernel_rfl) (by kernel_rfl) ?_
          simp only [List.take_succ_cons, List.take_zero, List.drop_succ_cons, List.drop_zero]
          iterate 5 still_step
          refine wpStill_load rfl 59 _ rfl wr.heap.size 0 rfl _ _ (cellsOf x.b) _ _ G5.out Tryz.underlying59 rfl (pageSizeOf _ (by rw [cellsOf_length, hxb])) (by intro j hj; simp) ?_
          still_step
          refine wpStill_nil ?_
          refine wpL_store rfl 59 _ _ rfl rfl L.pb (x.i * 128) ?_ (cellsOf x.b) rfl _ _ p5.out (pageSizeOf _ (by rw [cellsOf_length, hxb])) ?_ (cellsOf_one _) ?_
          · show Value.pointer _ = _
            simp
          · simp [cellsOf_length, hxb, rows_length _ hol, HF.len]
            omega
          intro w6 g6 f6 s6
          go_wp2_with (first | (with_reducible refine wpL_stop (o := ⟨_, .alloc 59, _, _, _, none⟩) ?_) | (with_reducible refine wpL_stop (o := ⟨_, .load 59 _, _, _, _, none⟩) ?_) | (with_reducible refine wpL_stop (o := ⟨_, .store 59 _ _, _, _, _, none⟩) ?_) | (with_reducible refine wpL_stop (o := ⟨_, .lookup _ _ _ _, _, _, _, none⟩) ?_) | (with_reducible refine wpL_stop (o := ⟨_, .box 59 _, _, _, _, none⟩) ?_) | (with_reducible refine wpL_stop (o := ⟨_, .next _ _, _, _, _, none⟩) ?_) | (with_reducible refine wpL_stop (o := ⟨_, .range _ _, _, _, _, none⟩) ?_) | (with_reducible refine wpL_stop (o := ⟨_, .mapUpdate _ _ _ _, _, _, _, none⟩) ?_) | (with_reducible refine wpL_stop (o := ⟨_, .convert 23 9 _, _, _, _, none⟩) ?_) | (with_reducible refine wpL_stop (o := ⟨_, .convert 9 23 _, _, _, _, none⟩) ?_) | (with_reducible refine wpL_stop (o := ⟨_, .call { callee := .builtin .copy, args := _, argTypes := _ }, _, _, _, none⟩) ?_) | (with_reducible refine wpL_stop (o := ⟨_, .call { callee := .builtin .append, args := _, argTypes := _ }, _, _, _, none⟩) ?_) | (with_reducible refine wpL_stop (o := ⟨_, .call { callee := .builtin .clear, args := _, argTypes := _ }, _, _, _, none⟩) ?_) | (with_reducible refine wpL_stop (o := ⟨_, .makeSlice _ _ _, _, _, _, none⟩) ?_) | (with_reducible refine wpL_stop (o := ⟨_, .makeMap _ _, _, _, _, none⟩) ?_) | (with_reducible refine wpL_stop (o := ⟨_, .entry _, _, _, _, none⟩) ?_) | (with_reducible refine wpL_stop (o := ⟨_, .call { callee := .builtin .max, args := _, argTypes := _ }, _, _, _, none⟩) ?_) | (with_reducible refine wpL_stop (o := ⟨_, .call { callee := .builtin .min, args := _, argTypes := _ }, _, _, _, none⟩) ?_) | (with_reducible refine wpL_stop (o := ⟨_, .slice 59 _ none (some _) none, _, _, _, none⟩) ?_) | (with_reducible refine wpL_stop (o := ⟨_, .binOp .add 9 _ _ _, _, _, _, none⟩) ?_) | (with_reducible refine wpL_stop (o := ⟨_, .slice 9 _ _ _ _, _, _, _, none⟩) ?_))
          go_roundg (leftN (l.map Ent.born) ((done ++ [x]).map Ent.born))
          case measure => rw [hk.out]; simpa using hlt
          case rel =>
            have f56 : Fr [L.pb] w5 w6 := ⟨f6.os, f6.tape, f6.output, f6.size, f6.block⟩
            have hlen5 : w1.heap.size < w5.heap.size := by have := lt_of_heap it5.out; exact this
            refine ⟨done ++ [x], pgs.set x.i ⟨x.b, some x.b⟩, rfl, f56.heap hm5.out (by simpa using Ne.symm D1.ne3), ?_, ?_, HF', ?_, ?_, F5.then f56 (by simp)⟩
            · have hne2 : w1.heap.size ≠ L.pb := by have := D1.lt L.pb (by simp [DL.all]); omega
              have := f56.heap it5.out (by simpa using hne2)
              simpa [ent, Hid] using this
            · rw [rows_set pgs x.i _ hol hxb (by rw [HF.len]; exact hxi)]
              rw [cellsOf_length, hxb] at g6
              simpa [Hid] using g6
            · intro y hy
              rcases List.mem_append.1 hy with hy | hy
              · exact hsub y hy
              · simp at hy; subst hy; exact hx
            · intro q hq
              rcases List.mem_or_eq_of_mem_set hq with hq | rfl
              · exact hol q hq
              · exact hxb
    · have R : d.flush = d.step := by simp [Disk.flush, hoff, hz]
      rw [R]
      have hz' : (d.step.1 != 0) = true := by simpa using hz
      generalize d.step = x at hs1 hz' ⊢
      clear R hz
      go_enter Tryz.func35, Tryz.ntmps35
      go_wp2_with fail
      refine hs1.mono ?_
      rintro e w1 ⟨rfl, D1, f1, _⟩
      go_wp2
      go_ret
      exact ⟨rfl, D1, f1.mono (by simp [DL.all])⟩
end
end Go.Proofs.YtcnhlemenpgkbaaGreatDoor
