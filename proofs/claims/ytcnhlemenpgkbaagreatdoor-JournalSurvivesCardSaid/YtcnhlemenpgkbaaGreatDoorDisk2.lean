/- The disk: a page's text, reading, writing. -/
import Derived.Test.YtcnhlemenpgkbaaGreatDoorLaws
import Derived.Test.YtcnhlemenpgkbaaGreatDoorDisk1
namespace Go.Proofs.YtcnhlemenpgkbaaGreatDoor
set_option linter.unusedSimpArgs false
set_option linter.unusedVariables false
set_option linter.unnecessarySimpa false
open Go.RowKit M

theorem byteSize : (Tryz.prog.info? 5).map (·.size) = some 1 := by kernel_rfl

section
variable {w : World} {L : DL} {d : Disk}

theorem dText_calls (s : Bytes) (hs : s.length = 128) (w : World) : Calls Tryz.prog 91 #[.agg (cellsOf s).toArray] w fun e w' => e = .returned (str s) ∧ Fr [] w w' := by
  go_enter Tryz.func91, Tryz.ntmps91
  go_wp2_with (first | (with_reducible refine wpL_stop (o := ⟨_, .alloc 59, _, _, _, none⟩) ?_) | (with_reducible refine wpL_stop (o := ⟨_, .load 59 _, _, _, _, none⟩) ?_) | (with_reducible refine wpL_stop (o := ⟨_, .store 59 _ _, _, _, _, none⟩) ?_) | (with_reducible refine wpL_stop (o := ⟨_, .lookup _ _ _ _, _, _, _, none⟩) ?_) | (with_reducible refine wpL_stop (o := ⟨_, .box 59 _, _, _, _, none⟩) ?_) | (with_reducible refine wpL_stop (o := ⟨_, .next _ _, _, _, _, none⟩) ?_) | (with_reducible refine wpL_stop (o := ⟨_, .range _ _, _, _, _, none⟩) ?_) | (with_reducible refine wpL_stop (o := ⟨_, .mapUpdate _ _ _ _, _, _, _, none⟩) ?_) | (with_reducible refine wpL_stop (o := ⟨_, .convert 23 9 _, _, _, _, none⟩) ?_) | (with_reducible refine wpL_stop (o := ⟨_, .convert 9 23 _, _, _, _, none⟩) ?_) | (with_reducible refine wpL_stop (o := ⟨_, .call { callee := .builtin .copy, args := _, argTypes := _ }, _, _, _, none⟩) ?_) | (with_reducible refine wpL_stop (o := ⟨_, .call { callee := .builtin .append, args := _, argTypes := _ }, _, _, _, none⟩) ?_) | (with_reducible refine wpL_stop (o := ⟨_, .call { callee := .builtin .clear, args := _, argTypes := _ }, _, _, _, none⟩) ?_) | (with_reducible refine wpL_stop (o := ⟨_, .makeSlice _ _ _, _, _, _, none⟩) ?_) | (with_reducible refine wpL_stop (o := ⟨_, .makeMap _ _, _, _, _, none⟩) ?_) | (with_reducible refine wpL_stop (o := ⟨_, .entry _, _, _, _, none⟩) ?_) | (with_reducible refine wpL_stop (o := ⟨_, .call { callee := .builtin .max, args := _, argTypes := _ }, _, _, _, none⟩) ?_) | (with_reducible refine wpL_stop (o := ⟨_, .call { callee := .builtin .min, args := _, argTypes := _ }, _, _, _, none⟩) ?_) | (with_reducible refine wpL_stop (o := ⟨_, .slice 59 _ none (some _) none, _, _, _, none⟩) ?_) | (with_reducible refine wpL_stop (o := ⟨_, .binOp .add 9 _ _ _, _, _, _, none⟩) ?_) | (with_reducible refine wpL_stop (o := ⟨_, .slice 9 _ _ _ _, _, _, _, none⟩) ?_))
  refine unhold (wpL_val (v := .pointer (some ⟨w.heap.size, 0, none⟩)) (w' := w.alloc (.cells (cellsOf s).toArray 59)) rfl rfl ?_)
  have g1 := heap_alloc_new w (.cells (cellsOf s).toArray 59)
  have f1 := (Fr.refl [] w).alloc (.cells (cellsOf s).toArray 59)
  generalize w.alloc (.cells (cellsOf s).toArray 59) = w1 at g1 f1 ⊢
  go_wp2_with (first | (with_reducible refine wpL_stop (o := ⟨_, .alloc 59, _, _, _, none⟩) ?_) | (with_reducible refine wpL_stop (o := ⟨_, .load 59 _, _, _, _, none⟩) ?_) | (with_reducible refine wpL_stop (o := ⟨_, .store 59 _ _, _, _, _, none⟩) ?_) | (with_reducible refine wpL_stop (o := ⟨_, .lookup _ _ _ _, _, _, _, none⟩) ?_) | (with_reducible refine wpL_stop (o := ⟨_, .box 59 _, _, _, _, none⟩) ?_) | (with_reducible refine wpL_stop (o := ⟨_, .next _ _, _, _, _, none⟩) ?_) | (with_reducible refine wpL_stop (o := ⟨_, .range _ _, _, _, _, none⟩) ?_) | (with_reducible refine wpL_stop (o := ⟨_, .mapUpdate _ _ _ _, _, _, _, none⟩) ?_) | (with_reducible refine wpL_stop (o := ⟨_, .convert 23 9 _, _, _, _, none⟩) ?_) | (with_reducible refine wpL_stop (o := ⟨_, .convert 9 23 _, _, _, _, none⟩) ?_) | (with_reducible refine wpL_stop (o := ⟨_, .call { callee := .builtin .copy, args := _, argTypes := _ }, _, _, _, none⟩) ?_) | (with_reducible refine wpL_stop (o := ⟨_, .call { callee := .builtin .append, args := _, argTypes := _ }, _, _, _, none⟩) ?_) | (with_reducible refine wpL_stop (o := ⟨_, .call { callee := .builtin .clear, args := _, argTypes := _ }, _, _, _, none⟩) ?_) | (with_reducible refine wpL_stop (o := ⟨_, .makeSlice _ _ _, _, _, _, none⟩) ?_) | (with_reducible refine wpL_stop (o := ⟨_, .makeMap _ _, _, _, _, none⟩) ?_) | (with_reducible refine wpL_stop (o := ⟨_, .entry _, _, _, _, none⟩) ?_) | (with_reducible refine wpL_stop (o := ⟨_, .call { callee := .builtin .max, args := _, argTypes := _ }, _, _, _, none⟩) ?_) | (with_reducible refine wpL_stop (o := ⟨_, .call { callee := .builtin .min, args := _, argTypes := _ }, _, _, _, none⟩) ?_) | (with_reducible refine wpL_stop (o := ⟨_, .slice 59 _ none (some _) none, _, _, _, none⟩) ?_) | (with_reducible refine wpL_stop (o := ⟨_, .binOp .add 9 _ _ _, _, _, _, none⟩) ?_) | (with_reducible refine wpL_stop (o := ⟨_, .slice 9 _ _ _ _, _, _, _, none⟩) ?_))
  refine unhold (wpL_text rfl _ _ _ rfl 5 Tryz.underlying23 Tryz.underlying5 Tryz.underlying9 w.heap.size 0 128 128 rfl _ _ _ s g1 hs (by intro j hj; simp) ?_)
  go_wp2_with (first | (with_reducible refine wpL_stop (o := ⟨_, .alloc 59, _, _, _, none⟩) ?_) | (with_reducible refine wpL_stop (o := ⟨_, .load 59 _, _, _, _, none⟩) ?_) | (with_reducible refine wpL_stop (o := ⟨_, .store 59 _ _, _, _, _, none⟩) ?_) | (with_reducible refine wpL_stop (o := ⟨_, .lookup _ _ _ _, _, _, _, none⟩) ?_) | (with_reducible refine wpL_stop (o := ⟨_, .box 59 _, _, _, _, none⟩) ?_) | (with_reducible refine wpL_stop (o := ⟨_, .next _ _, _, _, _, none⟩) ?_) | (with_reducible refine wpL_stop (o := ⟨_, .range _ _, _, _, _, none⟩) ?_) | (with_reducible refine wpL_stop (o := ⟨_, .mapUpdate _ _ _ _, _, _, _, none⟩) ?_) | (with_reducible refine wpL_stop (o := ⟨_, .convert 23 9 _, _, _, _, none⟩) ?_) | (with_reducible refine wpL_stop (o := ⟨_, .convert 9 23 _, _, _, _, none⟩) ?_) | (with_reducible refine wpL_stop (o := ⟨_, .call { callee := .builtin .copy, args := _, argTypes := _ }, _, _, _, none⟩) ?_) | (with_reducible refine wpL_stop (o := ⟨_, .call { callee := .builtin .append, args := _, argTypes := _ }, _, _, _, none⟩) ?_) | (with_reducible refine wpL_stop (o := ⟨_, .call { callee := .builtin .clear, args := _, argTypes := _ }, _, _, _, none⟩) ?_) | (with_reducible refine wpL_stop (o := ⟨_, .makeSlice _ _ _, _, _, _, none⟩) ?_) | (with_reducible refine wpL_stop (o := ⟨_, .makeMap _ _, _, _, _, none⟩) ?_) | (with_reducible refine wpL_stop (o := ⟨_, .entry _, _, _, _, none⟩) ?_) | (with_reducible refine wpL_stop (o := ⟨_, .call { callee := .builtin .max, args := _, argTypes := _ }, _, _, _, none⟩) ?_) | (with_reducible refine wpL_stop (o := ⟨_, .call { callee := .builtin .min, args := _, argTypes := _ }, _, _, _, none⟩) ?_) | (with_reducible refine wpL_stop (o := ⟨_, .slice 59 _ none (some _) none, _, _, _, none⟩) ?_) | (with_reducible refine wpL_stop (o := ⟨_, .binOp .add 9 _ _ _, _, _, _, none⟩) ?_) | (with_reducible refine wpL_stop (o := ⟨_, .slice 9 _ _ _ _, _, _, _, none⟩) ?_))
  go_ret
  exact ⟨rfl, f1⟩

theorem now_len (h : DiskAt w L d) {n : Nat} (hn : n < d.pg.length) : (d.now n).length = 128 := by
  have hg : d.pg[n]? = some d.pg[n] := List.getElem?_eq_getElem hn
  have hm := List.getElem_mem hn
  simp only [Disk.now, hg, Option.getD_some, Pg.now]
  cases hb : d.pg[n].new with
  | none => exact h.ok.olds _ hm
  | some b => exact h.ok.news _ hm b hb

theorem is_iff {i : Int} : d.is i = true ↔ 0 ≤ i ∧ i < (d.pg.length : Int) := by
  unfold Disk.is Disk.len
  rw [Bool.and_eq_true, decide_eq_true_eq, decide_eq_true_eq]

theorem dRead_calls (h : DiskAt w L d) (i : Int) : Calls Tryz.prog 56 #[Dp L, .int .i64 i] w fun e w' =>
    e = .returned (.tuple #[str (d.read i).1, .int .i64 (d.read i).2]) ∧ Fr [] w w' := by
  have c2 := h.c2
  cases hoff : d.off with
  | true =>
    have R : d.read i = ([], 20) := by simp [Disk.read, hoff]
    rw [R]
    rw [hoff] at c2
    clear R
    go_enter Tryz.func56, Tryz.ntmps56
    go_wp2
    go_ret2
    exact ⟨rfl, Fr.refl _ _⟩
  | false =>
    rw [hoff] at c2
    cases his : d.is i with
    | false =>
      have R : d.read i = ([], 1) := by simp [Disk.read, hoff, his]
      rw [R]
      clear R
      go_enter Tryz.func56, Tryz.ntmps56
      go_wp2_with (go_at_call 89; refine (dIs_calls h i).mono ?_; rintro e w' ⟨rfl, rfl⟩)
      go_ret2
      exact ⟨rfl, Fr.refl _ _⟩
    | true =>
      have R : d.read i = (d.now i.toNat, 0) := by simp [Disk.read, hoff, his]
      rw [R]
      clear R
      have hi := is_iff.1 his
      have hl := now_len h (show i.toNat < d.pg.length by omega)
      go_enter Tryz.func56, Tryz.ntmps56
      go_wp2_with (first | (go_at_call 89; refine (dIs_calls h i).mono ?_; rintro e w' ⟨rfl, rfl⟩) | (go_at_call 90; refine (dNow_calls h i hi.1 hi.2).mono ?_; rintro e w1 ⟨rfl, hf1⟩) | (go_at_call 91; refine (dText_calls _ hl _).mono ?_; rintro e w2 ⟨rfl, hf2⟩))
      go_ret2
      exact ⟨rfl, hf1.trans hf2⟩

theorem DiskAt.withPg {w' : World} {pg : List Pg} (h : DiskAt w L d) (hl : pg.length = d.pg.length) (ho : ∀ p ∈ pg, p.old.length = 128) (hn : ∀ p ∈ pg, ∀ b, p.new = some b → b.length = 128)
    (hb : w'.heap[L.b]? = w.heap[L.b]?) (hp : w'.heap[L.pb]? = some (.cells (rows pg).toArray 59 (0, 0)))
    (hm : ∃ l clock, w'.heap[L.mb]? = some (.map (l.map ent).toArray clock) ∧ Pends l clock pg) : DiskAt w' L { d with pg := pg } :=
  ⟨⟨by rw [hl]; exact h.ok.few, ho, hn, h.ok.low, h.ok.high⟩, by rw [hb, hl]; exact h.hb, hp, hm, h.ne1, h.ne2, h.ne3⟩

theorem rows_setNew (pg : List Pg) (n : Nat) (b : Bytes) : rows (setNew pg n b) = rows pg := by
  unfold rows setNew
  induction pg generalizing n with
  | nil => simp
  | cons p r ih =>
    cases n with
    | zero => simp
    | succ n => simp [ih]

theorem mem_setNew {pg : List Pg} {n : Nat} {b : Bytes} {p : Pg} (h : p ∈ setNew pg n b) : ∃ q ∈ pg, p.old = q.old ∧ (p.new = q.new ∨ p.new = some b) := by
  unfold setNew at h
  induction pg generalizing n with
  | nil => simp at h
  | cons q r ih =>
    cases n with
    | zero =>
      simp at h
      rcases h with rfl | h
      · exact ⟨q, by simp, rfl, .inr rfl⟩
      · exact ⟨p, by simp [h], rfl, .inl rfl⟩
    | succ n =>
      simp at h
      rcases h with rfl | h
      · exact ⟨p, by simp, rfl, .inl rfl⟩
      · obtain ⟨q', hq, h1⟩ := ih h
        exact ⟨q', by simp [hq], h1⟩

theorem DiskAt.setPend {w' : World} {n : Nat} {b : Bytes} (h : DiskAt w L d) (hb : b.length = 128) (hf : Fr [L.mb] w w')
    (hm : ∃ l clock, w'.heap[L.mb]? = some (.map (l.map ent).toArray clock) ∧ Pends l clock (setNew d.pg n b)) : DiskAt w' L { d with pg := setNew d.pg n b } := by
  refine h.withPg (by simp [setNew]) ?_ ?_ (hf.block _ (lt_of_heap h.hb) (by simpa using h.ne2)) ?_ hm
  · intro p hp
    obtain ⟨q, hq, h1, _⟩ := mem_setNew hp
    rw [h1]
    exact h.ok.olds q hq
  · intro p hp b' hb'
    obtain ⟨q, hq, _, h2 | h2⟩ := mem_setNew hp
    · rw [h2] at hb'
      exact h.ok.news q hq b' hb'
    · rw [h2] at hb'
      injection hb' with hb'
      exact hb' ▸ hb
  · rw [rows_setNew]
    exact hf.heap h.hp (by simpa using h.ne3)

set_option maxRecDepth 100000 in
theorem dWrite_calls (h : DiskAt w L d) (i : Int) (s : Bytes) (hs : s.length = 128) : Calls Tryz.prog 59 #[Dp L, .int .i64 i, .int .i64 0, str s] w fun e w' =>
    e = .returned (.int .i64 (d.write i s).1) ∧ DiskAt w' L (d.write i s).2 ∧ Fr L.all w w' := by
  have c2 := h.c2

  cases hoff : d.off with
  | true =>
    have R : d.write i s = (20, d) := by simp [Disk.write, hoff]
    rw [R]
    rw [hoff] at c2
    clear R
    go_enter Tryz.func59, Tryz.ntmps59
    go_wp2
    go_ret
    exact ⟨rfl, h, Fr.refl _ _⟩
  | false =>
    rw [hoff] at c2
    cases his : d.is i with
    | false =>
      have R : d.write i s = (1, d) := by simp [Disk.write, hoff, his]
      rw [R]
      clear R
      go_enter Tryz.func59, Tryz.ntmps59
      go_wp2_with (go_at_call 89; refine (dIs_calls h i).mono ?_; rintro e w' ⟨rfl, rfl⟩)
      go_ret
      exact ⟨rfl, h, Fr.refl _ _⟩
    | true =>
      have hi := is_iff.1 his
      have hs1 := dStep_calls h
      by_cases hz : d.step.1 = 0
      · rw [hz] at hs1
        have R : d.write i s = (0, { d.step.2 with pg := setNew d.pg i.toNat s }) := by
          simp only [Disk.write, hoff, his, hz]
          simp [setNew]
        have hpg : d.step.2.pg = d.pg := by unfold Disk.step; split <;> (try split) <;> rfl
        rw [R]
        generalize d.step.2 = d1 at hs1 hpg R ⊢
        clear R hz
        go_enter Tryz.func59, Tryz.ntmps59
        go_wp2_with (first | (go_at_call 89; refine (dIs_calls h i).mono ?_; rintro e w' ⟨rfl, rfl⟩) | first | (with_reducible refine wpL_stop (o := ⟨_, .alloc 59, _, _, _, none⟩) ?_) | (with_reducible refine wpL_stop (o := ⟨_, .load 59 _, _, _, _, none⟩) ?_) | (with_reducible refine wpL_stop (o := ⟨_, .store 59 _ _, _, _, _, none⟩) ?_) | (with_reducible refine wpL_stop (o := ⟨_, .lookup _ _ _ _, _, _, _, none⟩) ?_) | (with_reducible refine wpL_stop (o := ⟨_, .box 59 _, _, _, _, none⟩) ?_) | (with_reducible refine wpL_stop (o := ⟨_, .next _ _, _, _, _, none⟩) ?_) | (with_reducible refine wpL_stop (o := ⟨_, .range _ _, _, _, _, none⟩) ?_) | (with_reducible refine wpL_stop (o := ⟨_, .mapUpdate _ _ _ _, _, _, _, none⟩) ?_) | (with_reducible refine wpL_stop (o := ⟨_, .convert 23 9 _, _, _, _, none⟩) ?_) | (with_reducible refine wpL_stop (o := ⟨_, .convert 9 23 _, _, _, _, none⟩) ?_) | (with_reducible refine wpL_stop (o := ⟨_, .call { callee := .builtin .copy, args := _, argTypes := _ }, _, _, _, none⟩) ?_) | (with_reducible refine wpL_stop (o := ⟨_, .call { callee := .builtin .append, args := _, argTypes := _ }, _, _, _, none⟩) ?_) | (with_reducible refine wpL_stop (o := ⟨_, .call { callee := .builtin .clear, args := _, argTypes := _ }, _, _, _, none⟩) ?_) | (with_reducible refine wpL_stop (o := ⟨_, .makeSlice _ _ _, _, _, _, none⟩) ?_) | (with_reducible refine wpL_stop (o := ⟨_, .makeMap _ _, _, _, _, none⟩) ?_) | (with_reducible refine wpL_stop (o := ⟨_, .entry _, _, _, _, none⟩) ?_) | (with_reducible refine wpL_stop (o := ⟨_, .call { callee := .builtin .max, args := _, argTypes := _ }, _, _, _, none⟩) ?_) | (with_reducible refine wpL_stop (o := ⟨_, .call { callee := .builtin .min, args := _, argTypes := _ }, _, _, _, none⟩) ?_) | (with_reducible refine wpL_stop (o := ⟨_, .slice 59 _ none (some _) none, _, _, _, none⟩) ?_) | (with_reducible refine wpL_stop (o := ⟨_, .binOp .add 9 _ _ _, _, _, _, none⟩) ?_) | (with_reducible refine wpL_stop (o := ⟨_, .slice 9 _ _ _ _, _, _, _, none⟩) ?_))
        refine hs1.mono ?_
        rintro e w1 ⟨rfl, D1, f1, _⟩
        rw [← hpg] at hi
        have hw1 := Lib.hid hpg
        clear hpg
        have hnow := now_len D1 (show i.toNat < d1.pg.length by omega)
        go_wp2_with fail
        refine (dNow_calls D1 i hi.1 hi.2).mono ?_
        rintro e w2 ⟨rfl, f2⟩
        go_wp2_with (first | (with_reducible refine wpL_stop (o := ⟨_, .alloc 59, _, _, _, none⟩) ?_) | (with_reducible refine wpL_stop (o := ⟨_, .load 59 _, _, _, _, none⟩) ?_) | (with_reducible refine wpL_stop (o := ⟨_, .store 59 _ _, _, _, _, none⟩) ?_) | (with_reducible refine wpL_stop (o := ⟨_, .lookup _ _ _ _, _, _, _, none⟩) ?_) | (with_reducible refine wpL_stop (o := ⟨_, .box 59 _, _, _, _, none⟩) ?_) | (with_reducible refine wpL_stop (o := ⟨_, .next _ _, _, _, _, none⟩) ?_) | (with_reducible refine wpL_stop (o := ⟨_, .range _ _, _, _, _, none⟩) ?_) | (with_reducible refine wpL_stop (o := ⟨_, .mapUpdate _ _ _ _, _, _, _, none⟩) ?_) | (with_reducible refine wpL_stop (o := ⟨_, .convert 23 9 _, _, _, _, none⟩) ?_) | (with_reducible refine wpL_stop (o := ⟨_, .convert 9 23 _, _, _, _, none⟩) ?_) | (with_reducible refine wpL_stop (o := ⟨_, .call { callee := .builtin .copy, args := _, argTypes := _ }, _, _, _, none⟩) ?_) | (with_reducible refine wpL_stop (o := ⟨_, .call { callee := .builtin .append, args := _, argTypes := _ }, _, _, _, none⟩) ?_) | (with_reducible refine wpL_stop (o := ⟨_, .call { callee := .builtin .clear, args := _, argTypes := _ }, _, _, _, none⟩) ?_) | (with_reducible refine wpL_stop (o := ⟨_, .makeSlice _ _ _, _, _, _, none⟩) ?_) | (with_reducible refine wpL_stop (o := ⟨_, .makeMap _ _, _, _, _, none⟩) ?_) | (with_reducible refine wpL_stop (o := ⟨_, .entry _, _, _, _, none⟩) ?_) | (with_reducible refine wpL_stop (o := ⟨_, .call { callee := .builtin .max, args := _, argTypes := _ }, _, _, _, none⟩) ?_) | (with_reducible refine wpL_stop (o := ⟨_, .call { callee := .builtin .min, args := _, argTypes := _ }, _, _, _, none⟩) ?_) | (with_reducible refine wpL_stop (o := ⟨_, .slice 59 _ none (some _) none, _, _, _, none⟩) ?_) | (with_reducible refine wpL_stop (o := ⟨_, .binOp .add 9 _ _ _, _, _, _, none⟩) ?_) | (with_reducible refine wpL_stop (o := ⟨_, .slice 9 _ _ _ _, _, _, _, none⟩) ?_))
        refine unhold (wpL_alloc rfl 59 rfl _ pageZero ?_)
        intro w3 g3 f3 s3
        go_wp2_with (first | (with_reducible refine wpL_stop (o := ⟨_, .alloc 59, _, _, _, none⟩) ?_) | (with_reducible refine wpL_stop (o := ⟨_, .load 59 _, _, _, _, none⟩) ?_) | (with_reducible refine wpL_stop (o := ⟨_, .store 59 _ _, _, _, _, none⟩) ?_) | (with_reducible refine wpL_stop (o := ⟨_, .lookup _ _ _ _, _, _, _, none⟩) ?_) | (with_reducible refine wpL_stop (o := ⟨_, .box 59 _, _, _, _, none⟩) ?_) | (with_reducible refine wpL_stop (o := ⟨_, .next _ _, _, _, _, none⟩) ?_) | (with_reducible refine wpL_stop (o := ⟨_, .range _ _, _, _, _, none⟩) ?_) | (with_reducible refine wpL_stop (o := ⟨_, .mapUpdate _ _ _ _, _, _, _, none⟩) ?_) | (with_reducible refine wpL_stop (o := ⟨_, .convert 23 9 _, _, _, _, none⟩) ?_) | (with_reducible refine wpL_stop (o := ⟨_, .convert 9 23 _, _, _, _, none⟩) ?_) | (with_reducible refine wpL_stop (o := ⟨_, .call { callee := .builtin .copy, args := _, argTypes := _ }, _, _, _, none⟩) ?_) | (with_reducible refine wpL_stop (o := ⟨_, .call { callee := .builtin .append, args := _, argTypes := _ }, _, _, _, none⟩) ?_) | (with_reducible refine wpL_stop (o := ⟨_, .call { callee := .builtin .clear, args := _, argTypes := _ }, _, _, _, none⟩) ?_) | (with_reducible refine wpL_stop (o := ⟨_, .makeSlice _ _ _, _, _, _, none⟩) ?_) | (with_reducible refine wpL_stop (o := ⟨_, .makeMap _ _, _, _, _, none⟩) ?_) | (with_reducible refine wpL_stop (o := ⟨_, .entry _, _, _, _, none⟩) ?_) | (with_reducible refine wpL_stop (o := ⟨_, .call { callee := .builtin .max, args := _, argTypes := _ }, _, _, _, none⟩) ?_) | (with_reducible refine wpL_stop (o := ⟨_, .call { callee := .builtin .min, args := _, argTypes := _ }, _, _, _, none⟩) ?_) | (with_reducible refine wpL_stop (o := ⟨_, .slice 59 _ none (some _) none, _, _, _, none⟩) ?_) | (with_reducible refine wpL_stop (o := ⟨_, .binOp .add 9 _ _ _, _, _, _, none⟩) ?_) | (with_reducible refine wpL_stop (o := ⟨_, .slice 9 _ _ _ _, _, _, _, none⟩) ?_))
        refine unhold (wpL_store0 rfl 59 _ _ rfl rfl w2.heap.size rfl (cellsOf (d1.now i.toNat)) rfl _ _ g3 (pageSizeOf _ (by rw [cellsOf_length, hnow])) (by simp [cellsOf_length, hnow, zeros]) (cellsOf_one _) ?_)
        intro w4 g4 f4 s4
        clear g3
        go_wp2_with (first | (with_reducible refine wpL_stop (o := ⟨_, .alloc 59, _, _, _, none⟩) ?_) | (with_reducible refine wpL_stop (o := ⟨_, .load 59 _, _, _, _, none⟩) ?_) | (with_reducible refine wpL_stop (o := ⟨_, .store 59 _ _, _, _, _, none⟩) ?_) | (with_reducible refine wpL_stop (o := ⟨_, .lookup _ _ _ _, _, _, _, none⟩) ?_) | (with_reducible refine wpL_stop (o := ⟨_, .box 59 _, _, _, _, none⟩) ?_) | (with_reducible refine wpL_stop (o := ⟨_, .next _ _, _, _, _, none⟩) ?_) | (with_reducible refine wpL_stop (o := ⟨_, .range _ _, _, _, _, none⟩) ?_) | (with_reducible refine wpL_stop (o := ⟨_, .mapUpdate _ _ _ _, _, _, _, none⟩) ?_) | (with_reducible refine wpL_stop (o := ⟨_, .convert 23 9 _, _, _, _, none⟩) ?_) | (with_reducible refine wpL_stop (o := ⟨_, .convert 9 23 _, _, _, _, none⟩) ?_) | (with_reducible refine wpL_stop (o := ⟨_, .call { callee := .builtin .copy, args := _, argTypes := _ }, _, _, _, none⟩) ?_) | (with_reducible refine wpL_stop (o := ⟨_, .call { callee := .builtin .append, args := _, argTypes := _ }, _, _, _, none⟩) ?_) | (with_reducible refine wpL_stop (o := ⟨_, .call { callee := .builtin .clear, args := _, argTypes := _ }, _, _, _, none⟩) ?_) | (with_reducible refine wpL_stop (o := ⟨_, .makeSlice _ _ _, _, _, _, none⟩) ?_) | (with_reducible refine wpL_stop (o := ⟨_, .makeMap _ _, _, _, _, none⟩) ?_) | (with_reducible refine wpL_stop (o := ⟨_, .entry _, _, _, _, none⟩) ?_) | (with_reducible refine wpL_stop (o := ⟨_, .call { callee := .builtin .max, args := _, argTypes := _ }, _, _, _, none⟩) ?_) | (with_reducible refine wpL_stop (o := ⟨_, .call { callee := .builtin .min, args := _, argTypes := _ }, _, _, _, none⟩) ?_) | (with_reducible refine wpL_stop (o := ⟨_, .slice 59 _ none (some _) none, _, _, _, none⟩) ?_) | (with_reducible refine wpL_stop (o := ⟨_, .binOp .add 9 _ _ _, _, _, _, none⟩) ?_) | (with_reducible refine wpL_stop (o := ⟨_, .slice 9 _ _ _ _, _, _, _, none⟩) ?_))
        refine unhold (wpL_copy_str rfl _ _ _ _ 5 rfl Tryz.underlying23 byteSize w2.heap.size 0 128 128 rfl s rfl _ _ g4 (by omega) (by simp [cellsOf_length, hnow, hs]) ?_)
        intro w5 g5 f5 s5
        clear g4
        have g5' : w5.heap[w2.heap.size]? = some (.cells (cellsOf s).toArray 59 (0, 0)) := by
          rw [g5, List.drop_of_length_le (by simp [cellsOf_length, hnow, hs])]; simp
        clear g5
        have F25 : Fr [] w2 w5 := f3.then (f4.then f5 (by simp)) (by simp)
        have D5 := (D1.fr0 f2).fr0 F25
        have c1 := D5.c1
        obtain ⟨l, c, hm, hP⟩ := D5.hm
        have HM := Lib.hid hm
        have G5 := Lib.hid g5'
        clear hm g5'
        go_wp2_with (first | (with_reducible refine wpL_stop (o := ⟨_, .alloc 59, _, _, _, none⟩) ?_) | (with_reducible refine wpL_stop (o := ⟨_, .load 59 _, _, _, _, none⟩) ?_) | (with_reducible refine wpL_stop (o := ⟨_, .store 59 _ _, _, _, _, none⟩) ?_) | (with_reducible refine wpL_stop (o := ⟨_, .lookup _ _ _ _, _, _, _, none⟩) ?_) | (with_reducible refine wpL_stop (o := ⟨_, .box 59 _, _, _, _, none⟩) ?_) | (with_reducible refine wpL_stop (o := ⟨_, .next _ _, _, _, _, none⟩) ?_) | (with_reducible refine wpL_stop (o := ⟨_, .range _ _, _, _, _, none⟩) ?_) | (with_reducible refine wpL_stop (o := ⟨_, .mapUpdate _ _ _ _, _, _, _, none⟩) ?_) | (with_reducible refine wpL_stop (o := ⟨_, .convert 23 9 _, _, _, _, none⟩) ?_) | (with_reducible refine wpL_stop (o := ⟨_, .convert 9 23 _, _, _, _, none⟩) ?_) | (with_reducible refine wpL_stop (o := ⟨_, .call { callee := .builtin .copy, args := _, argTypes := _ }, _, _, _, none⟩) ?_) | (with_reducible refine wpL_stop (o := ⟨_, .call { callee := .builtin .append, args := _, argTypes := _ }, _, _, _, none⟩) ?_) | (with_reducible refine wpL_stop (o := ⟨_, .call { callee := .builtin .clear, args := _, argTypes := _ }, _, _, _, none⟩) ?_) | (with_reducible refine wpL_stop (o := ⟨_, .makeSlice _ _ _, _, _, _, none⟩) ?_) | (with_reducible refine wpL_stop (o := ⟨_, .makeMap _ _, _, _, _, none⟩) ?_) | (with_reducible refine wpL_stop (o := ⟨_, .entry _, _, _, _, none⟩) ?_) | (with_reducible refine wpL_stop (o := ⟨_, .call { callee := .builtin .max, args := _, argTypes := _ }, _, _, _, none⟩) ?_) | (with_reducible refine wpL_stop (o := ⟨_, .call { callee := .builtin .min, args := _, argTypes := _ }, _, _, _, none⟩) ?_) | (with_reducible refine wpL_stop (o := ⟨_, .slice 59 _ none (some _) none, _, _, _, none⟩) ?_) | (with_reducible refine wpL_stop (o := ⟨_, .binOp .add 9 _ _ _, _, _, _, none⟩) ?_) | (with_reducible refine wpL_stop (o := ⟨_, .slice 9 _ _ _ _, _, _, _, none⟩) ?_))
        refine wp_region_still_tail 6 (by kernel_rfl) (by kernel_rfl) ?_
        simp only [List.take_succ_cons, List.take_zero, List.drop_succ_cons, List.drop_zero]
        iterate 5 still_step
        refine wpStill_load rfl 59 _ rfl w2.heap.size 0 rfl _ _ (cellsOf s) _ _ G5.out Tryz.underlying59 rfl (pageSizeOf _ (by rw [cellsOf_length, hs])) (by intro j hj; simp) ?_
        refine wpStill_nil ?_
        refine wpL_mapUpdate_pend rfl 53 _ _ _ rfl rfl 3 59 Tryz.underlying53 Tryz.underlying3 L.mb i.toNat s rfl ?_ rfl l c d1.pg HM.out hP (by omega) ?_
        · show Value.int .i64 i = _
          rw [Int.toNat_of_nonneg hi.1]
        intro w6 l' c' hm' hP' f6 s6
        have D6 := D5.setPend hs (show Fr [L.mb] w5 w6 from ⟨f6.os, f6.tape, f6.output, f6.size, f6.block⟩) ⟨l', c', hm', hP'⟩
        clear c1
        go_wp2_with (first | (with_reducible refine wpL_stop (o := ⟨_, .alloc 59, _, _, _, none⟩) ?_) | (with_reducible refine wpL_stop (o := ⟨_, .load 59 _, _, _, _, none⟩) ?_) | (with_reducible refine wpL_stop (o := ⟨_, .store 59 _ _, _, _, _, none⟩) ?_) | (with_reducible refine wpL_stop (o := ⟨_, .lookup _ _ _ _, _, _, _, none⟩) ?_) | (with_reducible refine wpL_stop (o := ⟨_, .box 59 _, _, _, _, none⟩) ?_) | (with_reducible refine wpL_stop (o := ⟨_, .next _ _, _, _, _, none⟩) ?_) | (with_reducible refine wpL_stop (o := ⟨_, .range _ _, _, _, _, none⟩) ?_) | (with_reducible refine wpL_stop (o := ⟨_, .mapUpdate _ _ _ _, _, _, _, none⟩) ?_) | (with_reducible refine wpL_stop (o := ⟨_, .convert 23 9 _, _, _, _, none⟩) ?_) | (with_reducible refine wpL_stop (o := ⟨_, .convert 9 23 _, _, _, _, none⟩) ?_) | (with_reducible refine wpL_stop (o := ⟨_, .call { callee := .builtin .copy, args := _, argTypes := _ }, _, _, _, none⟩) ?_) | (with_reducible refine wpL_stop (o := ⟨_, .call { callee := .builtin .append, args := _, argTypes := _ }, _, _, _, none⟩) ?_) | (with_reducible refine wpL_stop (o := ⟨_, .call { callee := .builtin .clear, args := _, argTypes := _ }, _, _, _, none⟩) ?_) | (with_reducible refine wpL_stop (o := ⟨_, .makeSlice _ _ _, _, _, _, none⟩) ?_) | (with_reducible refine wpL_stop (o := ⟨_, .makeMap _ _, _, _, _, none⟩) ?_) | (with_reducible refine wpL_stop (o := ⟨_, .entry _, _, _, _, none⟩) ?_) | (with_reducible refine wpL_stop (o := ⟨_, .call { callee := .builtin .max, args := _, argTypes := _ }, _, _, _, none⟩) ?_) | (with_reducible refine wpL_stop (o := ⟨_, .call { callee := .builtin .min, args := _, argTypes := _ }, _, _, _, none⟩) ?_) | (with_reducible refine wpL_stop (o := ⟨_, .slice 59 _ none (some _) none, _, _, _, none⟩) ?_) | (with_reducible refine wpL_stop (o := ⟨_, .binOp .add 9 _ _ _, _, _, _, none⟩) ?_) | (with_reducible refine wpL_stop (o := ⟨_, .slice 9 _ _ _ _, _, _, _, none⟩) ?_))
        go_ret
        refine ⟨rfl, by rw [← hw1.out]; exact D6, ?_⟩
        have F : Fr L.all w w5 := (f1.mono (by simp [DL.all])).trans ((f2.trans F25).any)
        exact F.then (show Fr [L.mb] w5 w6 from ⟨f6.os, f6.tape, f6.output, f6.size, f6.block⟩) (by simp [DL.all])
      · have R : d.write i s = d.step := by simp [Disk.write, hoff, his, hz]
        rw [R]
        have hz' : (d.step.1 != 0) = true := by simpa using hz
        generalize d.step = x at hs1 hz' ⊢
        clear R hz
        go_enter Tryz.func59, Tryz.ntmps59
        go_wp2_with (first | (go_at_call 89; refine (dIs_calls h i).mono ?_; rintro e w' ⟨rfl, rfl⟩) | first | (with_reducible refine wpL_stop (o := ⟨_, .alloc 59, _, _, _, none⟩) ?_) | (with_reducible refine wpL_stop (o := ⟨_, .load 59 _, _, _, _, none⟩) ?_) | (with_reducible refine wpL_stop (o := ⟨_, .store 59 _ _, _, _, _, none⟩) ?_) | (with_reducible refine wpL_stop (o := ⟨_, .lookup _ _ _ _, _, _, _, none⟩) ?_) | (with_reducible refine wpL_stop (o := ⟨_, .box 59 _, _, _, _, none⟩) ?_) | (with_reducible refine wpL_stop (o := ⟨_, .next _ _, _, _, _, none⟩) ?_) | (with_reducible refine wpL_stop (o := ⟨_, .range _ _, _, _, _, none⟩) ?_) | (with_reducible refine wpL_stop (o := ⟨_, .mapUpdate _ _ _ _, _, _, _, none⟩) ?_) | (with_reducible refine wpL_stop (o := ⟨_, .convert 23 9 _, _, _, _, none⟩) ?_) | (with_reducible refine wpL_stop (o := ⟨_, .convert 9 23 _, _, _, _, none⟩) ?_) | (with_reducible refine wpL_stop (o := ⟨_, .call { callee := .builtin .copy, args := _, argTypes := _ }, _, _, _, none⟩) ?_) | (with_reducible refine wpL_stop (o := ⟨_, .call { callee := .builtin .append, args := _, argTypes := _ }, _, _, _, none⟩) ?_) | (with_reducible refine wpL_stop (o := ⟨_, .call { callee := .builtin .clear, args := _, argTypes := _ }, _, _, _, none⟩) ?_) | (with_reducible refine wpL_stop (o := ⟨_, .makeSlice _ _ _, _, _, _, none⟩) ?_) | (with_reducible refine wpL_stop (o := ⟨_, .makeMap _ _, _, _, _, none⟩) ?_) | (with_reducible refine wpL_stop (o := ⟨_, .entry _, _, _, _, none⟩) ?_) | (with_reducible refine wpL_stop (o := ⟨_, .call { callee := .builtin .max, args := _, argTypes := _ }, _, _, _, none⟩) ?_) | (with_reducible refine wpL_stop (o := ⟨_, .call { callee := .builtin .min, args := _, argTypes := _ }, _, _, _, none⟩) ?_) | (with_reducible refine wpL_stop (o := ⟨_, .slice 59 _ none (some _) none, _, _, _, none⟩) ?_) | (with_reducible refine wpL_stop (o := ⟨_, .binOp .add 9 _ _ _, _, _, _, none⟩) ?_) | (with_reducible refine wpL_stop (o := ⟨_, .slice 9 _ _ _ _, _, _, _, none⟩) ?_))
        refine hs1.mono ?_
        rintro e w1 ⟨rfl, D1, f1, _⟩
        go_wp2
        go_ret
        exact ⟨rfl, D1, f1.mono (by simp [DL.all])⟩
end
end Go.Proofs.YtcnhlemenpgkbaaGreatDoor
