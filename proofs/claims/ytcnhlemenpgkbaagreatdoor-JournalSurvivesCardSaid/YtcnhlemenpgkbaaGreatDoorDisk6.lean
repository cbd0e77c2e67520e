/- The disk: the pending pages, in order. -/
import Derived.Test.YtcnhlemenpgkbaaGreatDoorDisk5
namespace Go.Proofs.YtcnhlemenpgkbaaGreatDoor
set_option linter.unusedSimpArgs false
set_option linter.unusedVariables false
set_option linter.unnecessarySimpa false
open Go.RowKit M

theorem mem_pendingFrom : ∀ (pg : List Pg) (k : Nat) (n : Int), n ∈ pendingFrom k pg ↔ ∃ (i : Nat) (b : Bytes), n = k + i ∧ (pg[i]?).bind Pg.new = some b
  | [], k, n => by simp [pendingFrom]
  | p :: r, k, n => by
    have ih := mem_pendingFrom r (k + 1) n
    unfold pendingFrom
    constructor
    · intro h
      split at h
      · rename_i hs
        rcases List.mem_cons.1 h with rfl | h
        · obtain ⟨b, hb⟩ := Option.isSome_iff_exists.1 hs
          exact ⟨0, b, by simp, by simpa using hb⟩
        · obtain ⟨i, b, h1, h2⟩ := ih.1 h
          exact ⟨i + 1, b, by omega, by simpa using h2⟩
      · obtain ⟨i, b, h1, h2⟩ := ih.1 h
        exact ⟨i + 1, b, by omega, by simpa using h2⟩
    · rintro ⟨i, b, h1, h2⟩
      cases i with
      | zero =>
        have : p.new = some b := by simpa using h2
        rw [if_pos (by simp [this])]
        simp [h1]
      | succ i =>
        have : n ∈ pendingFrom (k + 1) r := ih.2 ⟨i, b, by omega, by simpa using h2⟩
        split
        · simp [this]
        · exact this

theorem pendingFrom_ge : ∀ (pg : List Pg) (k : Nat), ∀ n ∈ pendingFrom k pg, (k : Int) ≤ n := by
  intro pg k n hn
  obtain ⟨i, b, h, _⟩ := (mem_pendingFrom pg k n).1 hn
  omega

theorem pendingFrom_sorted : ∀ (pg : List Pg) (k : Nat), (pendingFrom k pg).Pairwise (· < ·)
  | [], _ => by simp [pendingFrom]
  | p :: r, k => by
    unfold pendingFrom
    split
    · rw [List.pairwise_cons]
      refine ⟨fun n hn => ?_, pendingFrom_sorted r (k + 1)⟩
      have := pendingFrom_ge r (k + 1) n hn
      omega
    · exact pendingFrom_sorted r (k + 1)

theorem pendingFrom_len : ∀ (pg : List Pg) (k : Nat), (pendingFrom k pg).length ≤ pg.length
  | [], _ => by simp [pendingFrom]
  | p :: r, k => by
    have := pendingFrom_len r (k + 1)
    unfold pendingFrom
    split <;> simp <;> omega

/-- All keys of the map, sorted: the pending pages in order. -/
theorem sorted_pending {l done : List Ent} {c : Nat} {pg : List Pg} (hP : Pends l c pg) (hsub : ∀ x ∈ done, x ∈ l) (hall : ∀ x ∈ l, x ∈ done) (hnd : (done.map Ent.i).Nodup) :
    ((done.map fun x => (x.i : Int)).mergeSort fun x y => decide (x ≤ y)) = pendingFrom 0 pg := by
  refine List.Perm.eq_of_pairwise (le := fun a b => a ≤ b) (fun a b _ _ h1 h2 => by omega) ?_ ?_ ?_
  · have := List.pairwise_mergeSort (le := fun x y : Int => decide (x ≤ y)) (by intro a b c; simp; omega) (by intro a b; simp; omega) (done.map fun x => (x.i : Int))
    simpa using this
  · exact (pendingFrom_sorted pg 0).imp (by intro a b h; omega)
  · refine (List.mergeSort_perm _ _).trans ?_
    rw [List.perm_ext_iff_of_nodup]
    · intro n
      rw [mem_pendingFrom]
      constructor
      · intro h
        obtain ⟨x, hx, rfl⟩ := List.mem_map.1 h
        exact ⟨x.i, x.b, by simp, (hP.fits x.i x.b).1 ⟨x, hsub x hx, rfl, rfl⟩⟩
      · rintro ⟨i, b, h1, h2⟩
        obtain ⟨x, hx, hxi, _⟩ := (hP.fits i b).2 h2
        exact List.mem_map.2 ⟨x, hall x hx, by simp [h1, hxi]⟩
    · have : (done.map fun x => (x.i : Int)) = (done.map Ent.i).map (fun n : Nat => (n : Int)) := by simp
      rw [this]
      refine List.pairwise_map.2 (List.Pairwise.imp ?_ hnd)
      intro a b h
      omega
    · exact (pendingFrom_sorted pg 0).imp (by intro a b h; omega)

theorem ent_key_inj {l : List Ent} {c : Nat} {pg : List Pg} (hP : Pends l c pg) {x y : Ent} (hx : x ∈ l) (hy : y ∈ l) (e : x.i = y.i) : x = y := by
  obtain ⟨i, hi, rfl⟩ := List.mem_iff_getElem.1 hx
  obtain ⟨j, hj, rfl⟩ := List.mem_iff_getElem.1 hy
  have := nodup_get_eq hP.keys (i := i) (j := j) (by simpa using hi) (by simpa using hj) (by simpa using e)
  subst this; rfl
theorem ent_born_inj {l : List Ent} {c : Nat} {pg : List Pg} (hP : Pends l c pg) {x y : Ent} (hx : x ∈ l) (hy : y ∈ l) (e : x.born = y.born) : x = y := by
  obtain ⟨i, hi, rfl⟩ := List.mem_iff_getElem.1 hx
  obtain ⟨j, hj, rfl⟩ := List.mem_iff_getElem.1 hy
  have := nodup_get_eq hP.borns (i := i) (j := j) (by simpa using hi) (by simpa using hj) (by simpa using e)
  subst this; rfl

theorem nodup_lt_len : ∀ (n : Nat) (l : List Nat), l.Nodup → (∀ x ∈ l, x < n) → l.length ≤ n
  | 0, l, _, h => by
    cases l with
    | nil => simp
    | cons x r => exact absurd (h x (by simp)) (by omega)
  | n + 1, l, hd, h => by
    have hd' := hd.erase n
    have ih := nodup_lt_len n (l.erase n) hd' (fun x hx => by
      have hx' := (List.Nodup.mem_erase_iff hd).1 hx
      have := h x hx'.2
      have := hx'.1
      omega)
    by_cases hn : n ∈ l
    · rw [List.length_erase_of_mem hn] at ih
      omega
    · rw [List.erase_of_not_mem hn] at ih
      omega

theorem Pends.few {l : List Ent} {c : Nat} {pg : List Pg} (hP : Pends l c pg) {done : List Ent} (hsub : ∀ x ∈ done, x ∈ l) (hnd : (done.map Ent.i).Nodup) : done.length ≤ pg.length := by
  have h1 : ∀ n ∈ done.map Ent.i, n < pg.length := by
    intro n hn
    obtain ⟨x, hx, rfl⟩ := List.mem_map.1 hn
    have := (hP.fits x.i x.b).1 ⟨x, hsub x hx, rfl, rfl⟩
    cases hp : pg[x.i]? with
    | none => simp [hp] at this
    | some p => exact (List.getElem?_eq_some_iff.1 hp).1
  simpa using nodup_lt_len pg.length _ hnd h1

section
variable {w : World} {L : DL} {d : Disk}

set_option maxRecDepth 100000 in
theorem dPending_calls (h : DiskAt w L d) : Calls Tryz.prog 21 #[Dp L] w fun e w' =>
    ∃ v, e = .returned v ∧ w'.ownsRow w.heap.size 3 1 v d.pending.length (intv d.pending) ∧ Fr [] w w' := by
  have c1 := h.c1
  have few := h.ok.few
  go_enter Tryz.func21, Tryz.ntmps21
  go_wp2_with (first | (with_reducible refine wpL_stop (o := ⟨_, .alloc 59, _, _, _, none⟩) ?_) | (with_reducible refine wpL_stop (o := ⟨_, .load 59 _, _, _, _, none⟩) ?_) | (with_reducible refine wpL_stop (o := ⟨_, .store 59 _ _, _, _, _, none⟩) ?_) | (with_reducible refine wpL_stop (o := ⟨_, .lookup _ _ _ _, _, _, _, none⟩) ?_) | (with_reducible refine wpL_stop (o := ⟨_, .box 59 _, _, _, _, none⟩) ?_) | (with_reducible refine wpL_stop (o := ⟨_, .next _ _, _, _, _, none⟩) ?_) | (with_reducible refine wpL_stop (o := ⟨_, .range _ _, _, _, _, none⟩) ?_) | (with_reducible refine wpL_stop (o := ⟨_, .mapUpdate _ _ _ _, _, _, _, none⟩) ?_) | (with_reducible refine wpL_stop (o := ⟨_, .convert 23 9 _, _, _, _, none⟩) ?_) | (with_reducible refine wpL_stop (o := ⟨_, .convert 9 23 _, _, _, _, none⟩) ?_) | (with_reducible refine wpL_stop (o := ⟨_, .call { callee := .builtin .copy, args := _, argTypes := _ }, _, _, _, none⟩) ?_) | (with_reducible refine wpL_stop (o := ⟨_, .call { callee := .builtin .append, args := _, argTypes := _ }, _, _, _, none⟩) ?_) | (with_reducible refine wpL_stop (o := ⟨_, .call { callee := .builtin .clear, args := _, argTypes := _ }, _, _, _, none⟩) ?_) | (with_reducible refine wpL_stop (o := ⟨_, .makeSlice _ _ _, _, _, _, none⟩) ?_) | (with_reducible refine wpL_stop (o := ⟨_, .makeMap _ _, _, _, _, none⟩) ?_) | (with_reducible refine wpL_stop (o := ⟨_, .entry _, _, _, _, none⟩) ?_) | (with_reducible refine wpL_stop (o := ⟨_, .call { callee := .builtin .max, args := _, argTypes := _ }, _, _, _, none⟩) ?_) | (with_reducible refine wpL_stop (o := ⟨_, .call { callee := .builtin .min, args := _, argTypes := _ }, _, _, _, none⟩) ?_) | (with_reducible refine wpL_stop (o := ⟨_, .slice 59 _ none (some _) none, _, _, _, none⟩) ?_) | (with_reducible refine wpL_stop (o := ⟨_, .binOp .add 9 _ _ _, _, _, _, none⟩) ?_) | (with_reducible refine wpL_stop (o := ⟨_, .slice 9 _ _ _ _, _, _, _, none⟩) ?_))
  obtain ⟨l, c, hm, hP⟩ := h.hm
  refine unhold (wpL_range rfl _ _ rfl 3 59 Tryz.underlying53 L.mb rfl _ c hm ?_)
  intro w2 g2 f2 s2
  go_wp2_with (first | (with_reducible refine wpL_stop (o := ⟨_, .alloc 59, _, _, _, none⟩) ?_) | (with_reducible refine wpL_stop (o := ⟨_, .load 59 _, _, _, _, none⟩) ?_) | (with_reducible refine wpL_stop (o := ⟨_, .store 59 _ _, _, _, _, none⟩) ?_) | (with_reducible refine wpL_stop (o := ⟨_, .lookup _ _ _ _, _, _, _, none⟩) ?_) | (with_reducible refine wpL_stop (o := ⟨_, .box 59 _, _, _, _, none⟩) ?_) | (with_reducible refine wpL_stop (o := ⟨_, .next _ _, _, _, _, none⟩) ?_) | (with_reducible refine wpL_stop (o := ⟨_, .range _ _, _, _, _, none⟩) ?_) | (with_reducible refine wpL_stop (o := ⟨_, .mapUpdate _ _ _ _, _, _, _, none⟩) ?_) | (with_reducible refine wpL_stop (o := ⟨_, .convert 23 9 _, _, _, _, none⟩) ?_) | (with_reducible refine wpL_stop (o := ⟨_, .convert 9 23 _, _, _, _, none⟩) ?_) | (with_reducible refine wpL_stop (o := ⟨_, .call { callee := .builtin .copy, args := _, argTypes := _ }, _, _, _, none⟩) ?_) | (with_reducible refine wpL_stop (o := ⟨_, .call { callee := .builtin .append, args := _, argTypes := _ }, _, _, _, none⟩) ?_) | (with_reducible refine wpL_stop (o := ⟨_, .call { callee := .builtin .clear, args := _, argTypes := _ }, _, _, _, none⟩) ?_) | (with_reducible refine wpL_stop (o := ⟨_, .makeSlice _ _ _, _, _, _, none⟩) ?_) | (with_reducible refine wpL_stop (o := ⟨_, .makeMap _ _, _, _, _, none⟩) ?_) | (with_reducible refine wpL_stop (o := ⟨_, .entry _, _, _, _, none⟩) ?_) | (with_reducible refine wpL_stop (o := ⟨_, .call { callee := .builtin .max, args := _, argTypes := _ }, _, _, _, none⟩) ?_) | (with_reducible refine wpL_stop (o := ⟨_, .call { callee := .builtin .min, args := _, argTypes := _ }, _, _, _, none⟩) ?_) | (with_reducible refine wpL_stop (o := ⟨_, .slice 59 _ none (some _) none, _, _, _, none⟩) ?_) | (with_reducible refine wpL_stop (o := ⟨_, .binOp .add 9 _ _ _, _, _, _, none⟩) ?_) | (with_reducible refine wpL_stop (o := ⟨_, .slice 9 _ _ _ _, _, _, _, none⟩) ?_))
  go_frame
  have hmL := lt_of_heap hm
  go_loopg [3] (leftN (l.map Ent.born) []) (fun kq v w' => ∃ done : List Ent, Hid (kq = leftN (l.map Ent.born) (done.map Ent.born)) ∧ Hid (w'.heap[L.mb]? = some (.map (l.map ent).toArray c)) ∧
    Hid (w'.heap[w.heap.size]? = some (.mapIter (some L.mb) c (done.map Ent.born).toArray c)) ∧ (∀ x ∈ done, x ∈ l) ∧ (done.map Ent.i).Nodup ∧ w'.ownsRow (w.heap.size + 1) 3 1 v done.length (intv (done.map fun x => (x.i : Int))) ∧ Fr [] w w' ∧ w.heap.size + 1 ≤ w'.heap.size)
  case atStart =>
    exact ⟨[], rfl, f2.heap hm (by simp), g2, by simp, by simp, ownsRow_nil' _ _ _ _, f2, by omega⟩
  case round =>
    obtain ⟨done, hk, hmr, hit, hsub, hnd, hown, fr, hsz⟩ := hrel
    go_wp2_with (first | (with_reducible refine wpL_stop (o := ⟨_, .alloc 59, _, _, _, none⟩) ?_) | (with_reducible refine wpL_stop (o := ⟨_, .load 59 _, _, _, _, none⟩) ?_) | (with_reducible refine wpL_stop (o := ⟨_, .store 59 _ _, _, _, _, none⟩) ?_) | (with_reducible refine wpL_stop (o := ⟨_, .lookup _ _ _ _, _, _, _, none⟩) ?_) | (with_reducible refine wpL_stop (o := ⟨_, .box 59 _, _, _, _, none⟩) ?_) | (with_reducible refine wpL_stop (o := ⟨_, .next _ _, _, _, _, none⟩) ?_) | (with_reducible refine wpL_stop (o := ⟨_, .range _ _, _, _, _, none⟩) ?_) | (with_reducible refine wpL_stop (o := ⟨_, .mapUpdate _ _ _ _, _, _, _, none⟩) ?_) | (with_reducible refine wpL_stop (o := ⟨_, .convert 23 9 _, _, _, _, none⟩) ?_) | (with_reducible refine wpL_stop (o := ⟨_, .convert 9 23 _, _, _, _, none⟩) ?_) | (with_reducible refine wpL_stop (o := ⟨_, .call { callee := .builtin .copy, args := _, argTypes := _ }, _, _, _, none⟩) ?_) | (with_reducible refine wpL_stop (o := ⟨_, .call { callee := .builtin .append, args := _, argTypes := _ }, _, _, _, none⟩) ?_) | (with_reducible refine wpL_stop (o := ⟨_, .call { callee := .builtin .clear, args := _, argTypes := _ }, _, _, _, none⟩) ?_) | (with_reducible refine wpL_stop (o := ⟨_, .makeSlice _ _ _, _, _, _, none⟩) ?_) | (with_reducible refine wpL_stop (o := ⟨_, .makeMap _ _, _, _, _, none⟩) ?_) | (with_reducible refine wpL_stop (o := ⟨_, .entry _, _, _, _, none⟩) ?_) | (with_reducible refine wpL_stop (o := ⟨_, .call { callee := .builtin .max, args := _, argTypes := _ }, _, _, _, none⟩) ?_) | (with_reducible refine wpL_stop (o := ⟨_, .call { callee := .builtin .min, args := _, argTypes := _ }, _, _, _, none⟩) ?_) | (with_reducible refine wpL_stop (o := ⟨_, .slice 59 _ none (some _) none, _, _, _, none⟩) ?_) | (with_reducible refine wpL_stop (o := ⟨_, .binOp .add 9 _ _ _, _, _, _, none⟩) ?_) | (with_reducible refine wpL_stop (o := ⟨_, .slice 9 _ _ _ _, _, _, _, none⟩) ?_))
    refine unhold (wpL_next rfl _ rfl w.heap.size L.mb rfl (l.map ent) c (done.map Ent.born) hmr.out hit.out ?_ ?_ ?_)
    · intro e he
      obtain ⟨x, hx, rfl⟩ := List.mem_map.1 he
      exact hP.young x hx
    · intro hall
      go_wp2_with fail
      have hallb : ∀ x ∈ l, x ∈ done := by
        intro x hx
        obtain ⟨y, hy, hyx⟩ := List.mem_map.1 (hall (ent x) (List.mem_map_of_mem hx))
        exact ent_born_inj hP (hsub y hy) hx hyx ▸ hy
      have hs := sorted_pending hP hsub hallb hnd
      have hfew := hP.few hsub hnd
      have hown' : wr.ownsRow (w.heap.size + 1) 3 1 u3 (done.map fun x => (x.i : Int)).length (intv (done.map fun x => (x.i : Int))) := by simpa using hown
      refine (sort_calls hown' (by simp; omega)).mono ?_
      rintro e w3 ⟨rfl, hown3, hF⟩
      rw [hs] at hown3
      go_wp2
      go_ret
      have hl : (done.map fun x => (x.i : Int)).length = d.pending.length := by
        have := congrArg List.length hs
        rw [List.length_mergeSort] at this
        exact this
      rw [hl] at hown3
      refine ⟨_, rfl, ?_, hF _ _ fr (by omega)⟩
      obtain ⟨o1, o2⟩ := hown3
      refine ⟨o1, ?_⟩
      rcases o2 with o2 | ⟨g, cap, cur, e1, e2, e3⟩
      · exact .inl o2
      · exact .inr ⟨g, cap, cur, e1, by omega, e3⟩
    · intro e w3 he hne git f3 s3
      obtain ⟨x, hx, rfl⟩ := List.mem_map.1 he
      have hnd3 : x.born ∉ done.map Ent.born := hne
      have hlt := leftN_lt (List.mem_map_of_mem (f := Ent.born) hx) hnd3
      have hm3 := f3.heap hmr.out (by simp; omega)
      have F3 : Fr [] w w3 := fr.then f3 (by simp)
      have hown3 := ownsRow_fr hown f3 (by simp)
      change wpList _ _ _ _ (Act.put _ _ (.tuple #[.bool true, .int .i64 x.i, .agg (cellsOf x.b).toArray])) _
      go_wp2_with (first | (with_reducible refine wpL_stop (o := ⟨_, .alloc 59, _, _, _, none⟩) ?_) | (with_reducible refine wpL_stop (o := ⟨_, .load 59 _, _, _, _, none⟩) ?_) | (with_reducible refine wpL_stop (o := ⟨_, .store 59 _ _, _, _, _, none⟩) ?_) | (with_reducible refine wpL_stop (o := ⟨_, .lookup _ _ _ _, _, _, _, none⟩) ?_) | (with_reducible refine wpL_stop (o := ⟨_, .box 59 _, _, _, _, none⟩) ?_) | (with_reducible refine wpL_stop (o := ⟨_, .next _ _, _, _, _, none⟩) ?_) | (with_reducible refine wpL_stop (o := ⟨_, .range _ _, _, _, _, none⟩) ?_) | (with_reducible refine wpL_stop (o := ⟨_, .mapUpdate _ _ _ _, _, _, _, none⟩) ?_) | (with_reducible refine wpL_stop (o := ⟨_, .convert 23 9 _, _, _, _, none⟩) ?_) | (with_reducible refine wpL_stop (o := ⟨_, .convert 9 23 _, _, _, _, none⟩) ?_) | (with_reducible refine wpL_stop (o := ⟨_, .call { callee := .builtin .copy, args := _, argTypes := _ }, _, _, _, none⟩) ?_) | (with_reducible refine wpL_stop (o := ⟨_, .call { callee := .builtin .append, args := _, argTypes := _ }, _, _, _, none⟩) ?_) | (with_reducible refine wpL_stop (o := ⟨_, .call { callee := .builtin .clear, args := _, argTypes := _ }, _, _, _, none⟩) ?_) | (with_reducible refine wpL_stop (o := ⟨_, .makeSlice _ _ _, _, _, _, none⟩) ?_) | (with_reducible refine wpL_stop (o := ⟨_, .makeMap _ _, _, _, _, none⟩) ?_) | (with_reducible refine wpL_stop (o := ⟨_, .entry _, _, _, _, none⟩) ?_) | (with_reducible refine wpL_stop (o := ⟨_, .call { callee := .builtin .max, args := _, argTypes := _ }, _, _, _, none⟩) ?_) | (with_reducible refine wpL_stop (o := ⟨_, .call { callee := .builtin .min, args := _, argTypes := _ }, _, _, _, none⟩) ?_) | (with_reducible refine wpL_stop (o := ⟨_, .slice 59 _ none (some _) none, _, _, _, none⟩) ?_) | (with_reducible refine wpL_stop (o := ⟨_, .binOp .add 9 _ _ _, _, _, _, none⟩) ?_) | (with_reducible refine wpL_stop (o := ⟨_, .slice 9 _ _ _ _, _, _, _, none⟩) ?_))
      refine unhold (wpL_entry rfl _ rfl w.heap.size L.mb rfl (l.map ent) c (done.map Ent.born) (ent x) hm3 git he (by simpa [ent, Function.comp_def] using hP.borns) ?_)
      change wpList _ _ _ _ (Act.put _ _ (.tuple #[.int .i64 x.i, .agg (cellsOf x.b).toArray])) _
      have H3 := Lib.hid hm3
      have HG := Lib.hid git
      clear hm3 git
      go_wp2_with (first | (with_reducible refine wpL_stop (o := ⟨_, .alloc 59, _, _, _, none⟩) ?_) | (with_reducible refine wpL_stop (o := ⟨_, .load 59 _, _, _, _, none⟩) ?_) | (with_reducible refine wpL_stop (o := ⟨_, .store 59 _ _, _, _, _, none⟩) ?_) | (with_reducible refine wpL_stop (o := ⟨_, .lookup _ _ _ _, _, _, _, none⟩) ?_) | (with_reducible refine wpL_stop (o := ⟨_, .box 59 _, _, _, _, none⟩) ?_) | (with_reducible refine wpL_stop (o := ⟨_, .next _ _, _, _, _, none⟩) ?_) | (with_reducible refine wpL_stop (o := ⟨_, .range _ _, _, _, _, none⟩) ?_) | (with_reducible refine wpL_stop (o := ⟨_, .mapUpdate _ _ _ _, _, _, _, none⟩) ?_) | (with_reducible refine wpL_stop (o := ⟨_, .convert 23 9 _, _, _, _, none⟩) ?_) | (with_reducible refine wpL_stop (o := ⟨_, .convert 9 23 _, _, _, _, none⟩) ?_) | (with_reducible refine wpL_stop (o := ⟨_, .call { callee := .builtin .copy, args := _, argTypes := _ }, _, _, _, none⟩) ?_) | (with_reducible refine wpL_stop (o := ⟨_, .call { callee := .builtin .append, args := _, argTypes := _ }, _, _, _, none⟩) ?_) | (with_reducible refine wpL_stop (o := ⟨_, .call { callee := .builtin .clear, args := _, argTypes := _ }, _, _, _, none⟩) ?_) | (with_reducible refine wpL_stop (o := ⟨_, .makeSlice _ _ _, _, _, _, none⟩) ?_) | (with_reducible refine wpL_stop (o := ⟨_, .makeMap _ _, _, _, _, none⟩) ?_) | (with_reducible refine wpL_stop (o := ⟨_, .entry _, _, _, _, none⟩) ?_) | (with_reducible refine wpL_stop (o := ⟨_, .call { callee := .builtin .max, args := _, argTypes := _ }, _, _, _, none⟩) ?_) | (with_reducible refine wpL_stop (o := ⟨_, .call { callee := .builtin .min, args := _, argTypes := _ }, _, _, _, none⟩) ?_) | (with_reducible refine wpL_stop (o := ⟨_, .slice 59 _ none (some _) none, _, _, _, none⟩) ?_) | (with_reducible refine wpL_stop (o := ⟨_, .binOp .add 9 _ _ _, _, _, _, none⟩) ?_) | (with_reducible refine wpL_stop (o := ⟨_, .slice 9 _ _ _ _, _, _, _, none⟩) ?_))
      have hx' : x.i ∉ done.map Ent.i := by
        intro hmem
        obtain ⟨y, hy, hyi⟩ := List.mem_map.1 hmem
        have : y = x := ent_key_inj hP (hsub y hy) hx hyi
        exact hnd3 (List.mem_map.2 ⟨y, hy, by rw [this]⟩)
      have hfew := hP.few hsub hnd
      have f35 : Fr [] w3 (w3.alloc (.cells #[.int .i64 x.i] 3)) := (Fr.refl _ _).alloc _
      have hg6 := heap_alloc_new w3 (.cells #[.int .i64 x.i] 3)
      rw [s3] at hg6
      have hown5 := ownsRow_fr hown3 f35 (by simp)
      have sz5 := f35.size
      generalize w3.alloc (.cells #[.int .i64 x.i] 3) = w6 at f35 hg6 hown5 sz5 ⊢
      refine unhold (wpL_append rfl _ _ 24 rfl (w.heap.size + 1) 3 _ 1 8 Tryz.underlying24 intInfo rfl (by decide) (by decide) _ done.length _ rfl hown5 _ 1 [.int .i64 x.i] rfl rfl _ _ hg6 (by simp [Value.oneCell']) (by omega) (by omega) ?_)
      intro v' w7 hown7 hF7 hgr7 hsz7
      go_wp2_with (first | (with_reducible refine wpL_stop (o := ⟨_, .alloc 59, _, _, _, none⟩) ?_) | (with_reducible refine wpL_stop (o := ⟨_, .load 59 _, _, _, _, none⟩) ?_) | (with_reducible refine wpL_stop (o := ⟨_, .store 59 _ _, _, _, _, none⟩) ?_) | (with_reducible refine wpL_stop (o := ⟨_, .lookup _ _ _ _, _, _, _, none⟩) ?_) | (with_reducible refine wpL_stop (o := ⟨_, .box 59 _, _, _, _, none⟩) ?_) | (with_reducible refine wpL_stop (o := ⟨_, .next _ _, _, _, _, none⟩) ?_) | (with_reducible refine wpL_stop (o := ⟨_, .range _ _, _, _, _, none⟩) ?_) | (with_reducible refine wpL_stop (o := ⟨_, .mapUpdate _ _ _ _, _, _, _, none⟩) ?_) | (with_reducible refine wpL_stop (o := ⟨_, .convert 23 9 _, _, _, _, none⟩) ?_) | (with_reducible refine wpL_stop (o := ⟨_, .convert 9 23 _, _, _, _, none⟩) ?_) | (with_reducible refine wpL_stop (o := ⟨_, .call { callee := .builtin .copy, args := _, argTypes := _ }, _, _, _, none⟩) ?_) | (with_reducible refine wpL_stop (o := ⟨_, .call { callee := .builtin .append, args := _, argTypes := _ }, _, _, _, none⟩) ?_) | (with_reducible refine wpL_stop (o := ⟨_, .call { callee := .builtin .clear, args := _, argTypes := _ }, _, _, _, none⟩) ?_) | (with_reducible refine wpL_stop (o := ⟨_, .makeSlice _ _ _, _, _, _, none⟩) ?_) | (with_reducible refine wpL_stop (o := ⟨_, .makeMap _ _, _, _, _, none⟩) ?_) | (with_reducible refine wpL_stop (o := ⟨_, .entry _, _, _, _, none⟩) ?_) | (with_reducible refine wpL_stop (o := ⟨_, .call { callee := .builtin .max, args := _, argTypes := _ }, _, _, _, none⟩) ?_) | (with_reducible refine wpL_stop (o := ⟨_, .call { callee := .builtin .min, args := _, argTypes := _ }, _, _, _, none⟩) ?_) | (with_reducible refine wpL_stop (o := ⟨_, .slice 59 _ none (some _) none, _, _, _, none⟩) ?_) | (with_reducible refine wpL_stop (o := ⟨_, .binOp .add 9 _ _ _, _, _, _, none⟩) ?_) | (with_reducible refine wpL_stop (o := ⟨_, .slice 9 _ _ _ _, _, _, _, none⟩) ?_))
      go_roundg (leftN (l.map Ent.born) ((done ++ [x]).map Ent.born))
      case measure => rw [hk.out]; simpa using hlt
      case rel =>
        have hb : ∀ k, u3.ownBlock = some k → w.heap.size + 1 ≤ k := fun k hk => (hown.lt k hk).1
        refine ⟨done ++ [x], rfl, ?_, ?_, ?_, ?_, ?_, ?_, by omega⟩
        · exact (hgr7.block _ (by omega) (fun e => by have := hb _ e.symm; omega)).trans (f35.heap H3.out (by simp))
        · have := (hgr7.block w.heap.size (by omega) (fun e => by have := hb _ e.symm; omega)).trans (f35.heap HG.out (by simp))
          simpa [ent, Hid] using this
        · intro y hy
          rcases List.mem_append.1 hy with hy | hy
          · exact hsub y hy
          · simp at hy; subst hy; exact hx
        · rw [List.map_append, List.nodup_append]
          refine ⟨hnd, by simp, ?_⟩
          intro a ha b' hb' e
          simp at hb'
          subst hb'; subst e
          exact hx' ha
        · simpa [intv] using hown7
        · refine Fr.grown (F3.trans f35) hgr7 fun k hk => .inr ?_
          have := hb k hk
          omega
end
end Go.Proofs.YtcnhlemenpgkbaaGreatDoor
