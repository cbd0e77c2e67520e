/- A disk, its pages and its journal that a law has made; one batch written. -/
import Derived.Test.YtcnhlemenpgkbaaGreatDoorJW4
namespace Go.Proofs.YtcnhlemenpgkbaaGreatDoor
set_option linter.unusedSimpArgs false
set_option linter.unusedVariables false
set_option linter.unnecessarySimpa false
open Go.RowKit M

structure JSt (w : World) (L : DL) (pl : PL) (d : Disk) (p : M.Pages) (jl : JL) (j : Jrn) (A : World) : Prop where
  D : DiskAt A L d
  P : PagesAt A pl L p
  J : JrnAt A jl pl j
  fr : Fr [] w A
  nL : ∀ k ∈ L.all, w.heap.size ≤ k
  nP : ∀ k ∈ pl.all, w.heap.size ≤ k ∧ k ∉ L.all
  nJ : ∀ k ∈ jl.all, w.heap.size ≤ k ∧ k ∉ L.all ∧ k ∉ pl.all

section
variable {w A B : World} {L : DL} {pl : PL} {d : Disk} {p : M.Pages} {jl : JL} {j : Jrn}

theorem JSt.fr0 (h : JSt w L pl d p jl j A) (f : Fr [] A B) : JSt w L pl d p jl j B := ⟨h.D.fr0 f, h.P.fr0 f, h.J.fr0 f, h.fr.trans f, h.nL, h.nP, h.nJ⟩
theorem JSt.frS {S : List Nat} (h : JSt w L pl d p jl j A) (f : Fr S A B) (hS : ∀ k ∈ S, w.heap.size ≤ k ∧ k ∉ L.all ∧ k ∉ pl.all ∧ k ∉ jl.all) : JSt w L pl d p jl j B :=
  ⟨h.D.fr f (fun k hk hk' => (hS k hk').2.1 hk), h.P.fr f (fun k hk hk' => (hS k hk').2.2.1 hk), h.J.fr f (fun k hk hk' => (hS k hk').2.2.2 hk), h.fr.then f (fun k hk => .inr (hS k hk).1), h.nL, h.nP, h.nJ⟩
theorem JSt.size (h : JSt w L pl d p jl j A) : w.heap.size ≤ A.heap.size := h.fr.size
theorem JSt.lt (h : JSt w L pl d p jl j A) : (∀ k ∈ L.all, k < A.heap.size) ∧ (∀ k ∈ pl.all, k < A.heap.size) ∧ ∀ k ∈ jl.all, k < A.heap.size := ⟨h.D.lt, h.P.lt, h.J.lt⟩
/-- Blocks that were made later. -/
theorem JSt.new {S : List Nat} (h : JSt w L pl d p jl j A) (hS : ∀ k ∈ S, A.heap.size ≤ k) : ∀ k ∈ S, w.heap.size ≤ k ∧ k ∉ L.all ∧ k ∉ pl.all ∧ k ∉ jl.all := fun k hk => by
  have h1 := hS k hk
  have h2 := h.size
  obtain ⟨l1, l2, l3⟩ := h.lt
  exact ⟨by omega, fun h' => by have := l1 k h'; omega, fun h' => by have := l2 k h'; omega, fun h' => by have := l3 k h'; omega⟩

/-- The blocks that a call on the journal may turn. -/
def jall (L : DL) (pl : PL) (jl : JL) : List Nat := jl.b :: pl.b :: L.all
theorem JSt.allLt (h : JSt w L pl d p jl j A) : ∀ k ∈ jall L pl jl, k < A.heap.size := by
  obtain ⟨l1, l2, l3⟩ := h.lt
  intro k hk
  simp only [jall, List.mem_cons] at hk
  rcases hk with rfl | rfl | hk
  · exact l3 _ (by simp [JL.all])
  · exact l2 _ (by simp [PL.all])
  · exact l1 k hk
theorem JSt.allNew (h : JSt w L pl d p jl j A) : ∀ k ∈ jall L pl jl, w.heap.size ≤ k := by
  intro k hk
  simp only [jall, List.mem_cons] at hk
  rcases hk with rfl | rfl | hk
  · exact (h.nJ _ (by simp [JL.all])).1
  · exact (h.nP _ (by simp [PL.all])).1
  · exact h.nL k hk

theorem JSt.write (h : JSt w L pl d p jl j A) {v : Value} {l : List PW} (hl : PwAt A v l) (h1 : ∀ x ∈ l, x.2.length ≤ 1000) (h2 : l.length ≤ 100000) : Calls Tryz.prog 50 #[Pp pl, v] A fun e B =>
    e = .returned (.int .i64 (give d p l).1) ∧ JSt w L pl (give d p l).2.1 (give d p l).2.2 jl j B ∧ Fr (pl.b :: L.all) A B := by
  refine (pWrite_calls h.D h.P (fun k hk => (h.nP k hk).2) hl h1 h2).mono ?_
  rintro e B ⟨rfl, hD, hP, f⟩
  refine ⟨rfl, ⟨hD, hP, h.J.fr f (fun k hk hk' => ?_), h.fr.then f (fun k hk => .inr ?_), h.nL, h.nP, h.nJ⟩, f⟩
  · have := h.nJ k hk
    rcases List.mem_cons.1 hk' with rfl | hk'
    · exact this.2.2 (by simp [PL.all])
    · exact this.2.1 hk'
  · rcases List.mem_cons.1 hk with rfl | hk
    · exact (h.nP _ (by simp [PL.all])).1
    · exact h.nL k hk

theorem JrnAt.close (h : JrnAt A jl pl j) (b : Bool) : JrnAt (A.setCell ⟨jl.b, 5, none⟩ (.bool b)) jl pl { j with closed := b } := by
  obtain ⟨rv, h1, h2, h3⟩ := h.at_
  refine ⟨h.few, ⟨rv, ?_, ?_, h3⟩, h.ne⟩
  · have := heap_setCell_same' A _ 5 _ _ (.bool b) h1
    exact this
  · refine ownsRow_fr' h2 ((Fr.refl [jl.b] A).setCell (.inl (by simp)) _) (fun k hk e => ?_)
    have e' : k = jl.b := by simpa using e
    exact h.ne (by rw [← h3, hk, e'])
theorem JSt.close (h : JSt w L pl d p jl j A) (b : Bool) : JSt w L pl d p jl { j with closed := b } (A.setCell ⟨jl.b, 5, none⟩ (.bool b)) := by
  have f : Fr [jl.b] A (A.setCell ⟨jl.b, 5, none⟩ (.bool b)) := (Fr.refl _ _).setCell (.inl (by simp)) _
  have hj := h.nJ jl.b (by simp [JL.all])
  have e1 : ∀ k, k ∈ [jl.b] → k = jl.b := fun k hk => by simpa using hk
  exact ⟨h.D.fr f (fun k hk e => hj.2.1 (e1 k e ▸ hk)), h.P.fr f (fun k hk e => hj.2.2 (e1 k e ▸ hk)), h.J.close b, h.fr.then f (fun k hk => .inr (e1 k hk ▸ hj.1)), h.nL, h.nP, h.nJ⟩

set_option maxRecDepth 100000 in
theorem jWrite1_calls {x : Nat} (h : JSt w L pl d p jl j A) (hcl : j.closed = false) (hx : A.heap[x]? = some (.cells #[Jp jl] 27 (0, 0))) (hxn : x ∉ pl.b :: L.all) {v : Value} {l : List PW} (hl : PwAt A v l) (h1 : ∀ x ∈ l, x.2.length ≤ 1000) (h2 : l.length ≤ 100000) :
    Calls Tryz.prog 49 #[v, .pointer (some ⟨x, 0, none⟩)] A fun e B =>
      e = .returned (.int .i64 (give d p l).1) ∧ JSt w L pl (give d p l).2.1 (give d p l).2.2 jl { j with closed := (give d p l).1 != 0 } B ∧ Fr (jall L pl jl) A B := by
  have hw := h.write hl h1 h2
  have c0 := h.J.c0
  have cx : A.cell? ⟨x, 0, none⟩ = some (Jp jl) := blk_cell hx 0 rfl
  generalize give d p l = r at hw ⊢
  obtain ⟨vp, vc, rfl⟩ := ownsRow_len hl
  go_enter Tryz.func49, Tryz.ntmps49
  go_wp2_with fail
  refine hw.mono ?_
  rintro e B ⟨rfl, hS, f⟩
  have c5 := hS.J.c5
  rw [hcl] at c5
  have f5 := hS.J.f 5
  have dx : B.cell? ⟨x, 0, none⟩ = some (Jp jl) := blk_cell (f.heap hx hxn) 0 rfl
  have hC := hS.close (r.1 != 0)
  go_wp2_with fail
  refine wp_region_still_tail 9 (by kernel_rfl) (by kernel_rfl) ?_
  simp only [List.take_succ_cons, List.take_zero, List.drop_succ_cons, List.drop_zero]
  iterate 9 still_step
  refine wpStill_nil ?_
  go_wp2_with fail
  go_ret
  refine ⟨rfl, hC.fr0 (Fr.refl [] _).drew, ?_⟩
  have f1 : Fr (jall L pl jl) A B := f.mono (fun k hk => List.mem_cons_of_mem _ hk)
  exact (f1.setCell (.inl (by simp [jall])) _).drew
end
end Go.Proofs.YtcnhlemenpgkbaaGreatDoor
