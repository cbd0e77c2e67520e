/- The journal's write: the batches of a stream. -/
import Derived.Test.YtcnhlemenpgkbaaGreatDoorJW5
import Derived.Laws.EntriesVeiled
namespace Go.Proofs.YtcnhlemenpgkbaaGreatDoor
set_option linter.unusedSimpArgs false
set_option linter.unusedVariables false
set_option linter.unnecessarySimpa false
open Go.RowKit M
attribute [local go_sem] Oper.semAt_some

/-- Between two batches: the disk, the pages; what waits. -/
structure Wst where
  d : Disk
  p : M.Pages
  wt : List PW
def jgo (hd : PW) : Wst → List PW → Int × Disk × M.Pages
  | s, [] => give s.d s.p (hd :: s.wt)
  | s, x :: xs => if s.wt.length = 15 then (if (give s.d s.p s.wt).1 ≠ 0 then give s.d s.p s.wt else jgo hd ⟨(give s.d s.p s.wt).2.1, (give s.d s.p s.wt).2.2, [x]⟩ xs) else jgo hd ⟨s.d, s.p, s.wt ++ [x]⟩ xs

theorem pwInfoJ : (Tryz.prog.info? 108).map (fun i => (i.zero, i.size, i.bytes)) = some (some (.agg #[.int .i64 0, .string ⟨#[]⟩]), 2, 24) := by kernel_rfl

/-- Between two rounds: what lies where. -/
structure WrH (w A : World) (L : DL) (pl : PL) (jl : JL) (j : Jrn) (bk a : Nat) (s : Bytes) (d : Disk) (p : M.Pages) (v : Value) (W : World) : Prop where
  low : (∀ k ∈ L.all, k < A.heap.size) ∧ (∀ k ∈ pl.all, k < A.heap.size) ∧ ∀ k ∈ jl.all, k < A.heap.size
  st : JSt w L pl d p jl j W
  lwA : w.heap.size ≤ A.heap.size
  fr : Fr (jall L pl jl) A W
  c0 : W.heap[A.heap.size]? = some (.cells #[Jp jl] 27 (0, 0))
  c1 : W.heap[A.heap.size + 1]? = some (.cells #[.int .i64 0] 34 (0, 0))
  c2 : W.heap[A.heap.size + 1 + 1]? = some (.cells #[.func (.func 49) #[] #[.pointer (some ⟨A.heap.size, 0, none⟩)]] 103 (0, 0))
  c3 : W.heap[A.heap.size + 3]? = some (.cells #[v] 102 (0, 0))
  m0 : W.heap[A.heap.size + 4]? = some (.cells #[Jp jl] 27 (0, 0))
  m1 : W.heap[A.heap.size + 4 + 1]? = some (.cells #[.int .i64 bk] 3 (0, 0))
  m2 : W.heap[A.heap.size + 4 + 2]? = some (.cells #[str s] 9 (0, 0))
  m3 : W.heap[A.heap.size + 4 + 3]? = some (.cells #[.int .i64 a] 3 (0, 0))
structure WrAt (w A : World) (L : DL) (pl : PL) (jl : JL) (j : Jrn) (bk a : Nat) (s : Bytes) (S : Wst) (v : Value) (W : World) : Prop extends WrH w A L pl jl j bk a s S.d S.p v W where
  row : W.ownsRow (A.heap.size + 8) 108 2 v S.wt.length (pwv S.wt)
  all : ∀ x ∈ S.wt, x.2.length = 116
  few : S.wt.length ≤ 15

section
variable {w A W W' : World} {L : DL} {pl : PL} {jl : JL} {j : Jrn} {bk a : Nat} {s : Bytes} {S : Wst} {v : Value} {d : Disk} {p : M.Pages}

theorem jall_low (low : (∀ k ∈ L.all, k < A.heap.size) ∧ (∀ k ∈ pl.all, k < A.heap.size) ∧ ∀ k ∈ jl.all, k < A.heap.size) : ∀ k ∈ jall L pl jl, k < A.heap.size := by
  intro k hk
  simp only [jall, List.mem_cons] at hk
  rcases hk with rfl | rfl | hk
  · exact low.2.2 _ (by simp [JL.all])
  · exact low.2.1 _ (by simp [PL.all])
  · exact low.1 k hk
theorem jst_grown {row : Option Nat} (low : (∀ k ∈ L.all, k < A.heap.size) ∧ (∀ k ∈ pl.all, k < A.heap.size) ∧ ∀ k ∈ jl.all, k < A.heap.size) (lwA : w.heap.size ≤ A.heap.size) (h : JSt w L pl d p jl j W) (hg : W.grownBy W' row) (hr : ∀ r, row = some r → A.heap.size ≤ r) : JSt w L pl d p jl j W' := by
  have f : Fr row.toList W W' := (Fr.refl row.toList W).grown hg (fun k e => .inl (by simp [e]))
  refine h.frS f (fun k hk => ?_)
  have h1 := hr k (by simpa using hk)
  exact ⟨by omega, fun h' => by have := low.1 k h'; omega, fun h' => by have := low.2.1 k h'; omega, fun h' => by have := low.2.2 k h'; omega⟩
theorem WrH.high (h : WrH w A L pl jl j bk a s d p v W) {row : Option Nat} (hg : W.grownBy W' row) (hr : ∀ r, row = some r → A.heap.size + 8 ≤ r) : WrH w A L pl jl j bk a s d p v W' := by
  have hb : ∀ {k : Nat} {o : Obj}, k < A.heap.size + 8 → W.heap[k]? = some o → W'.heap[k]? = some o := by
    intro k o hk ho
    rw [hg.block k (lt_of_heap' ho) (fun e => by have := hr k e.symm; omega)]
    exact ho
  exact ⟨h.low, jst_grown h.low h.lwA h.st hg (fun r e => by have := hr r e; omega), h.lwA, h.fr.grown hg (fun k e => .inr (by have := hr k e; omega)), hb (by omega) h.c0, hb (by omega) h.c1, hb (by omega) h.c2, hb (by omega) h.c3, hb (by omega) h.m0, hb (by omega) h.m1, hb (by omega) h.m2, hb (by omega) h.m3⟩
theorem WrAt.grown {row : Option Nat} (h : WrAt w A L pl jl j bk a s S v W) (hg : W.grownBy W' row) (hr : ∀ r, row = some r → A.heap.size + 8 ≤ r ∧ ∃ o : Obj, W.heap[r]? = some o ∧ o.isCells = false) : WrAt w A L pl jl j bk a s S v W' := by
  refine ⟨h.toWrH.high hg (fun r e => (hr r e).1), ⟨h.row.1, ?_⟩, h.all, h.few⟩
  rcases h.row.2 with h2 | ⟨g, cap, cur, hv, hb, hgg, r⟩
  · exact .inl h2
  · exact .inr ⟨g, cap, cur, hv, hb, blk_grown hg (fun r e => (hr r e).2) hgg, r⟩
/-- Blocks are turned that are none of the eight. -/
theorem WrAt.frS {T : List Nat} {j' : Jrn} (h : WrAt w A L pl jl j bk a s S v W) (hs : JSt w L pl d p jl j' W') (hf : Fr T W W') (hT : ∀ k ∈ T, k ∈ jall L pl jl) : WrAt w A L pl jl j' bk a s ⟨d, p, S.wt⟩ v W' := by
  have hl := jall_low h.low
  have hn : ∀ k, A.heap.size ≤ k → k ∉ T := fun k hk hk' => by have := hl k (hT k hk'); omega
  exact ⟨⟨h.low, hs, h.lwA, h.fr.then hf (fun k hk => .inl (hT k hk)), hf.heap h.c0 (hn _ (by omega)), hf.heap h.c1 (hn _ (by omega)), hf.heap h.c2 (hn _ (by omega)), hf.heap h.c3 (hn _ (by omega)), hf.heap h.m0 (hn _ (by omega)), hf.heap h.m1 (hn _ (by omega)), hf.heap h.m2 (hn _ (by omega)), hf.heap h.m3 (hn _ (by omega))⟩,
    ownsRow_fr' h.row hf (fun k hk => hn k (by have := (h.row.lt k hk).1; omega)), h.all, h.few⟩
theorem WrAt.grow0 (h : WrAt w A L pl jl j bk a s S v W) (hf : Fr [] W W') : WrAt w A L pl jl j bk a s S v W' := h.frS (h.st.fr0 hf) hf (by simp)
theorem WrH.setV (h : WrH w A L pl jl j bk a s d p v W) {v' : Value} {wt : List PW} (hrow : W.ownsRow (A.heap.size + 8) 108 2 v' wt.length (pwv wt)) (hall : ∀ x ∈ wt, x.2.length = 116) (hfew : wt.length ≤ 15) : WrAt w A L pl jl j bk a s ⟨d, p, wt⟩ v' (W.setCell ⟨A.heap.size + 3, 0, none⟩ v') := by
  have hf : Fr [A.heap.size + 3] W (W.setCell ⟨A.heap.size + 3, 0, none⟩ v') := (Fr.refl _ _).setCell (.inl (by simp)) _
  have hn : ∀ k, k ≠ A.heap.size + 3 → k ∉ [A.heap.size + 3] := fun k hk h' => hk (by simpa using h')
  have hl := h.low
  refine ⟨⟨h.low, h.st.frS hf (fun k hk => ?_), h.lwA, h.fr.then hf (fun k hk => .inr (by simp at hk; omega)), hf.heap h.c0 (hn _ (by omega)), hf.heap h.c1 (hn _ (by omega)), hf.heap h.c2 (hn _ (by omega)), ?_, hf.heap h.m0 (hn _ (by omega)), hf.heap h.m1 (hn _ (by omega)), hf.heap h.m2 (hn _ (by omega)), hf.heap h.m3 (hn _ (by omega))⟩, ownsRow_fr' hrow hf (fun k hk => hn k (by have := (hrow.lt k hk).1; omega)), hall, hfew⟩
  · obtain rfl : k = A.heap.size + 3 := by simpa using hk
    have := h.lwA
    exact ⟨by omega, fun h' => by have := hl.1 _ h'; omega, fun h' => by have := hl.2.1 _ h'; omega, fun h' => by have := hl.2.2 _ h'; omega⟩
  · exact heap_setCell_same' W _ 0 _ _ v' h.c3
theorem WrAt.app {B : World} {v' : Value} {wt : List PW} (h : WrAt w A L pl jl j bk a s S v W) (hown : B.ownsRow (A.heap.size + 8) 108 2 v' wt.length (pwv wt)) (hg : W.grownBy B v.ownBlock) (hall : ∀ x ∈ wt, x.2.length = 116) (hfew : wt.length ≤ 15) :
    B.cell? ⟨A.heap.size + 3, 0, none⟩ = some v ∧ B.frozen? ⟨A.heap.size + 3, 0, none⟩ = false ∧ WrAt w A L pl jl j bk a s ⟨S.d, S.p, wt⟩ v' (B.setCell ⟨A.heap.size + 3, 0, none⟩ v') ∧ KeepsOthers W (B.setCell ⟨A.heap.size + 3, 0, none⟩ v') := by
  have hB := h.toWrH.high hg (fun r e => (h.row.lt r e).1)
  refine ⟨blk_cell hB.c3 0 rfl, blk_free hB.c3 0, hB.setV hown hall hfew, ?_⟩
  refine (KeepsOthers.of_grownBy hg ?_).trans (KeepsOthers.setCell _ _ _)
  intro j o e ho
  rcases h.row.2 with ⟨hv, _⟩ | ⟨g, cap, cur, hv, _, hgg, _⟩
  · rw [hv] at e; cases e
  · rw [hv] at e
    have e' : g = j := by injection e
    subst e'
    rw [hgg] at ho
    cases ho
    rfl
theorem WrH.kc {d' : Disk} {p' : M.Pages} {v' : Value} (h : WrH w A L pl jl j bk a s d p v W) (h' : WrH w A L pl jl j bk a s d' p' v' W') (hs : W.heap.size ≤ W'.heap.size) : Kc (A.heap.size + 4) jl.b W W' := by
  refine ⟨hs, fun i hi => ?_, h'.st.J.c1.trans h.st.J.c1.symm⟩
  match i, hi with
  | 0, _ => exact h'.m0.trans h.m0.symm
  | 1, _ => exact h'.m1.trans h.m1.symm
  | 2, _ => exact h'.m2.trans h.m2.symm
  | 3, _ => exact h'.m3.trans h.m3.symm
end

/-- Ended with an error. -/
structure WrEnd (w A : World) (L : DL) (pl : PL) (jl : JL) (j : Jrn) (r : Int × Disk × M.Pages) (W : World) : Prop where
  low : (∀ k ∈ L.all, k < A.heap.size) ∧ (∀ k ∈ pl.all, k < A.heap.size) ∧ ∀ k ∈ jl.all, k < A.heap.size
  lwA : w.heap.size ≤ A.heap.size
  st : JSt w L pl r.2.1 r.2.2 jl { j with closed := true } W
  fr : Fr (jall L pl jl) A W
  c1 : W.heap[A.heap.size + 1]? = some (.cells #[.int .i64 r.1] 34 (0, 0))
theorem WrEnd.grown {w A W W' : World} {L : DL} {pl : PL} {jl : JL} {j : Jrn} {r : Int × Disk × M.Pages} {row : Option Nat} (h : WrEnd w A L pl jl j r W) (hg : W.grownBy W' row) (hr : ∀ r, row = some r → A.heap.size + 8 ≤ r ∧ ∃ o : Obj, W.heap[r]? = some o ∧ o.isCells = false) : WrEnd w A L pl jl j r W' :=
  ⟨h.low, h.lwA, jst_grown h.low h.lwA h.st hg (fun r e => by have := (hr r e).1; omega), h.fr.grown hg (fun k e => .inr (by have := (hr k e).1; omega)), blk_grown hg (fun r e => (hr r e).2) h.c1⟩

def WrI (w A : World) (L : DL) (pl : PL) (jl : JL) (j : Jrn) (bk a : Nat) (s : Bytes) (hd : PW) (S0 : Wst) (pre : List PW116) (W : World) : Prop :=
  ∃ S v, WrAt w A L pl jl j bk a s S v W ∧ ∀ rest, jgo hd S0 (pre.map (·.1) ++ rest) = jgo hd S rest
def WrX (w A : World) (L : DL) (pl : PL) (jl : JL) (j : Jrn) (hd : PW) (S0 : Wst) (c : Code) (pre : List PW116) (W : World) : Prop :=
  c = .ret ∧ ∃ r, r.1 ≠ 0 ∧ WrEnd w A L pl jl j r W ∧ ∀ rest, jgo hd S0 (pre.map (·.1) ++ rest) = r

/-- The frame of a round: where its page write lies. -/
def roundAct (A : World) (jl : JL) (bk a : Nat) (s : Bytes) (rv : Value) (b : Nat) (x : PW) : Act :=
  { tmps := #[Jp jl, .int .i64 bk, str s, rv, .int .i64 a, .pointer (some ⟨A.heap.size, 0, none⟩), undef, undef, undef, undef, .pointer (some ⟨A.heap.size + 1, 0, none⟩), .pointer (some ⟨A.heap.size + 1 + 1, 0, none⟩), .pointer (some ⟨A.heap.size + 3, 0, none⟩), .pointer (some ⟨b, 0, none⟩), undef, undef, undef,
      .func (.func 49) #[] #[.pointer (some ⟨A.heap.size, 0, none⟩)], Jp jl, .int .i64 bk, str s, .int .i64 a,
      .func (.func 73) #[] #[.pointer (some ⟨A.heap.size + 4 + 3, 0, none⟩), .pointer (some ⟨A.heap.size + 4 + 2, 0, none⟩), .pointer (some ⟨A.heap.size + 4, 0, none⟩), .pointer (some ⟨A.heap.size + 4 + 1, 0, none⟩)],
      .agg #[.int .i64 x.1, str x.2], undef, undef, undef, undef, undef, undef, undef, undef, undef, undef, undef, undef, undef, undef, undef, undef, undef, undef, undef, undef, undef, undef, undef, undef, undef, undef, undef, undef, undef, undef, undef, undef, undef, undef, undef, undef, undef, undef, undef, undef, undef, undef, undef, undef, undef, undef, undef, undef, undef, undef, undef], defers := [] }

theorem pwv_one : ∀ (l : List PW), ∀ u ∈ pwv l, u.oneCell' = true := by
  intro l u hu
  simp only [pwv, List.mem_flatMap] at hu
  obtain ⟨x, _, hx⟩ := hu
  simp only [List.mem_cons, List.mem_nil_iff, or_false] at hx
  rcases hx with rfl | rfl <;> rfl
/-- What a write comes to. -/
def WrPost (w A : World) (L : DL) (pl : PL) (jl : JL) (j : Jrn) (bk : Nat) (s : Bytes) (rs : List Bytes) (r : Int × Disk × M.Pages) (e : Ending) (B : World) : Prop :=
  ∃ jl' : JL, e = .returned (.int .i64 r.1) ∧ jl'.b = jl.b ∧ JSt w L pl r.2.1 r.2.2 jl' (if r.1 = 0 then { j with bank := bk, stream := s, recs := rs, closed := false } else { j with closed := true }) B ∧ Fr (jall L pl jl) A B
theorem JSt.newRecs {w A : World} {L : DL} {pl : PL} {d : Disk} {p : M.Pages} {jl : JL} {j : Jrn} (h : JSt w L pl d p jl j A) {rv : Value} {rs : List Bytes} (bk : Nat) (s : Bytes) (hr : A.ownsRow 0 9 1 rv rs.length (strs rs)) (hrn : ∀ k, rv.ownBlock = some k → w.heap.size ≤ k ∧ k ∉ L.all ∧ k ∉ pl.all ∧ k ≠ jl.b) (hbk : bk ≤ 1) (hs : s.length ≤ 500000) (hrs : rs.length ≤ 100000) :
    JSt w L pl d p ⟨jl.b, rv.ownBlock⟩ { j with bank := bk, stream := s, recs := rs } (((A.setCell ⟨jl.b, 2, none⟩ (.int .i64 bk)).setCell ⟨jl.b, 3, none⟩ (str s)).setCell ⟨jl.b, 4, none⟩ rv) := by
  have f : Fr [jl.b] A (((A.setCell ⟨jl.b, 2, none⟩ (.int .i64 bk)).setCell ⟨jl.b, 3, none⟩ (str s)).setCell ⟨jl.b, 4, none⟩ rv) := (((Fr.refl _ _).setCell (.inl (by simp)) _).setCell (.inl (by simp)) _).setCell (.inl (by simp)) _
  have hj := h.nJ jl.b (by simp [JL.all])
  have e1 : ∀ k, k ∈ [jl.b] → k = jl.b := fun k hk => by simpa using hk
  obtain ⟨rv0, h1, h2, h3⟩ := h.J.at_
  have g1 := heap_setCell_same' A _ 2 _ _ (.int .i64 bk) h1
  have g2 := heap_setCell_same' _ _ 3 _ _ (str s) g1
  have g3 := heap_setCell_same' _ _ 4 _ _ rv g2
  have few := h.J.few
  refine ⟨h.D.fr f (fun k hk e => hj.2.1 (e1 k e ▸ hk)), h.P.fr f (fun k hk e => hj.2.2 (e1 k e ▸ hk)), ⟨⟨hrs, few.2.1, hbk, hs⟩, ⟨rv, g3, ownsRow_fr' hr f (fun k hk e => (hrn k hk).2.2.2 (e1 k e)), rfl⟩, fun e => (hrn _ e).2.2.2 rfl⟩, h.fr.then f (fun k hk => .inr (e1 k hk ▸ hj.1)), h.nL, h.nP, ?_⟩
  intro k hk
  simp only [JL.all, List.mem_cons, Option.mem_toList] at hk
  rcases hk with rfl | hk
  · exact hj
  · have := hrn k hk
    exact ⟨this.1, this.2.1, this.2.2.1⟩
theorem step_run {ops : Array Oper} {o : Oper} {a : Act} {w w' : World} {P : Program} {K : Act → World → Prop} {Q : Exit → Act → World → Prop} {Z : Prop} {v : Value} (hgd : o.guard = none) (hr : (execOp a.eval o).run P w = .ok (.value v) w') (h : K (a.put o.dst v) w') :
    if Region.wanted o (yielded ops a.tmps) = true then Oper.wp P o a w K Q else Z := by
  have hw : Region.wanted o (yielded ops a.tmps) = true := by simp [Region.wanted, hgd]
  rw [if_pos hw]
  unfold Oper.wp
  rw [hr]
  exact h
theorem step_ahead {ops : Array Oper} {o : Oper} {a : Act} {w : World} {K : Act → World → Prop} {Q : Exit → Act → World → Prop} {Z : Prop} (hgd : o.guard = none) (s x : Operand) (ho : o.op = .call { callee := .builtin .append, args := #[s, x], argTypes := #[102, 102] })
    (base b2 : Nat) (hd : PW) (wt : List PW) (v1 v2 : Value) (hs : a.eval s = v1) (hx : a.eval x = v2) (h1 : w.ownsRow base 108 2 v1 1 (pwv [hd])) (h2 : w.ownsRow b2 108 2 v2 wt.length (pwv wt)) (few : wt.length ≤ 1000) (hbase : base ≤ w.heap.size)
    (h : ∀ v' w', w'.ownsRow base 108 2 v' (hd :: wt).length (pwv (hd :: wt)) → w.grownBy w' v1.ownBlock → K (a.put o.dst v') w') :
    if Region.wanted o (yielded ops a.tmps) = true then Oper.wp Tryz.prog o a w K Q else Z := by
  have hpw : pwv (hd :: wt) = pwv [hd] ++ pwv wt := by simp [pwv]
  cases hq : Tryz.prog.info? 108 with
  | none => have := pwInfoJ; simp [hq] at this
  | some i =>
    obtain ⟨hz, hsi, hbi⟩ : i.zero = some (.agg #[.int .i64 0, .string ⟨#[]⟩]) ∧ i.size = 2 ∧ i.bytes = 24 := by
      have := pwInfoJ
      simpa [hq] using this
    rcases h2.2 with ⟨rfl, h0⟩ | ⟨g, cap, cur, rfl, _, hg, hc1, hc2, hsz, htk⟩
    · have hw0 : wt = [] := List.eq_nil_of_length_eq_zero h0
      subst hw0
      rcases h1.2 with ⟨_, e0⟩ | ⟨g1, cap1, cur1, hv1, _, _, hc, _⟩
      · omega
      · refine step_run (v := v1) (w' := w) hgd ?_ (h v1 w h1 ⟨rfl, rfl, rfl, Nat.le_refl _, fun _ _ _ => rfl⟩)
        subst hv1
        have hrun : (Builtin.append_ #[102, 102] o.type #[.slice (some ⟨g1, 0, none⟩) 1 cap1, .slice none 0 0]).run Tryz.prog w = .ok (.slice (some ⟨g1, 0, none⟩) 1 cap1) w := by
          have hsz : (Tryz.prog.info? 108).map (·.size) = some 2 := by rw [hq]; simp [hsi]
          simp [Builtin.append_, run_underlying Tryz.underlying102, run_sizeOf hsz, Builtin.lenOf, Builtin.firstCells, loadCells, loadCellsFrom, storeCells, hc, Sem.run_bind]
        simp [execOp, ho, resolve, invoke, builtin, hs, hx, hrun, Result.andThen]
    · have hl : (pwv wt).length = wt.length * 2 := h2.1
      obtain ⟨v', w', hr, r2, r3, _, _⟩ := run_append_own_at (P := Tryz.prog) w base 102 o.type 108 i _ 2 24 Tryz.underlying102 hq hz hsi hbi rfl (by decide) v1 1 (pwv [hd]) h1 ⟨g, 0, none⟩ wt.length cap (pwv wt) hl (fun j u hj => by
        rw [addr_add, cell_of_row w g _ cur _ _ hg, Nat.zero_add, ← Array.getElem?_toList]
        have hj' := hj
        rw [← htk, List.getElem?_take] at hj'
        split at hj'
        · exact hj'
        · cases hj') (fun u hu => pwv_one wt u hu) (by unfold maxLen; omega) (by omega) hbase
      refine step_run hgd ?_ (h v' w' (by rw [List.length_cons, Nat.add_comm, hpw]; exact r2) r3)
      simp only [execOp, ho, resolve, invoke, builtin, Sem.run_bind, Sem.run_pure, Result.andThen_ok, List.map_toArray, List.map_cons, List.map_nil, hs, hx, hr]
theorem leaves_one {P : Program} {fn : Func} {n p : Nat} {T : TypeId} {dT : TypeDesc} {R : Ending → World → Prop} {w : World} {tmps : Array Value} (hres : fn.results = #[.cell p T]) (huT : P.underlying T = some dT) (hdT : (match dT with | .struct _ | .array _ _ => true | _ => false) = false)
    {g : Nat} {u : Value} {t1 : TypeId} (hp : tmps.getD p undef = .pointer (some ⟨g, 0, none⟩)) (e2 : w.heap[g]? = some (.cells #[u] t1 (0, 0))) (hR : R (.returned u) w) : LeavesInM Fence.wide n P fn tmps R [] .returning w := by
  refine ⟨u, ?_, hR⟩
  have h1 := run_loadVar_one huT hdT e2
  simp only [Array.getD_eq_getD_getElem?] at hp
  simp [results, hres, Sem.run_bind, hp, asAddr, h1, Result.andThen]
theorem KeepsFrom.ofFr {B : Nat} {S : List Nat} {W W' : World} (h : Fr S W W') (hS : ∀ k ∈ S, k < B ∨ ∃ cs t fz, W.heap[k]? = some (.cells cs t fz)) : KeepsFrom B W W' := by
  refine ⟨h.size, fun k o hB hk ho => ?_⟩
  refine (h.block k (lt_of_heap' hk) (fun e => ?_)).trans hk
  rcases hS k e with h1 | ⟨cs, t, fz, h1⟩
  · omega
  · rw [hk] at h1
    cases h1
    simp [Obj.isCells] at ho

section
variable {w A : World} {L : DL} {pl : PL} {d : Disk} {p : M.Pages} {jl : JL} {j : Jrn}
theorem alloc3 (A : World) (x y z : Array Value) (t u v : TypeId) :
    (((A.alloc (.cells x t)).alloc (.cells y u)).alloc (.cells z v)).heap[A.heap.size]? = some (.cells x t (0, 0)) ∧ (((A.alloc (.cells x t)).alloc (.cells y u)).alloc (.cells z v)).heap[A.heap.size + 1]? = some (.cells y u (0, 0)) ∧
    (((A.alloc (.cells x t)).alloc (.cells y u)).alloc (.cells z v)).heap[A.heap.size + 1 + 1]? = some (.cells z v (0, 0)) ∧ Fr [] A (((A.alloc (.cells x t)).alloc (.cells y u)).alloc (.cells z v)) ∧ (((A.alloc (.cells x t)).alloc (.cells y u)).alloc (.cells z v)).heap.size = A.heap.size + 3 := by
  have f1 := (Fr.refl [] A).alloc (.cells x t)
  have g1 := heap_alloc_new A (.cells x t)
  have s1 : (A.alloc (.cells x t)).heap.size = A.heap.size + 1 := World.size_alloc _ _
  generalize A.alloc (.cells x t) = A1 at f1 g1 s1 ⊢
  have f2 := (Fr.refl [] A1).alloc (.cells y u)
  have g2 := heap_alloc_new A1 (.cells y u)
  have s2 : (A1.alloc (.cells y u)).heap.size = A1.heap.size + 1 := World.size_alloc _ _
  generalize A1.alloc (.cells y u) = A2 at f2 g2 s2 ⊢
  have f3 := (Fr.refl [] A2).alloc (.cells z v)
  have g3 := heap_alloc_new A2 (.cells z v)
  have s3 : (A2.alloc (.cells z v)).heap.size = A2.heap.size + 1 := World.size_alloc _ _
  rw [s1] at g2
  rw [s2, s1] at g3
  exact ⟨f3.heap (f2.heap g1 (by simp)) (by simp), f3.heap g2 (by simp), g3, (f1.trans f2).trans f3, by omega⟩

set_option maxRecDepth 100000 in
set_option maxHeartbeats 1000000 in
theorem jWrite_calls (h : JSt w L pl d p jl j A) (hcl : j.closed = false) (bk a : Nat) (s : Bytes) (hbk : bk ≤ 1) (hs : s.length ≤ 500000) (ha : a ≤ 500000) {rv : Value} {rs : List Bytes} (hr : A.ownsRow 0 9 1 rv rs.length (strs rs)) (hrs : rs.length ≤ 100000)
    (hrn : ∀ k, rv.ownBlock = some k → w.heap.size ≤ k ∧ k ∉ L.all ∧ k ∉ pl.all ∧ k ≠ jl.b) :
    Calls Tryz.prog 28 #[Jp jl, .int .i64 bk, str s, rv, .int .i64 a] A fun e B => WrPost w A L pl jl j bk s rs (jgo (0, J.head bk s.length rs.length) ⟨d, p, []⟩ (J.writes j.half bk s a)) e B := by
  obtain ⟨rp, rc, rfl⟩ := ownsRow_len hr
  obtain ⟨hd, hhd⟩ : ∃ hd : PW, (0, J.head bk s.length rs.length) = hd := ⟨_, rfl⟩
  rw [hhd]
  have HHD := Lib.hid hhd
  clear hhd
  refine (callsIn_wide (n := 5)).1 ?_
  refine callsIn_of_wp_marks Tryz.func28 rfl trivial ?_ rfl
  rw [wpIn_wide]
  simp only [Tryz.ntmps28, List.size_toArray, List.length_cons, List.length_nil, Nat.reduceAdd, Nat.reduceSub, Array.replicate_succ, Array.replicate_zero, List.push_toArray, List.append_toArray, List.nil_append, List.cons_append]
  go_wp2_with (with_reducible refine wpL_stop (o := ⟨_, .store 103 _ _, _, _, _, none⟩) ?_)
  obtain ⟨a0, a1, a2, fa, sa⟩ := alloc3 A #[Jp jl] #[.int .i64 0] #[.nilFunc] 27 34 103
  generalize ((A.alloc (.cells #[Jp jl] 27)).alloc (.cells #[.int .i64 0] 34)).alloc (.cells #[.nilFunc] 103) = w3 at a0 a1 a2 fa sa ⊢
  have a2c : w3.cell? ⟨A.heap.size + 1 + 1, 0, none⟩ = some .nilFunc := blk_cell a2 0 rfl
  have a2f := blk_free a2 0
  have f4 : Fr [] A (w3.setCell ⟨A.heap.size + 1 + 1, 0, none⟩ (.func (.func 49) #[] #[.pointer (some ⟨A.heap.size, 0, none⟩)])) := fa.setCell (.inr (by show A.heap.size ≤ A.heap.size + 1 + 1; omega)) _
  have b2 := heap_setCell_same' w3 _ 0 _ _ (.func (.func 49) #[] #[.pointer (some ⟨A.heap.size, 0, none⟩)]) a2
  have b0 := (heap_setCell_other w3 ⟨A.heap.size + 1 + 1, 0, none⟩ A.heap.size (.func (.func 49) #[] #[.pointer (some ⟨A.heap.size, 0, none⟩)]) (by show A.heap.size ≠ A.heap.size + 1 + 1; omega)).trans a0
  have b1 := (heap_setCell_other w3 ⟨A.heap.size + 1 + 1, 0, none⟩ (A.heap.size + 1) (.func (.func 49) #[] #[.pointer (some ⟨A.heap.size, 0, none⟩)]) (by show A.heap.size + 1 ≠ A.heap.size + 1 + 1; omega)).trans a1
  have s4 : (w3.setCell ⟨A.heap.size + 1 + 1, 0, none⟩ (.func (.func 49) #[] #[.pointer (some ⟨A.heap.size, 0, none⟩)])).heap.size = A.heap.size + 3 := by rw [← sa]; simp [World.setCell]
  refine unhold ?_
  go_wp2_with (with_reducible refine wpL_stop (o := ⟨_, .load 27 _, _, _, _, none⟩) ?_)
  generalize w3.setCell ⟨A.heap.size + 1 + 1, 0, none⟩ (.func (.func 49) #[] #[.pointer (some ⟨A.heap.size, 0, none⟩)]) = w4 at f4 b0 b1 b2 s4 ⊢
  have f5 := f4.alloc (.cells #[.slice none 0 0] 102)
  have g45 : Fr [] w4 (w4.alloc (.cells #[.slice none 0 0] 102)) := (Fr.refl [] w4).alloc _
  have b3 := heap_alloc_new w4 (.cells #[.slice none 0 0] 102)
  rw [s4] at b3
  have s5 : (w4.alloc (.cells #[.slice none 0 0] 102)).heap.size = A.heap.size + 4 := by rw [World.size_alloc, s4]
  generalize w4.alloc (.cells #[.slice none 0 0] 102) = w5 at f5 g45 b3 s5 ⊢
  have b0 := g45.heap b0 (by simp)
  have b1 := g45.heap b1 (by simp)
  have b2 := g45.heap b2 (by simp)
  have d0 : w5.cell? ⟨A.heap.size, 0, none⟩ = some (Jp jl) := blk_cell b0 0 rfl
  clear a0 a1 a2 fa sa a2c a2f f4 s4 g45
  refine unhold ?_
  go_wp2_with fail
  refine (jChanged_calls (jl := jl) bk a s w5).mono ?_
  rintro e w9 ⟨rfl, rfl⟩
  have B4 := heap_alloc_new w5 (.cells #[Jp jl] 27)
  have h6 : (w5.alloc (.cells #[Jp jl] 27)).heap.size = A.heap.size + 5 := by rw [World.size_alloc, s5]
  have k6 : Fr [] w5 (w5.alloc (.cells #[Jp jl] 27)) := (Fr.refl [] w5).alloc _
  generalize w5.alloc (.cells #[Jp jl] 27) = w6 at B4 h6 k6 ⊢
  have B5 := heap_alloc_new w6 (.cells #[.int .i64 bk] 3)
  have h7 : (w6.alloc (.cells #[.int .i64 bk] 3)).heap.size = A.heap.size + 6 := by rw [World.size_alloc, h6]
  have k7 : Fr [] w6 (w6.alloc (.cells #[.int .i64 bk] 3)) := (Fr.refl [] w6).alloc _
  generalize w6.alloc (.cells #[.int .i64 bk] 3) = w7 at B5 h7 k7 ⊢
  have B6 := heap_alloc_new w7 (.cells #[str s] 9)
  have h8 : (w7.alloc (.cells #[str s] 9)).heap.size = A.heap.size + 7 := by rw [World.size_alloc, h7]
  have k8 : Fr [] w7 (w7.alloc (.cells #[str s] 9)) := (Fr.refl [] w7).alloc _
  generalize w7.alloc (.cells #[str s] 9) = w8 at B6 h8 k8 ⊢
  have B7 := heap_alloc_new w8 (.cells #[.int .i64 a] 3)
  have h9 : (w8.alloc (.cells #[.int .i64 a] 3)).heap.size = A.heap.size + 8 := by rw [World.size_alloc, h8]
  have k9 : Fr [] w8 (w8.alloc (.cells #[.int .i64 a] 3)) := (Fr.refl [] w8).alloc _
  generalize w8.alloc (.cells #[.int .i64 a] 3) = w9 at B7 h9 k9 ⊢
  rw [s5] at B4 ⊢
  rw [h6] at B5
  rw [h7] at B6
  rw [h8] at B7
  have K : Fr [] w5 w9 := ((k6.trans k7).trans k8).trans k9
  have B4 := ((k7.trans k8).trans k9).heap B4 (by simp)
  have B5 := (k8.trans k9).heap B5 (by simp)
  have B6 := k9.heap B6 (by simp)
  have B0 := K.heap b0 (by simp)
  have B1 := K.heap b1 (by simp)
  have B2 := K.heap b2 (by simp)
  have B3 := K.heap b3 (by simp)
  have F9 : Fr [] A w9 := f5.trans K
  clear k6 k7 k8 k9 h6 h7 h8 K b0 b1 b2 b3 d0 f5 s5
  go_wp2_with fail
  have O9 : WrAt w A L pl jl j bk a s ⟨d, p, []⟩ (.slice none 0 0) w9 := ⟨⟨h.lt, h.fr0 F9, h.size, F9.any, B0, B1, B2, B3, B4, B5, B6, B7⟩, World.ownsRow_nil _ _ _ _, by simp, by simp⟩
  have hfew := h.J.few
  obtain ⟨xs, hxs⟩ := pw116 (J.writes j.half bk s a) (fun x hx => by
    obtain ⟨i, hi⟩ := List.getElem?_of_mem hx
    rw [(J.writes_get hi).1]
    exact J.chunk_length _ _)
  rw [← wpIn_wide (n := 5)]
  have hseq : SeqStopsK Fence.wide 4 Tryz.prog 73 #[.pointer (some ⟨A.heap.size + 4 + 3, 0, none⟩), .pointer (some ⟨A.heap.size + 4 + 2, 0, none⟩), .pointer (some ⟨A.heap.size + 4, 0, none⟩), .pointer (some ⟨A.heap.size + 4 + 1, 0, none⟩)] encW (Kc (A.heap.size + 4) jl.b) (fun ys => ys = xs) (fun pre => pre <+: xs) xs.length w9 := by
    exact jChanged_stops (w := w9) 4 (by omega) (A.heap.size + 4) jl.b j.half bk a s (by omega) hbk hs ha xs hxs (blk_cell O9.m0 0 rfl) (blk_cell O9.m1 0 rfl) (blk_cell O9.m2 0 rfl) (blk_cell O9.m3 0 rfl) O9.st.J.c1
  refine wpIn_rangeFunc_ownH (F := Fence.wide) rfl (by omega) (gf := 73) (lb := #[.pointer (some ⟨A.heap.size + 4 + 3, 0, none⟩), .pointer (some ⟨A.heap.size + 4 + 2, 0, none⟩), .pointer (some ⟨A.heap.size + 4, 0, none⟩), .pointer (some ⟨A.heap.size + 4 + 1, 0, none⟩)]) rfl trivial (enters_of Tryz.func73 (by kernel_rfl) rfl)
    hseq (fun h k => Kc.trans h k) (fun W l o o' hl h _ _ => Kc.putObj (B := w9.heap.size) (by omega) (by have := h9; have := O9.low.2.2 jl.b (by simp [JL.all]); omega) W l o o' hl h) (Below.refl _ _) (fun _ => rfl)
    (WrI w A L pl jl j bk a s hd ⟨d, p, []⟩) (WrX w A L pl jl j hd ⟨d, p, []⟩) ?own ?ownX ⟨_, _, O9, fun _ => rfl⟩
    (fun x a' W => ∃ b, a' = roundAct A jl bk a s (.slice rp rs.length rc) b x.1 ∧ W.heap[b]? = some (.cells #[.int .i64 x.1.1, str x.1.2] 108 (0, 0)) ∧ A.heap.size + 8 ≤ b) ?ownA ?assign ?body ?done ?stop
  case own =>
    rintro pre X Y row ⟨S, v, O, hj⟩ hg hr
    exact ⟨S, v, O.grown hg (fun r e => ⟨by have := (hr r e).1; omega, (hr r e).2⟩), hj⟩
  case ownX =>
    rintro c pre X Y row ⟨hc, r, h1, O, hj⟩ hg hr
    exact ⟨hc, r, h1, O.grown hg (fun r e => ⟨by have := (hr r e).1; omega, (hr r e).2⟩), hj⟩
  case ownA =>
    rintro x a' u X Y row ⟨b, e, hb, hn⟩ hg hr
    exact ⟨b, e, blk_grown hg (fun r e => (hr r e).2) hb, hn⟩
  case assign =>
    intro l pre x W K hI hK
    simp only [encW, encP]
    gi_wp2
    obtain ⟨S, v, O, hj⟩ := hI
    have f := (Fr.refl [] W).alloc (.cells #[.int .i64 x.1.1, str x.1.2] 108)
    have O' := O.grow0 f
    exact hK _ _ ((KeepsOthers.alloc _ _).from _) (O.toWrH.kc O'.toWrH f.size) ⟨S, v, O', hj⟩ ⟨W.heap.size, rfl, heap_alloc_new _ _, by have := lt_of_heap O.m3; omega⟩
  case body =>
    rintro l pre x a' W hl hrec ⟨S, v, O, hj⟩ ⟨b, rfl, hb, hbn⟩ hlen
    obtain ⟨vp, vc, rfl⟩ := ownsRow_len O.row
    have t3 : W.cell? ⟨A.heap.size + 3, 0, none⟩ = some (.slice vp S.wt.length vc) := blk_cell O.c3 0 rfl
    have t2 : W.cell? ⟨A.heap.size + 1 + 1, 0, none⟩ = some (.func (.func 49) #[] #[.pointer (some ⟨A.heap.size, 0, none⟩)]) := blk_cell O.c2 0 rfl
    have hallx : ∀ y ∈ S.wt ++ [x.1], y.2.length = 116 := by
      intro y hy
      rcases List.mem_append.1 hy with hy | hy
      · exact O.all y hy
      · rw [List.mem_singleton.1 hy]; exact x.2
    unfold roundAct
    by_cases h15 : S.wt.length = 15
    · have k15 : ((S.wt.length : Int) == 15) = true := by rw [h15]; rfl
      have hPl : PwAt W (.slice vp S.wt.length vc) S.wt := ownsRow_low O.row (Nat.zero_le _)
      have hput := jWrite1_calls O.st hcl O.c0 (fun hk => by have := jall_low O.low A.heap.size (List.mem_cons_of_mem _ hk); omega) hPl (fun y hy => by have := O.all y hy; omega) (by omega)
      have hgo : ∀ rest, jgo hd S (x.1 :: rest) = if (give S.d S.p S.wt).1 ≠ 0 then give S.d S.p S.wt else jgo hd ⟨(give S.d S.p S.wt).2.1, (give S.d S.p S.wt).2.2, [x.1]⟩ rest := fun rest => by rw [jgo, if_pos h15]
      generalize give S.d S.p S.wt = r at hput hgo
      have HGO := Lib.hid hgo
      have H15 := Lib.hid h15
      clear hgo h15
      by_cases hr0 : r.1 = 0
      · have k0 : (r.1 != 0) = false := by simp [hr0]
        have hjj : ({ j with closed := r.1 != 0 } : Jrn) = j := by rw [k0, ← hcl]
        gi_wp2_with (first | (with_reducible refine wpLI_stop (o := ⟨_, .load 108 _, _, _, _, none⟩) ?_) | (refine ⟨trivial, ?_⟩; gi_at_call 49; refine (CallsIn.inRound l (callsIn_wide.2 hput)).mono ?_; rintro e W1 ⟨rfl, hS1, hF1⟩; rw [hjj] at hS1; have O1 := O.frS hS1 hF1 (fun k hk => hk); have u3 := blk_cell O1.c3 0 rfl; have u3f := blk_free O1.c3 0))
        have O2 : WrAt w A L pl jl j bk a s ⟨r.2.1, r.2.2, []⟩ (.slice none 0 0) (W1.setCell ⟨A.heap.size + 3, 0, none⟩ (.slice none 0 0)) := O1.toWrH.setV (World.ownsRow_nil _ _ _ _) (by simp) (by simp)
        have hb2 : (W1.setCell ⟨A.heap.size + 3, 0, none⟩ (.slice none 0 0)).heap[b]? = some (.cells #[.int .i64 x.1.1, str x.1.2] 108 (0, 0)) := (heap_setCell_other W1 _ b _ (by show b ≠ A.heap.size + 3; omega)).trans (hF1.heap hb (fun hk => by have := jall_low O.low b hk; omega))
        have hK2 : KeepsFrom (A.heap.size + 8) W (W1.setCell ⟨A.heap.size + 3, 0, none⟩ (.slice none 0 0)) := (KeepsFrom.ofFr hF1 (fun k hk => .inl (by have := jall_low O.low k hk; omega))).trans ((KeepsOthers.setCell _ _ _).from _)
        have hsz2 : W.heap.size ≤ (W1.setCell ⟨A.heap.size + 3, 0, none⟩ (.slice none 0 0)).heap.size := hK2.size
        refine unhold ?_
        generalize W1.setCell ⟨A.heap.size + 3, 0, none⟩ (.slice none 0 0) = W2 at O2 hb2 hK2 hsz2 ⊢
        have y0 : W2.cell? ⟨b, 0, none⟩ = some (.int .i64 x.1.1) := blk_cell hb2 0 rfl
        have y1 : W2.cell? ⟨b, 1, none⟩ = some (str x.1.2) := blk_cell hb2 1 rfl
        gi_wp2_with (with_reducible refine wpLI_stop (o := ⟨_, .call { callee := .builtin .append, args := _, argTypes := _ }, _, _, _, none⟩) ?_)
        have hf3 := (Fr.refl [] W2).alloc (.cells #[.int .i64 x.1.1, str x.1.2] 108)
        have OA := O2.grow0 hf3
        have hgA := heap_alloc_new W2 (.cells #[.int .i64 x.1.1, str x.1.2] 108)
        have hKA := hK2.trans ((KeepsOthers.alloc W2 (.cells #[.int .i64 x.1.1, str x.1.2] 108)).from (A.heap.size + 8))
        have hszA := Nat.le_trans hsz2 hf3.size
        have n8 : A.heap.size + 8 ≤ W2.heap.size := by have := lt_of_heap O2.m3; omega
        generalize W2.alloc (.cells #[.int .i64 x.1.1, str x.1.2] 108) = wa at OA hgA hKA hszA hf3 ⊢
        refine unhold (wpLI_append rfl _ _ 102 rfl (A.heap.size + 8) 108 _ 2 24 Tryz.underlying102 pwInfoJ rfl (by decide) (by decide) (.slice none 0 0) 0 (pwv []) rfl OA.row W2.heap.size 1 [.int .i64 x.1.1, str x.1.2] rfl rfl _ _ hgA (by simp [Value.oneCell']) (by have h9 := OA.few; first | omega | (simp only at h9; omega)) (by have := hf3.size; omega) ?_)
        intro v' w2 hown hgr
        obtain ⟨q1, q2, q3, q4⟩ := OA.app (wt := [] ++ [x.1]) (by simpa [pwv] using hown) hgr (by simpa using x.2) (by simp)
        obtain ⟨vp', vc', rfl⟩ := ownsRow_len hown
        gi_wp2_with fail
        try rw [h9]
        exact ⟨hKA.trans (q4.from _), O.toWrH.kc q3.toWrH (Nat.le_trans hszA q4.size), _, _, q3, fun rest => by rw [List.map_append, List.append_assoc, hj]; exact (by rw [List.map_cons, List.map_nil, List.singleton_append, HGO.out, if_neg (by simp [hr0])]; rfl)⟩
      · have k0 : (r.1 != 0) = true := by simp [hr0]
        gi_wp2_with (refine ⟨trivial, ?_⟩; gi_at_call 49; refine (CallsIn.inRound l (callsIn_wide.2 hput)).mono ?_; rintro e W1 ⟨rfl, hS1, hF1⟩; have u1 := blk_cell (hF1.heap O.c1 (fun hk => absurd (jall_low O.low _ hk) (by omega))) 0 rfl; have u1f := blk_free (hF1.heap O.c1 (fun hk => absurd (jall_low O.low _ hk) (by omega))) 0)
        have hfX : Fr [A.heap.size + 1] W1 (W1.setCell ⟨A.heap.size + 1, 0, none⟩ (.int .i64 r.1)) := (Fr.refl _ _).setCell (.inl (by simp)) _
        have hc1X := heap_setCell_same' W1 _ 0 _ _ (.int .i64 r.1) (hF1.heap O.c1 (fun hk => absurd (jall_low O.low _ hk) (by omega)))
        rw [k0] at hS1
        have hlow := O.low
        have hlwA := O.lwA
        refine ⟨(KeepsFrom.ofFr hF1 (fun k hk => .inl (by have := jall_low O.low k hk; omega))).trans ((KeepsOthers.setCell _ _ _).from _), rfl, r, hr0, ⟨O.low, O.lwA, hS1.frS hfX (fun k hk => ?_), (O.fr.trans hF1).then hfX (fun k hk => .inr (by simp at hk; omega)), hc1X⟩, fun rest => by rw [List.map_append, List.append_assoc, hj, List.map_cons, List.map_nil, List.singleton_append, HGO.out, if_pos hr0]⟩
        obtain rfl : k = A.heap.size + 1 := by simpa using hk
        exact ⟨by omega, fun h' => by have := hlow.1 _ h'; omega, fun h' => by have := hlow.2.1 _ h'; omega, fun h' => by have := hlow.2.2 _ h'; omega⟩
    · have k15 : ((S.wt.length : Int) == 15) = false := by simp; omega
      have y0 : W.cell? ⟨b, 0, none⟩ = some (.int .i64 x.1.1) := blk_cell hb 0 rfl
      have y1 : W.cell? ⟨b, 1, none⟩ = some (str x.1.2) := blk_cell hb 1 rfl
      gi_wp2_with (with_reducible refine wpLI_stop (o := ⟨_, .call { callee := .builtin .append, args := _, argTypes := _ }, _, _, _, none⟩) ?_)
      have hf3 := (Fr.refl [] W).alloc (.cells #[.int .i64 x.1.1, str x.1.2] 108)
      have OA := O.grow0 hf3
      have hgA := heap_alloc_new W (.cells #[.int .i64 x.1.1, str x.1.2] 108)
      have hKA := (KeepsFrom.refl (A.heap.size + 8) W).trans ((KeepsOthers.alloc W (.cells #[.int .i64 x.1.1, str x.1.2] 108)).from (A.heap.size + 8))
      have hszA := Nat.le_trans (Nat.le_refl W.heap.size) hf3.size
      have n8 : A.heap.size + 8 ≤ W.heap.size := by have := lt_of_heap O.m3; omega
      generalize W.alloc (.cells #[.int .i64 x.1.1, str x.1.2] 108) = wa at OA hgA hKA hszA hf3 ⊢
      refine unhold (wpLI_append rfl _ _ 102 rfl (A.heap.size + 8) 108 _ 2 24 Tryz.underlying102 pwInfoJ rfl (by decide) (by decide) (.slice vp S.wt.length vc) S.wt.length (pwv S.wt) rfl OA.row W.heap.size 1 [.int .i64 x.1.1, str x.1.2] rfl rfl _ _ hgA (by simp [Value.oneCell']) (by have h9 := OA.few; first | omega | (simp only at h9; omega)) (by have := hf3.size; omega) ?_)
      intro v' w2 hown hgr
      obtain ⟨q1, q2, q3, q4⟩ := OA.app (wt := S.wt ++ [x.1]) (by simpa [pwv] using hown) hgr hallx (by have := O.few; rw [List.length_append]; simp; omega)
      obtain ⟨vp', vc', rfl⟩ := ownsRow_len hown
      gi_wp2_with fail
      try rw [h9]
      exact ⟨hKA.trans (q4.from _), O.toWrH.kc q3.toWrH (Nat.le_trans hszA q4.size), _, _, q3, fun rest => by rw [List.map_append, List.append_assoc, hj]; exact (by rw [List.map_cons, List.map_nil, List.singleton_append, jgo, if_neg h15])⟩
  case done =>
    rintro Dd ys W hDd rfl ⟨S, v, O, hj⟩ hDef
    have hfin := hj []
    rw [List.append_nil, hxs] at hfin
    have hfin' : jgo hd ⟨d, p, []⟩ (J.writes j.half bk s a) = give S.d S.p (hd :: S.wt) := hfin
    have HFIN := Lib.hid hfin'
    clear hfin hfin' hj hseq hxs
    have hb1 := jBytes_calls bk 1 (by omega)
    have hb2 := jBytes_calls s.length 4 (by omega)
    have hb3 := jBytes_calls rs.length 4 (by omega)
    go_wp2_with fail
    refine (hb1 _).mono ?_
    rintro e W1 ⟨rfl, f1⟩
    go_wp2_with fail
    refine (hb2 _).mono ?_
    rintro e W2 ⟨rfl, f2⟩
    go_wp2_with (first | (with_reducible refine wpL_stop (o := ⟨_, .alloc 59, _, _, _, none⟩) ?_) | (with_reducible refine wpL_stop (o := ⟨_, .load 59 _, _, _, _, none⟩) ?_) | (with_reducible refine wpL_stop (o := ⟨_, .store 59 _ _, _, _, _, none⟩) ?_) | (with_reducible refine wpL_stop (o := ⟨_, .lookup _ _ _ _, _, _, _, none⟩) ?_) | (with_reducible refine wpL_stop (o := ⟨_, .box 59 _, _, _, _, none⟩) ?_) | (with_reducible refine wpL_stop (o := ⟨_, .next _ _, _, _, _, none⟩) ?_) | (with_reducible refine wpL_stop (o := ⟨_, .range _ _, _, _, _, none⟩) ?_) | (with_reducible refine wpL_stop (o := ⟨_, .mapUpdate _ _ _ _, _, _, _, none⟩) ?_) | (with_reducible refine wpL_stop (o := ⟨_, .convert 23 9 _, _, _, _, none⟩) ?_) | (with_reducible refine wpL_stop (o := ⟨_, .convert 9 23 _, _, _, _, none⟩) ?_) | (with_reducible refine wpL_stop (o := ⟨_, .call { callee := .builtin .copy, args := _, argTypes := _ }, _, _, _, none⟩) ?_) | (with_reducible refine wpL_stop (o := ⟨_, .call { callee := .builtin .append, args := _, argTypes := _ }, _, _, _, none⟩) ?_) | (with_reducible refine wpL_stop (o := ⟨_, .call { callee := .builtin .clear, args := _, argTypes := _ }, _, _, _, none⟩) ?_) | (with_reducible refine wpL_stop (o := ⟨_, .makeSlice _ _ _, _, _, _, none⟩) ?_) | (with_reducible refine wpL_stop (o := ⟨_, .makeMap _ _, _, _, _, none⟩) ?_) | (with_reducible refine wpL_stop (o := ⟨_, .entry _, _, _, _, none⟩) ?_) | (with_reducible refine wpL_stop (o := ⟨_, .call { callee := .builtin .max, args := _, argTypes := _ }, _, _, _, none⟩) ?_) | (with_reducible refine wpL_stop (o := ⟨_, .call { callee := .builtin .min, args := _, argTypes := _ }, _, _, _, none⟩) ?_) | (with_reducible refine wpL_stop (o := ⟨_, .slice 59 _ none (some _) none, _, _, _, none⟩) ?_) | (with_reducible refine wpL_stop (o := ⟨_, .binOp .add 9 _ _ _, _, _, _, none⟩) ?_) | (with_reducible refine wpL_stop (o := ⟨_, .slice 9 _ _ _ _, _, _, _, none⟩) ?_))
    refine unhold (wpL_cat rfl _ _ _ _ rfl (le 1 bk) (le 4 s.length) rfl rfl (by rw [le_length, le_length]; omega) ?_)
    go_wp2_with fail
    refine (hb3 _).mono ?_
    rintro e W3 ⟨rfl, f3⟩
    have hl9 : ((le 1 bk ++ le 4 s.length) ++ le 4 rs.length).length = 9 := by simp [le_length]
    have hl5 : (le 1 bk ++ le 4 s.length).length = 5 := by simp [le_length]
    have hh : ((le 1 bk ++ le 4 s.length) ++ le 4 rs.length) ++ zeros (116 - ((le 1 bk ++ le 4 s.length) ++ le 4 rs.length).length) = hd.2 := by
      rw [hl9, ← HHD.out]
      simp [J.head]
    have hd0 : hd.1 = 0 := by rw [← HHD.out]
    have HH := Lib.hid hh
    have HD0 := Lib.hid hd0
    clear hh hd0
    generalize le 1 bk ++ le 4 s.length = h5 at hl5 hl9 HH ⊢
    have hl4 : (le 4 rs.length).length = 4 := le_length _ _
    generalize le 4 rs.length = h4 at hl9 HH hl4 ⊢
    have F3 := (f1.trans f2).trans f3
    have O3 := O.grow0 F3
    clear f1 f2 f3 O
    go_wp2_with (first | (with_reducible refine wpL_stop (o := ⟨_, .alloc 59, _, _, _, none⟩) ?_) | (with_reducible refine wpL_stop (o := ⟨_, .load 59 _, _, _, _, none⟩) ?_) | (with_reducible refine wpL_stop (o := ⟨_, .store 59 _ _, _, _, _, none⟩) ?_) | (with_reducible refine wpL_stop (o := ⟨_, .lookup _ _ _ _, _, _, _, none⟩) ?_) | (with_reducible refine wpL_stop (o := ⟨_, .box 59 _, _, _, _, none⟩) ?_) | (with_reducible refine wpL_stop (o := ⟨_, .next _ _, _, _, _, none⟩) ?_) | (with_reducible refine wpL_stop (o := ⟨_, .range _ _, _, _, _, none⟩) ?_) | (with_reducible refine wpL_stop (o := ⟨_, .mapUpdate _ _ _ _, _, _, _, none⟩) ?_) | (with_reducible refine wpL_stop (o := ⟨_, .convert 23 9 _, _, _, _, none⟩) ?_) | (with_reducible refine wpL_stop (o := ⟨_, .convert 9 23 _, _, _, _, none⟩) ?_) | (with_reducible refine wpL_stop (o := ⟨_, .call { callee := .builtin .copy, args := _, argTypes := _ }, _, _, _, none⟩) ?_) | (with_reducible refine wpL_stop (o := ⟨_, .call { callee := .builtin .append, args := _, argTypes := _ }, _, _, _, none⟩) ?_) | (with_reducible refine wpL_stop (o := ⟨_, .call { callee := .builtin .clear, args := _, argTypes := _ }, _, _, _, none⟩) ?_) | (with_reducible refine wpL_stop (o := ⟨_, .makeSlice _ _ _, _, _, _, none⟩) ?_) | (with_reducible refine wpL_stop (o := ⟨_, .makeMap _ _, _, _, _, none⟩) ?_) | (with_reducible refine wpL_stop (o := ⟨_, .entry _, _, _, _, none⟩) ?_) | (with_reducible refine wpL_stop (o := ⟨_, .call { callee := .builtin .max, args := _, argTypes := _ }, _, _, _, none⟩) ?_) | (with_reducible refine wpL_stop (o := ⟨_, .call { callee := .builtin .min, args := _, argTypes := _ }, _, _, _, none⟩) ?_) | (with_reducible refine wpL_stop (o := ⟨_, .slice 59 _ none (some _) none, _, _, _, none⟩) ?_) | (with_reducible refine wpL_stop (o := ⟨_, .binOp .add 9 _ _ _, _, _, _, none⟩) ?_) | (with_reducible refine wpL_stop (o := ⟨_, .slice 9 _ _ _ _, _, _, _, none⟩) ?_))
    refine unhold (wpL_cat rfl _ _ _ _ rfl h5 h4 rfl rfl (by omega) ?_)
    have hz := repz_calls (116 - ((h5 ++ h4).length : Int)) (by omega) (by omega)
    have HL9 := Lib.hid hl9
    clear hl9
    generalize h5 ++ h4 = h9 at hz HL9 HH ⊢
    have hl9 : h9.length ≤ 9 := by have := HL9.out; omega
    go_wp2_with (first | (first | (with_reducible refine wpL_stop (o := ⟨_, .alloc 59, _, _, _, none⟩) ?_) | (with_reducible refine wpL_stop (o := ⟨_, .load 59 _, _, _, _, none⟩) ?_) | (with_reducible refine wpL_stop (o := ⟨_, .store 59 _ _, _, _, _, none⟩) ?_) | (with_reducible refine wpL_stop (o := ⟨_, .lookup _ _ _ _, _, _, _, none⟩) ?_) | (with_reducible refine wpL_stop (o := ⟨_, .box 59 _, _, _, _, none⟩) ?_) | (with_reducible refine wpL_stop (o := ⟨_, .next _ _, _, _, _, none⟩) ?_) | (with_reducible refine wpL_stop (o := ⟨_, .range _ _, _, _, _, none⟩) ?_) | (with_reducible refine wpL_stop (o := ⟨_, .mapUpdate _ _ _ _, _, _, _, none⟩) ?_) | (with_reducible refine wpL_stop (o := ⟨_, .convert 23 9 _, _, _, _, none⟩) ?_) | (with_reducible refine wpL_stop (o := ⟨_, .convert 9 23 _, _, _, _, none⟩) ?_) | (with_reducible refine wpL_stop (o := ⟨_, .call { callee := .builtin .copy, args := _, argTypes := _ }, _, _, _, none⟩) ?_) | (with_reducible refine wpL_stop (o := ⟨_, .call { callee := .builtin .append, args := _, argTypes := _ }, _, _, _, none⟩) ?_) | (with_reducible refine wpL_stop (o := ⟨_, .call { callee := .builtin .clear, args := _, argTypes := _ }, _, _, _, none⟩) ?_) | (with_reducible refine wpL_stop (o := ⟨_, .makeSlice _ _ _, _, _, _, none⟩) ?_) | (with_reducible refine wpL_stop (o := ⟨_, .makeMap _ _, _, _, _, none⟩) ?_) | (with_reducible refine wpL_stop (o := ⟨_, .entry _, _, _, _, none⟩) ?_) | (with_reducible refine wpL_stop (o := ⟨_, .call { callee := .builtin .max, args := _, argTypes := _ }, _, _, _, none⟩) ?_) | (with_reducible refine wpL_stop (o := ⟨_, .call { callee := .builtin .min, args := _, argTypes := _ }, _, _, _, none⟩) ?_) | (with_reducible refine wpL_stop (o := ⟨_, .slice 59 _ none (some _) none, _, _, _, none⟩) ?_) | (with_reducible refine wpL_stop (o := ⟨_, .binOp .add 9 _ _ _, _, _, _, none⟩) ?_) | (with_reducible refine wpL_stop (o := ⟨_, .slice 9 _ _ _ _, _, _, _, none⟩) ?_)) | (go_at_call 52; refine (hz _).mono ?_; rintro e W4 ⟨rfl, f4⟩))
    refine unhold (wpL_cat rfl _ _ _ _ rfl h9 (zeros (116 - h9.length)) rfl rfl (by have := zeros_len (116 - h9.length); omega) ?_)
    rw [HH.out]
    have O4 := O3.grow0 f4
    clear O3 hz
    go_wp2_with fail
    have hfin := HFIN.out
    generalize hgive : give S.d S.p (hd :: S.wt) = r at hfin
    have HFIN2 := Lib.hid hfin
    have HGIVE := Lib.hid hgive
    clear hfin HFIN hgive
    obtain ⟨vp, vc, rfl⟩ := ownsRow_len O4.row
    have T2 : W4.cell? ⟨A.heap.size + 1 + 1, 0, none⟩ = some (.func (.func 49) #[] #[.pointer (some ⟨A.heap.size, 0, none⟩)]) := blk_cell O4.c2 0 rfl
    have T3 : W4.cell? ⟨A.heap.size + 3, 0, none⟩ = some (.slice vp S.wt.length vc) := blk_cell O4.c3 0 rfl
    refine wp_region_keep (fun w' => w'.cell? ⟨A.heap.size + 1 + 1, 0, none⟩ = some (.func (.func 49) #[] #[.pointer (some ⟨A.heap.size, 0, none⟩)]) ∧ w'.cell? ⟨A.heap.size + 3, 0, none⟩ = some (.slice vp S.wt.length vc)) 7 (by kernel_rfl) ?_
    have hS : W4.drew.cell? ⟨A.heap.size + 1 + 1, 0, none⟩ = some (.func (.func 49) #[] #[.pointer (some ⟨A.heap.size, 0, none⟩)]) ∧ W4.drew.cell? ⟨A.heap.size + 3, 0, none⟩ = some (.slice vp S.wt.length vc) := ⟨T2, T3⟩
    refine keepTake (i := 0) (v := ?_) (a' := ?_) rfl (by kernel_rfl) (by kernel_rfl) (by kernel_rfl) (by kernel_rfl) (by kernel_rfl) (by kernel_rfl) (fun w hSw => ?_) hS ?_ ?_
    rotate_left 2
    · (try dsimp only at hSw); (try (have hSa := hSw.1; have hSb := hSw.2)); (try (have hSc := hSb.1; have hSd := hSb.2)); go_simp; with_reducible rfl
    · go_simp; with_reducible rfl
    refine keepTake (i := 1) (v := ?_) (a' := ?_) rfl (by kernel_rfl) (by kernel_rfl) (by kernel_rfl) (by kernel_rfl) (by kernel_rfl) (by kernel_rfl) (fun w hSw => ?_) hS ?_ ?_
    rotate_left 2
    · (try dsimp only at hSw); (try (have hSa := hSw.1; have hSb := hSw.2)); (try (have hSc := hSb.1; have hSd := hSb.2)); go_simp; with_reducible rfl
    · go_simp; with_reducible rfl
    refine keepTake (i := 2) (v := ?_) (a' := ?_) rfl (by kernel_rfl) (by kernel_rfl) (by kernel_rfl) (by kernel_rfl) (by kernel_rfl) (by kernel_rfl) (fun w hSw => ?_) hS ?_ ?_
    rotate_left 2
    · (try dsimp only at hSw); (try (have hSa := hSw.1; have hSb := hSw.2)); (try (have hSc := hSb.1; have hSd := hSb.2)); go_simp; with_reducible rfl
    · go_simp; with_reducible rfl
    refine keepTake (i := 4) (v := ?_) (a' := ?_) rfl (by kernel_rfl) (by kernel_rfl) (by kernel_rfl) (by kernel_rfl) (by kernel_rfl) (by kernel_rfl) (fun w hSw => ?_) hS ?_ ?_
    rotate_left 2
    · (try dsimp only at hSw); (try (have hSa := hSw.1; have hSb := hSw.2)); (try (have hSc := hSb.1; have hSd := hSb.2)); go_simp; with_reducible rfl
    · go_simp; with_reducible rfl
    refine keepReady (rs := [3]) (by kernel_rfl) (by simp) ?_
    refine AllK.cons rfl (fun K hK => ?_) AllK.nil
    go_simp
    have f5 : Fr [] W4 (W4.alloc (.cells #[.int .i64 0, .string ⟨hd.2.toArray⟩] 108)).drew := ((Fr.refl [] W4).alloc _).drew
    have hg5 : (W4.alloc (.cells #[.int .i64 0, .string ⟨hd.2.toArray⟩] 108)).drew.heap[W4.heap.size]? = some (.cells #[.int .i64 0, .string ⟨hd.2.toArray⟩] 108 (0, 0)) := heap_alloc_new W4 _
    have O5 := O4.grow0 f5
    have hS : (W4.alloc (.cells #[.int .i64 0, .string ⟨hd.2.toArray⟩] 108)).drew.cell? ⟨A.heap.size + 1 + 1, 0, none⟩ = some (.func (.func 49) #[] #[.pointer (some ⟨A.heap.size, 0, none⟩)]) ∧ (W4.alloc (.cells #[.int .i64 0, .string ⟨hd.2.toArray⟩] 108)).drew.cell? ⟨A.heap.size + 3, 0, none⟩ = some (.slice vp S.wt.length vc) := ⟨blk_cell O5.c2 0 rfl, blk_cell O5.c3 0 rfl⟩
    try dsimp only
    refine hK _ _ (fun _ => hS) ?_
    clear hK K
    try simp only [Act.put, List.setIfInBounds_toArray, List.set_cons_zero, List.set_cons_succ]
    have n8 : A.heap.size + 8 ≤ W4.heap.size := by have := lt_of_heap O4.m3; omega
    have hDef5 := f5.heap (f4.heap (F3.heap hDef (by simp)) (by simp)) (by simp)
    generalize (W4.alloc (.cells #[.int .i64 0, .string ⟨hd.2.toArray⟩] 108)).drew = W5 at f5 hg5 O5 hS hDef5 ⊢
    have hnew : W5.ownsRow W4.heap.size 108 2 (.slice (some ⟨W4.heap.size, 0, none⟩) 1 1) 1 (pwv [hd]) := ⟨rfl, .inr ⟨W4.heap.size, 1, _, rfl, Nat.le_refl _, hg5, Nat.le_refl _, by decide, rfl, by rw [show pwv [hd] = [.int .i64 hd.1, str hd.2] from rfl, HD0.out]; rfl⟩⟩
    refine keepReady (rs := [5]) (by kernel_rfl) (by simp) ?_
    refine AllK.cons rfl (fun K hK => ?_) AllK.nil
    refine step_ahead rfl _ _ rfl W4.heap.size (A.heap.size + 8) hd S.wt _ _ rfl rfl hnew O5.row (by have := O5.few; omega) f5.size ?_
    intro v6 W6 hown6 hgr6
    have O6 := O5.toWrH.high hgr6 (fun r e => by have e' : W4.heap.size = r := Option.some.inj (show some W4.heap.size = some r from e); omega)
    have hS := And.intro (blk_cell O6.c2 0 rfl) (blk_cell O6.c3 0 rfl)
    have hDd4 := lt_of_heap' hDef
    have hDef6 : W6.heap[Dd]? = some (.deferred (some [])) := by
      rw [hgr6.block Dd (lt_of_heap' hDef5) (fun e => ?_)]
      · exact hDef5
      · have e' : W4.heap.size = Dd := Option.some.inj (show some W4.heap.size = some Dd from e.symm)
        have := (F3.trans f4).size
        omega
    have hPl : PwAt W6 v6 (hd :: S.wt) := ownsRow_low hown6 (Nat.zero_le _)
    have hh116 : hd.2.length ≤ 1000 := by rw [← HHD.out]; show (J.head _ _ _).length ≤ 1000; rw [J.head_length]; omega
    have hput := jWrite1_calls O6.st hcl O6.c0 (fun hk => by have := jall_low O6.low A.heap.size (List.mem_cons_of_mem _ hk); omega) hPl (fun y hy => by
      rcases List.mem_cons.1 hy with rfl | hy
      · exact hh116
      · have := O4.all y hy; omega) (by have := O4.few; rw [List.length_cons]; omega)
    rw [HGIVE.out] at hput
    try dsimp only
    refine hK _ _ (fun _ => hS) ?_
    clear hK K
    try simp only [Act.put, List.setIfInBounds_toArray, List.set_cons_zero, List.set_cons_succ]
    refine keepReady (rs := [6]) (by kernel_rfl) (by simp) ?_
    refine AllK.cons rfl (fun K hK => ?_) AllK.nil
    go_simp
    refine hput.mono ?_
    rintro e W7 ⟨rfl, S7, F7⟩
    have hn7 : ∀ k, A.heap.size ≤ k → k ∉ jall L pl jl := fun k hk hk' => by have := jall_low O6.low k hk'; omega
    have G1 := F7.heap O6.c1 (hn7 _ (by omega))
    have hDef7 := F7.heap hDef6 (hn7 _ (by omega))
    have FA7 := O6.fr.trans F7
    have hS := And.intro (blk_cell (F7.heap O6.c2 (hn7 _ (by omega))) 0 rfl) (blk_cell (F7.heap O6.c3 (hn7 _ (by omega))) 0 rfl)
    have G0 := F7.heap O6.c0 (hn7 _ (by omega))
    try dsimp only
    refine hK _ _ (fun _ => hS) ?_
    clear hK K
    try simp only [Act.put, List.setIfInBounds_toArray, List.set_cons_zero, List.set_cons_succ]
    refine keepReady (rs := [7]) (by kernel_rfl) (by simp) ?_
    refine AllK.cons rfl (fun K hK => ?_) AllK.nil
    go_simp
    try dsimp only
    refine hK _ _ (fun h => absurd rfl h) ?_
    clear hK K
    try simp only [Act.put, List.setIfInBounds_toArray, List.set_cons_zero, List.set_cons_succ]
    refine keepDone (by kernel_rfl) ?_ _
    have hlow := O6.low
    have hlwA := O6.lwA
    have t1 : W7.cell? ⟨A.heap.size + 1, 0, none⟩ = some (.int .i64 0) := blk_cell G1 0 rfl
    have t1f := blk_free G1 0
    have hDd8 : A.heap.size + 8 ≤ Dd := by omega
    have hfz : ∀ W, Fr [Dd] W (W.putObj Dd (.deferred none)) := fun W => (Fr.refl _ _).putObj (.inl (by simp)) _
    have hDnew : ∀ k, k ∈ [Dd] → w.heap.size ≤ k ∧ k ∉ L.all ∧ k ∉ pl.all ∧ k ∉ jl.all := fun k hk => by
      obtain rfl : k = Dd := by simpa using hk
      exact ⟨by omega, fun h' => by have := hlow.1 _ h'; omega, fun h' => by have := hlow.2.1 _ h'; omega, fun h' => by have := hlow.2.2 _ h'; omega⟩
    have h1new : ∀ k, k ∈ [A.heap.size + 1] → w.heap.size ≤ k ∧ k ∉ L.all ∧ k ∉ pl.all ∧ k ∉ jl.all := fun k hk => by
      obtain rfl : k = A.heap.size + 1 := by simpa using hk
      exact ⟨by omega, fun h' => by have := hlow.1 _ h'; omega, fun h' => by have := hlow.2.1 _ h'; omega, fun h' => by have := hlow.2.2 _ h'; omega⟩
    by_cases hr0 : r.1 = 0
    · have k0 : (r.1 != 0) = false := by simp [hr0]
      rw [k0] at S7
      have rrow := ownsRow_fr' hr FA7 (fun k hk hk' => by
        have h1 := hrn k hk
        simp only [jall, List.mem_cons] at hk'
        rcases hk' with rfl | rfl | hk'
        · exact h1.2.2.2 rfl
        · exact h1.2.2.1 (by simp [PL.all])
        · exact h1.2.1 hk')
      have c0 : W7.cell? ⟨A.heap.size, 0, none⟩ = some (Jp jl) := blk_cell G0 0 rfl
      have c2 := S7.J.c2
      have c3 := S7.J.c3
      obtain ⟨rv0, c4, -⟩ := S7.J.c4
      have e2 := S7.J.f 2
      have e3 := S7.J.f 3
      have e4 := S7.J.f 4
      have hne : A.heap.size ≠ jl.b := fun e => by have := hlow.2.2 jl.b (by simp [JL.all]); omega
      go_wp2_with fail
      refine wp_region_keep (fun w' => w'.cell? ⟨A.heap.size, 0, none⟩ = some (Jp jl)) 14 (by kernel_rfl) ?_
      have hS : W7.drew.cell? ⟨A.heap.size, 0, none⟩ = some (Jp jl) := c0
      refine keepTake (i := 0) (v := ?_) (a' := ?_) rfl (by kernel_rfl) (by kernel_rfl) (by kernel_rfl) (by kernel_rfl) (by kernel_rfl) (by kernel_rfl) (fun w hSw => ?_) hS ?_ ?_
      rotate_left 2
      · (try dsimp only at hSw); (try (have hSa := hSw.1; have hSb := hSw.2)); (try (have hSc := hSb.1; have hSd := hSb.2)); go_simp; with_reducible rfl
      · go_simp; with_reducible rfl
      refine keepTake (i := 1) (v := ?_) (a' := ?_) rfl (by kernel_rfl) (by kernel_rfl) (by kernel_rfl) (by kernel_rfl) (by kernel_rfl) (by kernel_rfl) (fun w hSw => ?_) hS ?_ ?_
      rotate_left 2
      · (try dsimp only at hSw); (try (have hSa := hSw.1; have hSb := hSw.2)); (try (have hSc := hSb.1; have hSd := hSb.2)); go_simp; with_reducible rfl
      · go_simp; with_reducible rfl
      refine keepTake (i := 2) (v := ?_) (a' := ?_) rfl (by kernel_rfl) (by kernel_rfl) (by kernel_rfl) (by kernel_rfl) (by kernel_rfl) (by kernel_rfl) (fun w hSw => ?_) hS ?_ ?_
      rotate_left 2
      · (try dsimp only at hSw); (try (have hSa := hSw.1; have hSb := hSw.2)); (try (have hSc := hSb.1; have hSd := hSb.2)); go_simp; with_reducible rfl
      · go_simp; with_reducible rfl
      refine keepTake (i := 3) (v := ?_) (a' := ?_) rfl (by kernel_rfl) (by kernel_rfl) (by kernel_rfl) (by kernel_rfl) (by kernel_rfl) (by kernel_rfl) (fun w hSw => ?_) hS ?_ ?_
      rotate_left 2
      · (try dsimp only at hSw); (try (have hSa := hSw.1; have hSb := hSw.2)); (try (have hSc := hSb.1; have hSd := hSb.2)); go_simp; with_reducible rfl
      · go_simp; with_reducible rfl
      refine keepTake (i := 4) (v := ?_) (a' := ?_) rfl (by kernel_rfl) (by kernel_rfl) (by kernel_rfl) (by kernel_rfl) (by kernel_rfl) (by kernel_rfl) (fun w hSw => ?_) hS ?_ ?_
      rotate_left 2
      · (try dsimp only at hSw); (try (have hSa := hSw.1; have hSb := hSw.2)); (try (have hSc := hSb.1; have hSd := hSb.2)); go_simp; with_reducible rfl
      · go_simp; with_reducible rfl
      refine keepTake (i := 5) (v := ?_) (a' := ?_) rfl (by kernel_rfl) (by kernel_rfl) (by kernel_rfl) (by kernel_rfl) (by kernel_rfl) (by kernel_rfl) (fun w hSw => ?_) hS ?_ ?_
      rotate_left 2
      · (try dsimp only at hSw); (try (have hSa := hSw.1; have hSb := hSw.2)); (try (have hSc := hSb.1; have hSd := hSb.2)); go_simp; with_reducible rfl
      · go_simp; with_reducible rfl
      refine keepTake (i := 6) (v := ?_) (a' := ?_) rfl (by kernel_rfl) (by kernel_rfl) (by kernel_rfl) (by kernel_rfl) (by kernel_rfl) (by kernel_rfl) (fun w hSw => ?_) hS ?_ ?_
      rotate_left 2
      · (try dsimp only at hSw); (try (have hSa := hSw.1; have hSb := hSw.2)); (try (have hSc := hSb.1; have hSd := hSb.2)); go_simp; with_reducible rfl
      · go_simp; with_reducible rfl
      refine keepTake (i := 7) (v := ?_) (a' := ?_) rfl (by kernel_rfl) (by kernel_rfl) (by kernel_rfl) (by kernel_rfl) (by kernel_rfl) (by kernel_rfl) (fun w hSw => ?_) hS ?_ ?_
      rotate_left 2
      · (try dsimp only at hSw); (try (have hSa := hSw.1; have hSb := hSw.2)); (try (have hSc := hSb.1; have hSd := hSb.2)); go_simp; with_reducible rfl
      · go_simp; with_reducible rfl
      refine keepReady (rs := [8]) (by kernel_rfl) (by simp) ?_
      refine AllK.cons rfl (fun K hK => ?_) AllK.nil
      go_simp
      have hS : (W7.drew.setCell ⟨jl.b, 2, none⟩ (.int .i64 bk)).cell? ⟨A.heap.size, 0, none⟩ = some (Jp jl) := blk_cell ((heap_setCell_other _ _ _ _ hne).trans G0) 0 rfl
      try dsimp only
      refine hK _ _ (fun _ => hS) ?_
      clear hK K
      try simp only [Act.put, List.setIfInBounds_toArray, List.set_cons_zero, List.set_cons_succ]
      refine keepTake (i := 9) (v := ?_) (a' := ?_) rfl (by kernel_rfl) (by kernel_rfl) (by kernel_rfl) (by kernel_rfl) (by kernel_rfl) (by kernel_rfl) (fun w hSw => ?_) hS ?_ ?_
      rotate_left 2
      · (try dsimp only at hSw); (try (have hSa := hSw.1; have hSb := hSw.2)); (try (have hSc := hSb.1; have hSd := hSb.2)); go_simp; with_reducible rfl
      · go_simp; with_reducible rfl
      refine keepTake (i := 10) (v := ?_) (a' := ?_) rfl (by kernel_rfl) (by kernel_rfl) (by kernel_rfl) (by kernel_rfl) (by kernel_rfl) (by kernel_rfl) (fun w hSw => ?_) hS ?_ ?_
      rotate_left 2
      · (try dsimp only at hSw); (try (have hSa := hSw.1; have hSb := hSw.2)); (try (have hSc := hSb.1; have hSd := hSb.2)); go_simp; with_reducible rfl
      · go_simp; with_reducible rfl
      refine keepReady (rs := [11]) (by kernel_rfl) (by simp) ?_
      refine AllK.cons rfl (fun K hK => ?_) AllK.nil
      go_simp
      have hS : ((W7.drew.setCell ⟨jl.b, 2, none⟩ (.int .i64 bk)).setCell ⟨jl.b, 3, none⟩ (.string ⟨s.toArray⟩)).cell? ⟨A.heap.size, 0, none⟩ = some (Jp jl) := blk_cell ((heap_setCell_other _ _ _ _ hne).trans ((heap_setCell_other _ _ _ _ hne).trans G0)) 0 rfl
      try dsimp only
      refine hK _ _ (fun _ => hS) ?_
      clear hK K
      try simp only [Act.put, List.setIfInBounds_toArray, List.set_cons_zero, List.set_cons_succ]
      refine keepTake (i := 12) (v := ?_) (a' := ?_) rfl (by kernel_rfl) (by kernel_rfl) (by kernel_rfl) (by kernel_rfl) (by kernel_rfl) (by kernel_rfl) (fun w hSw => ?_) hS ?_ ?_
      rotate_left 2
      · (try dsimp only at hSw); (try (have hSa := hSw.1; have hSb := hSw.2)); (try (have hSc := hSb.1; have hSd := hSb.2)); go_simp; with_reducible rfl
      · go_simp; with_reducible rfl
      refine keepTake (i := 13) (v := ?_) (a' := ?_) rfl (by kernel_rfl) (by kernel_rfl) (by kernel_rfl) (by kernel_rfl) (by kernel_rfl) (by kernel_rfl) (fun w hSw => ?_) hS ?_ ?_
      rotate_left 2
      · (try dsimp only at hSw); (try (have hSa := hSw.1; have hSb := hSw.2)); (try (have hSc := hSb.1; have hSd := hSb.2)); go_simp; with_reducible rfl
      · go_simp; with_reducible rfl
      refine keepReady (rs := [14]) (by kernel_rfl) (by simp) ?_
      refine AllK.cons rfl (fun K hK => ?_) AllK.nil
      go_simp
      try dsimp only
      refine hK _ _ (fun h => absurd rfl h) ?_
      clear hK K
      try simp only [Act.put, List.setIfInBounds_toArray, List.set_cons_zero, List.set_cons_succ]
      refine keepDone (by kernel_rfl) ?_ _
      have SN := S7.newRecs bk s rrow hrn hbk hs hrs
      have fN : Fr [jl.b] W7 (((W7.setCell ⟨jl.b, 2, none⟩ (.int .i64 bk)).setCell ⟨jl.b, 3, none⟩ (.string ⟨s.toArray⟩)).setCell ⟨jl.b, 4, none⟩ (.slice rp rs.length rc)) := (((Fr.refl _ _).setCell (.inl (by simp)) _).setCell (.inl (by simp)) _).setCell (.inl (by simp)) _
      have G1N := fN.heap G1 (by simp; intro e; have := hlow.2.2 jl.b (by simp [JL.all]); omega)
      have DN := fN.heap hDef7 (by simp; intro e; have := hlow.2.2 jl.b (by simp [JL.all]); omega)
      have FN := FA7.then fN (fun k hk => .inl (by obtain rfl : k = jl.b := by simpa using hk
                                                   simp [jall]))
      change JSt w L pl r.2.1 r.2.2 _ _ (((W7.setCell ⟨jl.b, 2, none⟩ (.int .i64 bk)).setCell ⟨jl.b, 3, none⟩ (.string ⟨s.toArray⟩)).setCell ⟨jl.b, 4, none⟩ (.slice rp rs.length rc)) at SN
      generalize ((W7.setCell ⟨jl.b, 2, none⟩ (.int .i64 bk)).setCell ⟨jl.b, 3, none⟩ (.string ⟨s.toArray⟩)).setCell ⟨jl.b, 4, none⟩ (.slice rp rs.length rc) = WN at SN fN G1N DN FN ⊢
      have u1 : WN.drew.cell? ⟨A.heap.size + 1, 0, none⟩ = some (.int .i64 0) := blk_cell G1N 0 rfl
      have u1f : WN.drew.frozen? ⟨A.heap.size + 1, 0, none⟩ = false := blk_free G1N 0
      have fM : Fr [A.heap.size + 1] WN (WN.drew.setCell ⟨A.heap.size + 1, 0, none⟩ (.int .i64 0)) := (Fr.refl _ _).drew.setCell (.inl (by simp)) _
      have gM := heap_setCell_same' WN.drew _ 0 _ _ (.int .i64 0) G1N
      generalize WN.drew = WD at u1 u1f fM gM ⊢
      go_wp2_with fail
      have low' : ∀ k ∈ (⟨jl.b, (Value.slice rp rs.length rc).ownBlock⟩ : JL).all, k < A.heap.size := by
        intro k hk
        simp only [JL.all, List.mem_cons, Option.mem_toList] at hk
        rcases hk with rfl | hk
        · exact hlow.2.2 _ (by simp [JL.all])
        · exact (hr.lt k hk).2
      have h1new' : ∀ k, k ∈ [A.heap.size + 1] → w.heap.size ≤ k ∧ k ∉ L.all ∧ k ∉ pl.all ∧ k ∉ (⟨jl.b, (Value.slice rp rs.length rc).ownBlock⟩ : JL).all := fun k hk => ⟨(h1new k hk).1, (h1new k hk).2.1, (h1new k hk).2.2.1, fun h' => by have := low' k h'; simp at hk; omega⟩
      have hDnew' : ∀ k, k ∈ [Dd] → w.heap.size ≤ k ∧ k ∉ L.all ∧ k ∉ pl.all ∧ k ∉ (⟨jl.b, (Value.slice rp rs.length rc).ownBlock⟩ : JL).all := fun k hk => ⟨(hDnew k hk).1, (hDnew k hk).2.1, (hDnew k hk).2.2.1, fun h' => by have := low' k h'; simp at hk; omega⟩
      have SM := SN.frS fM h1new'
      have dM := fM.heap DN (by simp; omega)
      have FM := FN.then fM (fun k hk => .inr (by simp at hk; omega))
      generalize WD.setCell ⟨A.heap.size + 1, 0, none⟩ (.int .i64 0) = WX at fM gM SM dM FM ⊢
      refine ⟨by simp, .inl ⟨_, _, rfl, run_takeDeferred dM, ?_⟩⟩
      refine leaves_one rfl Tryz.underlying34 rfl rfl ((hfz WX).heap gM (by simp; omega)) ?_
      rw [HFIN2.out]
      exact ⟨⟨jl.b, (Value.slice rp rs.length rc).ownBlock⟩, by rw [hr0], rfl, by rw [if_pos hr0]; exact SM.frS (hfz WX) hDnew', FM.then (hfz WX) (fun k hk => .inr (by simp at hk; omega))⟩
    · have k0 : (r.1 != 0) = true := by simp [hr0]
      rw [k0] at S7
      go_wp2_with fail
      have fX : Fr [A.heap.size + 1] W7 (W7.setCell ⟨A.heap.size + 1, 0, none⟩ (.int .i64 r.1)) := (Fr.refl _ _).setCell (.inl (by simp)) _
      have gX := heap_setCell_same' W7 _ 0 _ _ (.int .i64 r.1) G1
      have SX := S7.frS fX h1new
      have dX := fX.heap hDef7 (by simp; omega)
      have FX := FA7.then fX (fun k hk => .inr (by simp at hk; omega))
      generalize W7.setCell ⟨A.heap.size + 1, 0, none⟩ (.int .i64 r.1) = WX at fX gX SX dX FX ⊢
      refine ⟨by simp, .inl ⟨_, _, rfl, run_takeDeferred dX, ?_⟩⟩
      refine leaves_one rfl Tryz.underlying34 rfl rfl ((hfz WX).heap gX (by simp; omega)) ?_
      rw [HFIN2.out]
      exact ⟨jl, rfl, rfl, by rw [if_neg hr0]; exact SX.frS (hfz WX) hDnew, FX.then (hfz WX) (fun k hk => .inr (by simp at hk; omega))⟩
  case stop =>
    rintro Dd c pre W hDd hpre ⟨rfl, r, hr0, O, hj⟩ hDef
    obtain ⟨rest, hrest⟩ := hpre
    have hfin := hj (rest.map (·.1))
    rw [← List.map_append, hrest, hxs] at hfin
    rw [wpIn_wide]
    go_wp2_with fail
    have hfz : Fr [Dd] W (W.putObj Dd (.deferred none)) := (Fr.refl _ _).putObj (.inl (by simp)) _
    have hDn : A.heap.size + 8 ≤ Dd := by omega
    refine ⟨by simp, .inl ⟨_, _, rfl, run_takeDeferred hDef, ?_⟩⟩
    refine leaves_one rfl Tryz.underlying34 rfl rfl (hfz.heap O.c1 (by simp; omega)) ?_
    have hlow := O.low
    have hlwA := O.lwA
    have hfin' : jgo hd ⟨d, p, []⟩ (J.writes j.half bk s a) = r := hfin
    rw [hfin']
    have hDnew : ∀ k, k ∈ [Dd] → w.heap.size ≤ k ∧ k ∉ L.all ∧ k ∉ pl.all ∧ k ∉ jl.all := fun k hk => by
      obtain rfl : k = Dd := by simpa using hk
      exact ⟨by omega, fun h' => by have := hlow.1 _ h'; omega, fun h' => by have := hlow.2.1 _ h'; omega, fun h' => by have := hlow.2.2 _ h'; omega⟩
    exact ⟨jl, rfl, rfl, by rw [if_neg hr0]; exact O.st.frS hfz hDnew, O.fr.then hfz (fun k hk => .inr (by simp at hk; omega))⟩
end
end Go.Proofs.YtcnhlemenpgkbaaGreatDoor
