/- The law's step. -/
import Derived.Test.YtcnhlemenpgkbaaGreatDoorJW13
import Derived.Test.YtcnhlemenpgkbaaGreatDoorJourG
namespace Go.Proofs.YtcnhlemenpgkbaaGreatDoor
set_option linter.unusedSimpArgs false
set_option linter.unusedVariables false
set_option linter.unnecessarySimpa false
open Go.RowKit M

theorem check_zero {j : Jrn} {s : Bytes} {l : List Bytes} (hcl : j.closed = false) (h : j.check s l = 0) : (∀ r ∈ l, r.length ≤ 8000) ∧ s.length ≤ j.half * 116 := by
  unfold Jrn.check at h
  rw [hcl, if_neg (by simp)] at h
  split at h
  · simp at h
  · rename_i hl
    split at h
    · simp at h
    · refine ⟨fun r hr => ?_, by omega⟩
      refine Nat.le_of_not_lt fun hlt => hl ?_
      unfold longs
      rw [List.any_eq_true]
      exact ⟨r, hr, by simpa using hlt⟩
theorem check_code {j : Jrn} {s : Bytes} {l : List Bytes} (hcl : j.closed = false) (h : j.check s l ≠ 0) : j.check s l = 2 ∨ j.check s l = 21 := by
  unfold Jrn.check at h ⊢
  rw [hcl, if_neg (by simp)] at h ⊢
  split
  · exact .inl rfl
  · rename_i h1
    rw [if_neg h1] at h
    split
    · exact .inr rfl
    · rename_i h2
      rw [if_neg h2] at h
      exact absurd rfl h

/-- A step that writes. -/
structure StepM where
  kind : Int
  n : Int
  fill : UInt8
  sizes : List Int
def StepM.after (x : StepM) (before : List Bytes) : List Bytes := if x.kind = 2 then texts x.fill x.sizes else before ++ [tx x.fill x.n]

/-- What a step comes to. -/
def StepPost (w A : World) (L : DL) (pl : PL) (d : Disk) (p : M.Pages) (jl : JL) (j : Jrn) (after : List Bytes) (code : Int) (B : World) : Prop :=
  ((code = 2 ∨ code = 21) ∧ JSt w L pl d p jl j B ∧ Fr [] A B) ∨
  (∃ r jl' bank' a, r = jgo (0, J.head bank' (J.stream after).length after.length) ⟨d, p, []⟩ (J.writes j.half bank' (J.stream after) a) ∧ J.Fits j.half j.bank bank' j.recs (J.stream after) a ∧ (∀ r ∈ after, r.length ≤ 8000) ∧ code = r.1 ∧
    (∃ j' : Jrn, JSt w L pl r.2.1 r.2.2 jl' j' B) ∧ Fr (jall L pl jl) A B)

theorem StepPost.before {w A A' B : World} {L : DL} {pl : PL} {d : Disk} {p : M.Pages} {jl : JL} {j : Jrn} {after : List Bytes} {code : Int} (h : StepPost w A' L pl d p jl j after code B) (f : Fr [] A A') : StepPost w A L pl d p jl j after code B := by
  rcases h with ⟨h1, h2, h3⟩ | ⟨r, jl', b, a, h1, h2, h3, h4, h5, h6⟩
  · exact .inl ⟨h1, h2, f.trans h3⟩
  · exact .inr ⟨r, jl', b, a, h1, h2, h3, h4, h5, f.any.trans h6⟩
theorem StepPost.behind {w A B C : World} {L : DL} {pl : PL} {d : Disk} {p : M.Pages} {jl : JL} {j : Jrn} {after : List Bytes} {code : Int} (h : StepPost w A L pl d p jl j after code B) (f : Fr [] B C) : StepPost w A L pl d p jl j after code C := by
  rcases h with ⟨h1, h2, h3⟩ | ⟨r, jl', b, a, h1, h2, h3, h4, ⟨j', h5⟩, h6⟩
  · exact .inl ⟨h1, h2.fr0 f, h3.trans f⟩
  · exact .inr ⟨r, jl', b, a, h1, h2, h3, h4, ⟨j', h5.fr0 f⟩, h6.trans f.any⟩
theorem StepPost.fr {w A B : World} {L : DL} {pl : PL} {d : Disk} {p : M.Pages} {jl : JL} {j : Jrn} {after : List Bytes} {code : Int} (h : StepPost w A L pl d p jl j after code B) : Fr (jall L pl jl) A B := by
  rcases h with ⟨h1, h2, h3⟩ | ⟨r, jl', b, a, h1, h2, h3, h4, h5, h6⟩
  · exact h3.any
  · exact h6
theorem rp_step {w A B : World} {L : DL} {pl : PL} {d : Disk} {p : M.Pages} {jl : JL} {j : Jrn} {rs : List Bytes} {e : Ending} (hcl : j.closed = false) (hbk : j.bank ≤ 1) (h : RpPost w A L pl d p jl j rs e B) : ∃ code, e = .returned (.int .i64 code) ∧ StepPost w A L pl d p jl j rs code B := by
  rcases h with ⟨h1, h2, h3, h4⟩ | ⟨h1, r, jl', h2, h3, _, h5, h6⟩
  · exact ⟨_, h2, .inl ⟨check_code hcl h1, h3, h4⟩⟩
  · obtain ⟨c1, c2⟩ := check_zero hcl h1
    exact ⟨_, h3, .inr ⟨r, jl', 1 - j.bank, 0, h2, ⟨by omega, c2, .inr ⟨by omega, rfl⟩⟩, c1, rfl, ⟨_, h5⟩, h6⟩⟩
theorem ap_step {w A B : World} {L : DL} {pl : PL} {d : Disk} {p : M.Pages} {jl : JL} {j : Jrn} {rec : Bytes} {e : Ending} (hcl : j.closed = false) (hbk : j.bank ≤ 1) (hst : j.stream = J.stream j.recs) (h8 : ∀ r ∈ j.recs, r.length ≤ 8000) (h : ApPost w A L pl d p jl j rec e B) :
    ∃ n code, e = .returned (.tuple #[.int .i64 n, .int .i64 code]) ∧ StepPost w A L pl d p jl j (j.recs ++ [rec]) code B := by
  rcases h with ⟨h1, h2, h3, h4⟩ | ⟨h1, r, jl', h2, h3, _, h5, h6⟩
  · exact ⟨_, _, h2, .inl ⟨check_code hcl h1, h3, h4⟩⟩
  · obtain ⟨c1, c2⟩ := check_zero hcl h1
    have hs : J.stream (j.recs ++ [rec]) = j.stream ++ J.piece rec := by rw [J.stream_snoc, hst]
    refine ⟨_, _, h3, .inr ⟨r, jl', j.bank, j.stream.length, by rw [hs]; exact h2, ⟨hbk, by rw [hs]; exact c2, .inl ⟨rfl, by rw [hst], by rw [hs, ← hst, List.take_left' rfl]⟩⟩, fun x hx => ?_, rfl, ⟨_, h5⟩, h6⟩⟩
    rcases List.mem_append.1 hx with hx | hx
    · exact h8 x hx
    · exact c1 x hx

section
variable {w A : World} {L : DL} {pl : PL} {d : Disk} {p : M.Pages} {jl : JL} {j : Jrn}

theorem texts_few (f : UInt8) (ns : List Int) : (texts f ns).length ≤ 30 := by unfold texts; rw [tlist_length]; omega
theorem stream_bound : ∀ l : List Bytes, (∀ r ∈ l, r.length ≤ 8100) → (J.stream l).length ≤ 8102 * l.length
  | [], _ => by simp [J.stream]
  | r :: l, h => by
    have ih := stream_bound l (fun x hx => h x (by simp [hx]))
    have := h r (by simp)
    rw [J.stream_cons, List.length_append, List.length_cons]
    unfold J.piece
    rw [List.length_append, le_length]
    omega
theorem texts_bound (f : UInt8) (ns : List Int) : (J.stream (texts f ns)).length ≤ 500000 := by
  have h := stream_bound (texts f ns) (fun r hr => by
    unfold texts tlist at hr
    obtain ⟨i, _, rfl⟩ := List.mem_map.1 hr
    rw [tx_length]
    omega)
  have := texts_few f ns
  omega

set_option maxRecDepth 100000 in
set_option maxHeartbeats 1000000 in
theorem vStep_calls (h : JSt w L pl d p jl j A) (hcl : j.closed = false) (hst : j.stream = J.stream j.recs) (h8 : ∀ r ∈ j.recs, r.length ≤ 8000) (hs5 : j.stream.length ≤ 100000) (x : StepM) {N : Nat → Prop} {sv : Value} (hsz : IntsAt N A sv x.sizes) (hxb : ∀ y ∈ x.sizes, -9223372036854775808 ≤ y ∧ y ≤ 9223372036854775807) (hxn : -9223372036854775808 ≤ x.n ∧ x.n ≤ 9223372036854775807)
    {bv : Value} (hb : A.ownsRow 0 9 1 bv j.recs.length (strs j.recs)) (hbn : ∀ k, bv.ownBlock = some k → k ∉ jall L pl jl) :
    Calls Tryz.prog 7 #[Jp jl, .agg #[.int .i64 x.kind, .int .i64 x.n, .int .u8 x.fill.toNat, sv], bv] A fun e B => ∃ code v', e = .returned (.tuple #[.int .i64 code, v']) ∧ StepPost w A L pl d p jl j (x.after j.recs) code B ∧
      B.ownsRow A.heap.size 9 1 v' (x.after j.recs).length (strs (x.after j.recs)) := by
  have few := h.J.few
  have hcnt := J.stream_count j.recs
  rw [← hst] at hcnt
  have hlow := h.allLt
  obtain ⟨kd, n, f, ns⟩ := x
  simp only at hsz hxb hxn ⊢
  have gA := heap_alloc_new A (.cells #[.int .i64 kd, .int .i64 n, .int .u8 f.toNat, sv] 32)
  have fA := (Fr.refl [] A).alloc (.cells #[.int .i64 kd, .int .i64 n, .int .u8 f.toNat, sv] 32)
  have sA : A.heap.size < (A.alloc (.cells #[.int .i64 kd, .int .i64 n, .int .u8 f.toNat, sv] 32)).heap.size := by simp
  by_cases h2 : kd = 2
  · subst h2
    have haf : StepM.after ⟨2, n, f, ns⟩ j.recs = texts f ns := if_pos rfl
    rw [haf]
    go_enter Tryz.func7, Tryz.ntmps7
    go_wp2_with fail
    generalize A.alloc (.cells #[.int .i64 2, .int .i64 n, .int .u8 f.toNat, sv] 32) = w1 at gA fA sA ⊢
    refine (vTexts_calls 2 n f (hsz.fr fA (by simp)) hxb).mono ?_
    rintro e w2 ⟨v', rfl, hrow, f2⟩
    have S2 := h.fr0 (fA.trans f2)
    have f30 := texts_few f ns
    have hrp := Late.jReplace_calls S2 hcl (ownsRow_low hrow (Nat.zero_le _)) (by omega) (texts_bound f ns)
    obtain ⟨vp, vc, rfl⟩ := ownsRow_len hrow
    go_wp2_with fail
    refine hrp.mono ?_
    rintro e B hR
    obtain ⟨code, rfl, hP⟩ := rp_step hcl few.2.2.1 hR
    have hrowB := ownsRow_fr' hrow hP.fr (fun k hk hk' => by have := (hrow.lt k hk).1; have := hlow k hk'; omega)
    go_wp2_with fail
    go_ret2
    exact ⟨code, _, rfl, hP.before (fA.trans f2), ownsRow_low hrowB (by omega)⟩
  · have haf : StepM.after ⟨kd, n, f, ns⟩ j.recs = j.recs ++ [tx f n] := if_neg h2
    rw [haf]
    have k2 : (kd == 2) = false := by simpa using h2
    have htc := fun W => vText_calls (w := W) f n hxn.1 hxn.2
    have htl := tx_length f n
    have htl' : (tx f n).length ≤ 8100 := by omega
    clear h2 haf htl
    generalize tx f n = tt at htl' htc ⊢
    go_enter Tryz.func7, Tryz.ntmps7
    go_wp2_with fail
    generalize A.alloc (.cells #[.int .i64 kd, .int .i64 n, .int .u8 f.toNat, sv] 32) = w1 at gA fA sA ⊢
    refine (htc _).mono ?_
    rintro e w2 ⟨rfl, f2⟩
    have S2 := h.fr0 (fA.trans f2)
    have hap := Late.jAppend_calls S2 hcl (by omega) hs5 tt (by omega)
    go_wp2_with fail
    refine hap.mono ?_
    rintro e B hR
    obtain ⟨n1, code, rfl, hP⟩ := ap_step hcl few.2.2.1 hst h8 hR
    have hFB := (fA.trans f2).any.trans hP.fr
    have hbB := ownsRow_fr' hb hFB (fun k hk hk' => hbn k hk hk')
    go_wp2_with (first | (with_reducible refine wpL_stop (o := ⟨_, .alloc 59, _, _, _, none⟩) ?_) | (with_reducible refine wpL_stop (o := ⟨_, .load 59 _, _, _, _, none⟩) ?_) | (with_reducible refine wpL_stop (o := ⟨_, .store 59 _ _, _, _, _, none⟩) ?_) | (with_reducible refine wpL_stop (o := ⟨_, .lookup _ _ _ _, _, _, _, none⟩) ?_) | (with_reducible refine wpL_stop (o := ⟨_, .box 59 _, _, _, _, none⟩) ?_) | (with_reducible refine wpL_stop (o := ⟨_, .next _ _, _, _, _, none⟩) ?_) | (with_reducible refine wpL_stop (o := ⟨_, .range _ _, _, _, _, none⟩) ?_) | (with_reducible refine wpL_stop (o := ⟨_, .mapUpdate _ _ _ _, _, _, _, none⟩) ?_) | (with_reducible refine wpL_stop (o := ⟨_, .convert 23 9 _, _, _, _, none⟩) ?_) | (with_reducible refine wpL_stop (o := ⟨_, .convert 9 23 _, _, _, _, none⟩) ?_) | (with_reducible refine wpL_stop (o := ⟨_, .call { callee := .builtin .copy, args := _, argTypes := _ }, _, _, _, none⟩) ?_) | (with_reducible refine wpL_stop (o := ⟨_, .call { callee := .builtin .append, args := _, argTypes := _ }, _, _, _, none⟩) ?_) | (with_reducible refine wpL_stop (o := ⟨_, .call { callee := .builtin .clear, args := _, argTypes := _ }, _, _, _, none⟩) ?_) | (with_reducible refine wpL_stop (o := ⟨_, .makeSlice _ _ _, _, _, _, none⟩) ?_) | (with_reducible refine wpL_stop (o := ⟨_, .makeMap _ _, _, _, _, none⟩) ?_) | (with_reducible refine wpL_stop (o := ⟨_, .entry _, _, _, _, none⟩) ?_) | (with_reducible refine wpL_stop (o := ⟨_, .call { callee := .builtin .max, args := _, argTypes := _ }, _, _, _, none⟩) ?_) | (with_reducible refine wpL_stop (o := ⟨_, .call { callee := .builtin .min, args := _, argTypes := _ }, _, _, _, none⟩) ?_) | (with_reducible refine wpL_stop (o := ⟨_, .slice 59 _ none (some _) none, _, _, _, none⟩) ?_) | (with_reducible refine wpL_stop (o := ⟨_, .binOp .add 9 _ _ _, _, _, _, none⟩) ?_) | (with_reducible refine wpL_stop (o := ⟨_, .slice 9 _ _ _ _, _, _, _, none⟩) ?_))
    have r0 : (B.alloc (.cells #[] 9)).ownsRow B.heap.size 9 1 (.slice (some ⟨B.heap.size, 0, none⟩) 0 0) 0 [] := World.ownsRow_made B #[] 0 (Nat.le_refl _) (by unfold maxLen; omega) rfl
    have f0 := (Fr.refl [] B).alloc (.cells #[] 9)
    have hb0 := ownsRow_fr' hbB f0 (by simp)
    have s0 := f0.size
    generalize B.alloc (.cells #[] 9) = w5 at r0 f0 hb0 s0 ⊢
    rcases hb0.2 with ⟨rfl, hz⟩ | ⟨g, cap, cur, rfl, _, hg, hcap, _, hsz, htk⟩
    · have hz' : j.recs = [] := List.eq_nil_of_length_eq_zero hz
      refine unhold (wpL_append_none rfl _ _ _ rfl 9 Tryz.underlying30 1 (by kernel_rfl) (some ⟨B.heap.size, 0, none⟩) none 0 0 0 rfl rfl (Nat.le_refl _) ?_)
      go_wp2_with (first | (with_reducible refine wpL_stop (o := ⟨_, .alloc 59, _, _, _, none⟩) ?_) | (with_reducible refine wpL_stop (o := ⟨_, .load 59 _, _, _, _, none⟩) ?_) | (with_reducible refine wpL_stop (o := ⟨_, .store 59 _ _, _, _, _, none⟩) ?_) | (with_reducible refine wpL_stop (o := ⟨_, .lookup _ _ _ _, _, _, _, none⟩) ?_) | (with_reducible refine wpL_stop (o := ⟨_, .box 59 _, _, _, _, none⟩) ?_) | (with_reducible refine wpL_stop (o := ⟨_, .next _ _, _, _, _, none⟩) ?_) | (with_reducible refine wpL_stop (o := ⟨_, .range _ _, _, _, _, none⟩) ?_) | (with_reducible refine wpL_stop (o := ⟨_, .mapUpdate _ _ _ _, _, _, _, none⟩) ?_) | (with_reducible refine wpL_stop (o := ⟨_, .convert 23 9 _, _, _, _, none⟩) ?_) | (with_reducible refine wpL_stop (o := ⟨_, .convert 9 23 _, _, _, _, none⟩) ?_) | (with_reducible refine wpL_stop (o := ⟨_, .call { callee := .builtin .copy, args := _, argTypes := _ }, _, _, _, none⟩) ?_) | (with_reducible refine wpL_stop (o := ⟨_, .call { callee := .builtin .append, args := _, argTypes := _ }, _, _, _, none⟩) ?_) | (with_reducible refine wpL_stop (o := ⟨_, .call { callee := .builtin .clear, args := _, argTypes := _ }, _, _, _, none⟩) ?_) | (with_reducible refine wpL_stop (o := ⟨_, .makeSlice _ _ _, _, _, _, none⟩) ?_) | (with_reducible refine wpL_stop (o := ⟨_, .makeMap _ _, _, _, _, none⟩) ?_) | (with_reducible refine wpL_stop (o := ⟨_, .entry _, _, _, _, none⟩) ?_) | (with_reducible refine wpL_stop (o := ⟨_, .call { callee := .builtin .max, args := _, argTypes := _ }, _, _, _, none⟩) ?_) | (with_reducible refine wpL_stop (o := ⟨_, .call { callee := .builtin .min, args := _, argTypes := _ }, _, _, _, none⟩) ?_) | (with_reducible refine wpL_stop (o := ⟨_, .slice 59 _ none (some _) none, _, _, _, none⟩) ?_) | (with_reducible refine wpL_stop (o := ⟨_, .binOp .add 9 _ _ _, _, _, _, none⟩) ?_) | (with_reducible refine wpL_stop (o := ⟨_, .slice 9 _ _ _ _, _, _, _, none⟩) ?_))
      have gX := heap_alloc_new w5 (.cells #[str tt] 9)
      have fX := (Fr.refl [] w5).alloc (.cells #[str tt] 9)
      have rX := ownsRow_fr' r0 fX (by simp)
      have FX := f0.trans fX
      have sX := fX.size
      generalize w5.alloc (.cells #[str tt] 9) = wx at gX fX rX FX sX ⊢
      refine unhold (wpL_append' rfl _ _ 30 rfl B.heap.size 9 _ 1 16 Tryz.underlying30 strInfo rfl (by decide) (by decide) (.slice (some ⟨B.heap.size, 0, none⟩) 0 0) 0 (strs []) rfl rX w5.heap.size 1 1 [str tt] rfl rfl _ _ _ gX (by intro j u hj; simpa using hj) (by simp [Value.oneCell']) (by omega) (by have := FX.size; omega) ?_)
      intro v2 w9 hown9 hF9 hgr9 hsz9
      have F9 := FX.grown hgr9 (fun q hq => .inr (rX.lt q hq).1)
      have hfin : w9.ownsRow A.heap.size 9 1 v2 (j.recs ++ [tt]).length (strs (j.recs ++ [tt])) := ownsRow_low (by rw [hz']; simpa [strs] using hown9) (by have := hFB.size; omega)
      obtain ⟨vp9, vc9, rfl⟩ := ownsRow_len hown9
      go_wp2_with fail
      go_ret2
      exact ⟨code, _, rfl, (hP.before (fA.trans f2)).behind F9, hfin⟩
    · refine unhold (wpL_append' rfl _ _ 30 rfl B.heap.size 9 _ 1 16 Tryz.underlying30 strInfo rfl (by decide) (by decide) (.slice (some ⟨B.heap.size, 0, none⟩) 0 0) 0 [] rfl r0 g j.recs.length cap (strs j.recs) rfl (by simp [strs]) _ cur _ hg ?_ (by
        intro u hu
        unfold strs at hu
        obtain ⟨s, _, rfl⟩ := List.mem_map.1 hu
        rfl) (by omega) s0 ?_)
      · intro q u hq
        rw [← htk, List.getElem?_take] at hq
        split at hq
        · simpa using hq
        · cases hq
      intro v7 w7 hown7 hF7 hgr7 hsz7
      have F7 := f0.grown hgr7 (fun q hq => .inr (r0.lt q hq).1)
      rw [Nat.zero_add, List.nil_append] at hown7
      obtain ⟨vp7, vc7, rfl⟩ := ownsRow_len hown7
      go_wp2_with (first | (with_reducible refine wpL_stop (o := ⟨_, .alloc 59, _, _, _, none⟩) ?_) | (with_reducible refine wpL_stop (o := ⟨_, .load 59 _, _, _, _, none⟩) ?_) | (with_reducible refine wpL_stop (o := ⟨_, .store 59 _ _, _, _, _, none⟩) ?_) | (with_reducible refine wpL_stop (o := ⟨_, .lookup _ _ _ _, _, _, _, none⟩) ?_) | (with_reducible refine wpL_stop (o := ⟨_, .box 59 _, _, _, _, none⟩) ?_) | (with_reducible refine wpL_stop (o := ⟨_, .next _ _, _, _, _, none⟩) ?_) | (with_reducible refine wpL_stop (o := ⟨_, .range _ _, _, _, _, none⟩) ?_) | (with_reducible refine wpL_stop (o := ⟨_, .mapUpdate _ _ _ _, _, _, _, none⟩) ?_) | (with_reducible refine wpL_stop (o := ⟨_, .convert 23 9 _, _, _, _, none⟩) ?_) | (with_reducible refine wpL_stop (o := ⟨_, .convert 9 23 _, _, _, _, none⟩) ?_) | (with_reducible refine wpL_stop (o := ⟨_, .call { callee := .builtin .copy, args := _, argTypes := _ }, _, _, _, none⟩) ?_) | (with_reducible refine wpL_stop (o := ⟨_, .call { callee := .builtin .append, args := _, argTypes := _ }, _, _, _, none⟩) ?_) | (with_reducible refine wpL_stop (o := ⟨_, .call { callee := .builtin .clear, args := _, argTypes := _ }, _, _, _, none⟩) ?_) | (with_reducible refine wpL_stop (o := ⟨_, .makeSlice _ _ _, _, _, _, none⟩) ?_) | (with_reducible refine wpL_stop (o := ⟨_, .makeMap _ _, _, _, _, none⟩) ?_) | (with_reducible refine wpL_stop (o := ⟨_, .entry _, _, _, _, none⟩) ?_) | (with_reducible refine wpL_stop (o := ⟨_, .call { callee := .builtin .max, args := _, argTypes := _ }, _, _, _, none⟩) ?_) | (with_reducible refine wpL_stop (o := ⟨_, .call { callee := .builtin .min, args := _, argTypes := _ }, _, _, _, none⟩) ?_) | (with_reducible refine wpL_stop (o := ⟨_, .slice 59 _ none (some _) none, _, _, _, none⟩) ?_) | (with_reducible refine wpL_stop (o := ⟨_, .binOp .add 9 _ _ _, _, _, _, none⟩) ?_) | (with_reducible refine wpL_stop (o := ⟨_, .slice 9 _ _ _ _, _, _, _, none⟩) ?_))
      have gX := heap_alloc_new w7 (.cells #[str tt] 9)
      have fX := (Fr.refl [] w7).alloc (.cells #[str tt] 9)
      have rX := ownsRow_fr' hown7 fX (by simp)
      have FX := F7.trans fX
      have sX := fX.size
      generalize w7.alloc (.cells #[str tt] 9) = wx at gX fX rX FX sX ⊢
      refine unhold (wpL_append' rfl _ _ 30 rfl B.heap.size 9 _ 1 16 Tryz.underlying30 strInfo rfl (by decide) (by decide) (.slice vp7 j.recs.length vc7) j.recs.length (strs j.recs) rfl rX w7.heap.size 1 1 [str tt] rfl rfl _ _ _ gX (by intro j u hj; simpa using hj) (by simp [Value.oneCell']) (by omega) (by have := FX.size; omega) ?_)
      intro v2 w9 hown9 hF9 hgr9 hsz9
      have F9 := FX.grown hgr9 (fun q hq => .inr (rX.lt q hq).1)
      have hfin : w9.ownsRow A.heap.size 9 1 v2 (j.recs ++ [tt]).length (strs (j.recs ++ [tt])) := ownsRow_low (by rw [show j.recs = j.recs from rfl]; simpa [strs] using hown9) (by have := hFB.size; omega)
      obtain ⟨vp9, vc9, rfl⟩ := ownsRow_len hown9
      go_wp2_with fail
      go_ret2
      exact ⟨code, _, rfl, (hP.before (fA.trans f2)).behind F9, hfin⟩
end
end Go.Proofs.YtcnhlemenpgkbaaGreatDoor
