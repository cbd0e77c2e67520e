/- As Held, where the operations from number e on may turn what the region has read. -/
import Derived.Test.YtcnhlemenpgkbaaGreatDoorHeld
namespace Go.Proofs.YtcnhlemenpgkbaaGreatDoor
set_option linter.unusedSimpArgs false
set_option linter.unusedVariables false
set_option linter.unnecessarySimpa false
namespace Late

section
variable {P : Program} {ops : Array Oper} {Q : Exit → Act → World → Prop} {md : Region.Mode} {S : World → Prop} {e : Nat}

/-- Whatever order is picked; S holds behind every operation but number e. -/
def anyK (P : Program) (md : Region.Mode) (ops : Array Oper) (Q : Exit → Act → World → Prop) (S : World → Prop) (e : Nat) : Nat → Array Bool → Act → World → Prop
  | 0, l, a, w => Region.ready md ops l = [] ∧ Q .normal a w
  | n + 1, l, a, w => (Region.ready md ops l = [] → Q .normal a w) ∧ ∀ i ∈ Region.ready md ops l, wpOp P ops (Only Q) i (fun a' w' => (i < e → S w') ∧ anyK P md ops Q S e n (l.setIfInBounds i true) a' w') a w

theorem anyK_any : ∀ (n : Nat) (l : Array Bool) (a : Act) (w : World), anyK P md ops Q S e n l a w → wpAny P md ops (Only Q) n l a w
  | 0, _, _, _, h => ⟨h.1, rfl, h.2⟩
  | n + 1, _, _, _, h => ⟨fun h0 => ⟨rfl, h.1 h0⟩, fun i hi => wpOp_mono (fun a' w' h' => anyK_any n _ a' w' h'.2) (h.2 i hi)⟩

theorem anyK_first {i : Nat} {oi : Oper} {v : Value} (hi : ops[i]? = some oi) (hsel : ∀ (j : Nat) (o : Oper) cs b, ops[j]? = some o → o.op ≠ .select cs b) (hw : ∀ k, e ≤ k → k < ops.size → k = i ∨ ∃ m, waitsT md ops m k i = true) :
    ∀ (n : Nat) (l : Array Bool) (a : Act) (w : World), Closed md ops l → (∀ j oj, ops[j]? = some oj → j ≠ i → l.getD j true = false → (∀ x ∈ oj.after, Region.binds md x = true → x.on ≠ i) → oi.apart ops oj = true) →
      i ∈ Region.ready md ops l → YieldsIf P ops S oi v a → S w → anyK P md ops Q S e n (l.setIfInBounds i true) (a.put oi.dst v) w → anyK P md ops Q S e (n + 1) l a w := by
  intro n
  induction n with
  | zero =>
    intro l a w _ _ hr hy hS H
    refine ⟨fun h0 => (by rw [h0] at hr; cases hr), fun j hj => ?_⟩
    by_cases hji : j = i
    · rw [hji]; exact hy.wpOp hi hS ⟨fun _ => hS, H⟩
    · have := ready_mono hj hji
      rw [H.1] at this
      cases this
  | succ n ih =>
    intro l a w hcl hfree hr hy hS H
    refine ⟨fun h0 => (by rw [h0] at hr; cases hr), fun j hj => ?_⟩
    by_cases hji : j = i
    · rw [hji]; exact hy.wpOp hi hS ⟨fun _ => hS, H⟩
    · obtain ⟨hjun, oj, hoj, hall⟩ := mem_ready.1 hj
      have hno : ∀ x ∈ oj.after, Region.binds md x = true → x.on ≠ i := fun x hx hb hq => by
        have h1 := hall x hx hb
        have h0 := (mem_ready.1 hr).1
        rw [hq] at h1
        rcases Nat.lt_or_ge i l.size with h' | h'
        · simp [h'] at h0 h1; rw [h0] at h1; cases h1
        · simp [Array.getElem?_eq_none h'] at h1
      have hje : j < e := by
        refine Nat.lt_of_not_le fun hle => ?_
        rcases hw j hle (Array.getElem?_eq_some_iff.1 hoj).1 with hw | ⟨k, hw⟩
        · exact hji hw
        · have h1 := waits_ready hcl hw hj
          have h0 := (mem_ready.1 hr).1
          rcases Nat.lt_or_ge i l.size with h' | h'
          · simp [h'] at h0 h1; rw [h0] at h1; cases h1
          · simp [Array.getElem?_eq_none h'] at h1
      have h1 := H.2 j (ready_mono hj hji)
      have h2 := wpOp_putIf hoj (hfree j oj hoj hji hjun hno) (fun cs b => hsel i oi cs b hi) (fun cs b => hsel j oj cs b hoj) (fun _ _ _ h => absurd h.1 (by simp)) hy h1
      have hfree' : ∀ k ok, ops[k]? = some ok → k ≠ i → (l.setIfInBounds j true).getD k true = false → (∀ x ∈ ok.after, Region.binds md x = true → x.on ≠ i) → oi.apart ops ok = true := fun k ok hk hki hun hn => by
        refine hfree k ok hk hki ?_ hn
        by_cases hjk : j = k
        · subst hjk; exact hjun
        · rw [getD_set_ne true hjk] at hun; exact hun
      refine wpOp_mono (fun a' w' h3 => ⟨fun _ => h3.2.1 hje, ih (l.setIfInBounds j true) a' w' (hcl.set hj) hfree' (ready_mono hr (Ne.symm hji)) h3.1 (h3.2.1 hje) ?_⟩) h2
      rw [Array.setIfInBounds_comm _ _ hji]
      exact h3.2.2

theorem keepWaits {i : Nat} (hw : ((List.range ops.size).all fun k => decide (k < e) || k == i || waitsT md ops 8 k i) = true) : ∀ k, e ≤ k → k < ops.size → k = i ∨ ∃ m, waitsT md ops m k i = true := by
  intro k h1 h2
  have h3 := List.all_eq_true.1 hw k (by simpa using h2)
  simp only [Bool.or_eq_true, decide_eq_true_eq, beq_iff_eq] at h3
  rcases h3 with (h3 | h3) | h3
  · omega
  · exact .inl h3
  · exact .inr ⟨8, h3⟩
theorem keepTake {i : Nat} {oi : Oper} {v : Value} {n : Nat} {l : Array Bool} {a a' : Act} {w : World} (hi : ops[i]? = some oi) (hs : Region.noSelect ops = true) (hf : Region.free md ops l i = true) (hr : (Region.ready md ops l).contains i = true)
    (hw : ((List.range ops.size).all fun k => decide (k < e) || k == i || waitsT md ops 8 k i) = true) (hc : closedB md ops l = true) (hwa : Region.wanted oi (yielded ops a.tmps) = true) (hv : ∀ w, S w → (execOp a.eval oi).run P w = .ok (.value v) w) (hS : S w)
    (hp : a.put oi.dst v = a') (h : anyK P md ops Q S e n (l.setIfInBounds i true) a' w) : anyK P md ops Q S e (n + 1) l a w :=
  anyK_first hi (Region.noSelect_spec hs) (keepWaits hw) n l a w (closedB_spec hc) (Region.free_spec hi hf) (by simpa using hr) (.inl ⟨hwa, hv⟩) hS (hp ▸ h)

theorem keepSkip {i : Nat} {oi : Oper} {n : Nat} {l : Array Bool} {a a' : Act} {w : World} (hi : ops[i]? = some oi) (hs : Region.noSelect ops = true) (hf : Region.free md ops l i = true) (hr : (Region.ready md ops l).contains i = true)
    (hw : ((List.range ops.size).all fun k => decide (k < e) || k == i || waitsT md ops 8 k i) = true) (hc : closedB md ops l = true) (hwa : Region.wanted oi (yielded ops a.tmps) = false) (hS : S w)
    (hp : a.put oi.dst undef = a') (h : anyK P md ops Q S e n (l.setIfInBounds i true) a' w) : anyK P md ops Q S e (n + 1) l a w :=
  anyK_first hi (Region.noSelect_spec hs) (keepWaits hw) n l a w (closedB_spec hc) (Region.free_spec hi hf) (by simpa using hr) (.inr ⟨hwa, rfl⟩) hS (hp ▸ h)

/-- Of those that may come up each is walked. -/
def AllK (P : Program) (md : Region.Mode) (ops : Array Oper) (Q : Exit → Act → World → Prop) (S : World → Prop) (e n : Nat) (l : Array Bool) (a : Act) (w : World) (rs : List Nat) : Prop :=
  ∀ i ∈ rs, wpOp P ops (Only Q) i (fun a' w' => (i < e → S w') ∧ anyK P md ops Q S e n (l.setIfInBounds i true) a' w') a w
theorem AllK.nil {n : Nat} {l : Array Bool} {a : Act} {w : World} : AllK P md ops Q S e n l a w [] := fun _ h => by cases h
theorem AllK.cons {n : Nat} {l : Array Bool} {a : Act} {w : World} {i : Nat} {o : Oper} {rs : List Nat} (ho : ops[i]? = some o)
    (h : ∀ K : Act → World → Prop, (∀ a w, (i < e → S w) → anyK P md ops Q S e n (l.setIfInBounds i true) a w → K a w) → if Region.wanted o (yielded ops a.tmps) = true then Oper.wp P o a w K (Only Q) else K (a.put o.dst undef) w)
    (hs : AllK P md ops Q S e n l a w rs) : AllK P md ops Q S e n l a w (i :: rs) := fun j hj => by
  rcases List.mem_cons.1 hj with rfl | hj
  · exact wpOp_step ho (fun K hK => h K (fun a w h1 h2 => hK a w ⟨h1, h2⟩))
  · exact hs j hj
theorem keepReady {rs : List Nat} {n : Nat} {l : Array Bool} {a : Act} {w : World} (hr : Region.ready md ops l = rs) (hne : rs ≠ []) (h : AllK P md ops Q S e n l a w rs) : anyK P md ops Q S e (n + 1) l a w :=
  ⟨fun h0 => absurd (hr ▸ h0) hne, hr ▸ h⟩
theorem keepDone {l : Array Bool} {a : Act} {w : World} (hr : Region.ready md ops l = []) (h : Q .normal a w) : ∀ n, anyK P md ops Q S e n l a w
  | 0 => ⟨hr, h⟩
  | _ + 1 => ⟨fun _ => h, by rw [hr]; simp⟩

theorem wp_region_keep {id : Nat} {a : Act} {w : World} (S : World → Prop) (e : Nat) (hm : P.follows .mixedOrders = true) (h : anyK P .any ops Q S e ops.size (Array.replicate ops.size false) a w.drew) : (Code.region id ops true).wp P Q a w :=
  wp_mono (wp_region_any hm (anyK_any _ _ _ _ h)) fun x a w hx => by obtain ⟨rfl, hx⟩ := hx; exact hx
theorem wpIn_region_keep {id : Nat} {a : Act} {w : World} {r n : Nat} (S : World → Prop) (e : Nat) (hm : P.follows .mixedOrders = true) (hnd : noDefer ops = true) (h : anyK P .any ops Q S e ops.size (Array.replicate ops.size false) a w.drew) : (Code.region id ops true).wpIn (Fence.wide.inRound r) n P Q a w :=
  wpIn_region_round hm hnd (anyK_any _ _ _ _ h)
end
end Late
end Go.Proofs.YtcnhlemenpgkbaaGreatDoor
