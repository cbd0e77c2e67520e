/- Plain law: the batches of a stream, written while the power may fail. -/
import Derived.Test.YtcnhlemenpgkbaaGreatDoorJourP
import Derived.Test.YtcnhlemenpgkbaaGreatDoorJW6
namespace Go.Proofs.YtcnhlemenpgkbaaGreatDoor
set_option linter.unusedSimpArgs false
set_option linter.unusedVariables false
set_option linter.unnecessarySimpa false
open M

/-- Behind a failed step: whatever the mount tears, the old records lie there, or the new ones. -/
def TornJ (d : Disk) (len n half bank bank' : Nat) (l l' : List Bytes) : Prop :=
  ∀ picks : List Int, ∃ im' : List Bytes, d.mount picks = rest im' ∧ im'.length = len ∧ (∀ s ∈ im', Pst n s) ∧ Inv n (replayed im') ∧ (J.Lies (conts (replayed im')) half bank l ∨ J.Lies (conts (replayed im')) half bank' l')

theorem bat_portion {len half bank bank' : Nat} {l : List Bytes} {s' : Bytes} {a : Nat} (hf : J.Fits half bank bank' l s' a) (hl : 2 * half + 1 ≤ len - 17) {b : List PW} (hs : b.Sublist (J.writes half bank' s' a)) (hne : b ≠ []) (h16 : b.length ≤ 16) : Bat len b := by
  refine ⟨hne, h16, fun x hx => ?_, hf.inc.sublist hs⟩
  obtain ⟨i, hi⟩ := List.getElem?_of_mem (hs.subset hx)
  have := hf.page hi
  omega
theorem bat_last {len half bank bank' cnt : Nat} {l : List Bytes} {s' : Bytes} {a : Nat} (hf : J.Fits half bank bank' l s' a) (hl : 2 * half + 1 ≤ len - 17) {b : List PW} (hs : b.Sublist (J.writes half bank' s' a)) (h16 : b.length ≤ 15) : Bat len ((0, J.head bank' s'.length cnt) :: b) := by
  refine ⟨by simp, by simp; omega, fun x hx => ?_, List.Pairwise.cons (fun y hy => ?_) (hf.inc.sublist hs)⟩
  · rcases List.mem_cons.1 hx with rfl | hx
    · refine ⟨by simp, ?_, J.head_length _ _ _⟩
      simp only
      omega
    · obtain ⟨i, hi⟩ := List.getElem?_of_mem (hs.subset hx)
      have := hf.page hi
      omega
  · obtain ⟨i, hi⟩ := List.getElem?_of_mem (hs.subset hy)
    have := hf.page hi
    simp only
    omega

theorem jgo_law {half bank bank' len t0 a : Nat} {l l' : List Bytes} (hf : J.Fits half bank bank' l (J.stream l') a) (hl : 2 * half + 1 ≤ len - 17) (hr : ∀ r ∈ l', r.length ≤ 8000) (ht : t0 + half / 15 + 1 < 256) :
    ∀ (rs : List PW) (m : Nat) (wt : List PW) (d : Disk) (p : M.Pages) (im : List Bytes) (t : Nat), J.writes half bank' (J.stream l') a = (J.writes half bank' (J.stream l') a).take m ++ (wt ++ rs) → m ≤ (J.writes half bank' (J.stream l') a).length → wt.length ≤ 15 → 15 * t ≤ 15 * t0 + m → Calm d p im t → im.length = len → J.Prog (conts im) half bank l (J.writes half bank' (J.stream l') a) m →
      (((jgo (0, J.head bank' (J.stream l').length l'.length) ⟨d, p, wt⟩ rs).1 = 0 ∧ ∃ (R : List Bytes) (t' : Nat), Calm (jgo (0, J.head bank' (J.stream l').length l'.length) ⟨d, p, wt⟩ rs).2.1 (jgo (0, J.head bank' (J.stream l').length l'.length) ⟨d, p, wt⟩ rs).2.2 R t' ∧ R.length = len ∧ t' ≤ t0 + half / 15 + 1 ∧ J.Lies (conts R) half bank' l') ∨
       ((jgo (0, J.head bank' (J.stream l').length l'.length) ⟨d, p, wt⟩ rs).1 = 20 ∧ ∃ n : Nat, n ≤ t0 + half / 15 + 1 ∧ TornJ (jgo (0, J.head bank' (J.stream l').length l'.length) ⟨d, p, wt⟩ rs).2.1 len n half bank bank' l l')) := by
  have hwl : (J.writes half bank' (J.stream l') a).length ≤ half := by
    rw [J.writes_length]
    have := hf.fits
    unfold J.pages
    omega
  intro rs
  induction rs with
  | nil =>
    intro m wt d p im t hw hm h15 htm C hlen hP
    simp only [jgo]
    rw [List.append_nil] at hw
    have hdrop : (J.writes half bank' (J.stream l') a).drop m = wt := by
      have h1 := congrArg (List.drop m) hw
      rw [List.drop_left' (by rw [List.length_take]; omega)] at h1
      exact h1
    have hsub : wt.Sublist (J.writes half bank' (J.stream l') a) := by rw [← hdrop]; exact List.drop_sublist _ _
    have hb : Bat im.length ((0, J.head bank' (J.stream l').length l'.length) :: wt) := by rw [hlen]; exact bat_last hf hl hsub h15
    have hfin := hP.finish hf hr
    rw [hdrop] at hfin
    rcases give_any C (by omega) _ hb with ⟨g1, R, g2, g3, g4, _⟩ | ⟨g1, _, g3⟩
    · exact .inl ⟨g1, R, t + 1, g3, by omega, by omega, by rw [g4]; exact hfin⟩
    · refine .inr ⟨g1, t + 1, by omega, fun picks => ?_⟩
      obtain ⟨im', k1, k2, k3, k4, k5⟩ := g3 picks
      exact ⟨im', k1, by omega, k3, k4, k5.elim (fun k5 => by rw [k5]; exact .inl hP.old) (fun k5 => by rw [k5]; exact .inr hfin)⟩
  | cons x rs ih =>
    intro m wt d p im t hw hm h15 htm C hlen hP
    by_cases hq : wt.length = 15
    · have hmw : m + 15 ≤ (J.writes half bank' (J.stream l') a).length := by
        have h1 := congrArg List.length hw
        rw [List.length_append, List.length_append, List.length_take] at h1
        omega
      have hport : ((J.writes half bank' (J.stream l') a).take (m + 15)).drop m = wt := by
        have h1 := congrArg (List.drop m) hw
        rw [List.drop_left' (by rw [List.length_take]; omega)] at h1
        rw [List.drop_take, h1, show m + 15 - m = wt.length by omega, List.take_left]
      have hsub : wt.Sublist (J.writes half bank' (J.stream l') a) := by rw [← hport]; exact (List.drop_sublist _ _).trans (List.take_sublist _ _)
      have hb : Bat im.length wt := by rw [hlen]; exact bat_portion hf hl hsub (by intro e; rw [e] at hq; simp at hq) (by omega)
      have hput := hP.put hf (show m ≤ m + 15 by omega)
      rw [hport] at hput
      have hgo : jgo (0, J.head bank' (J.stream l').length l'.length) ⟨d, p, wt⟩ (x :: rs) = if (give d p wt).1 ≠ 0 then give d p wt else jgo (0, J.head bank' (J.stream l').length l'.length) ⟨(give d p wt).2.1, (give d p wt).2.2, [x]⟩ rs := by rw [jgo, if_pos hq]
      rw [hgo]
      rcases give_any C (by omega) _ hb with ⟨g1, R, g2, g3, g4, _⟩ | ⟨g1, _, g3⟩
      · rw [if_neg (by simp [g1])]
        refine ih (m + 15) [x] _ _ R (t + 1) ?_ hmw (by simp) (by omega) g3 (by omega) (by rw [g4]; exact hput)
        have h2 : (J.writes half bank' (J.stream l') a).take (m + 15) = (J.writes half bank' (J.stream l') a).take m ++ wt := by rw [List.take_add, ← hport, List.drop_take, show m + 15 - m = 15 by omega]
        rw [h2, List.append_assoc]
        exact hw
      · rw [if_pos (by rw [g1]; decide)]
        refine .inr ⟨g1, t + 1, by omega, fun picks => ?_⟩
        obtain ⟨im', k1, k2, k3, k4, k5⟩ := g3 picks
        exact ⟨im', k1, by omega, k3, k4, .inl (k5.elim (fun k5 => by rw [k5]; exact hP.old) (fun k5 => by rw [k5]; exact hput.old))⟩
    · have hgo : jgo (0, J.head bank' (J.stream l').length l'.length) ⟨d, p, wt⟩ (x :: rs) = jgo (0, J.head bank' (J.stream l').length l'.length) ⟨d, p, wt ++ [x]⟩ rs := by rw [jgo, if_neg hq]
      rw [hgo]
      exact ih m (wt ++ [x]) d p im t (by rw [List.append_assoc]; exact hw) hm (by rw [List.length_append]; simp; omega) htm C hlen hP
end Go.Proofs.YtcnhlemenpgkbaaGreatDoor
