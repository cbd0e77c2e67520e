/- What is wrong with the arguments of a write. -/
import Derived.Test.YtcnhlemenpgkbaaGreatDoorPages4
import Derived.Deep.QuietTactic
import Derived.BigQuiet
namespace Go.Proofs.YtcnhlemenpgkbaaGreatDoor
set_option linter.unusedSimpArgs false
set_option linter.unusedVariables false
set_option linter.unnecessarySimpa false
open Go.RowKit M

def pwv (l : List PW) : List Value := l.flatMap fun x => [.int .i64 x.1, str x.2]
theorem pwv_length : ∀ (l : List PW), (pwv l).length = l.length * 2
  | [] => rfl
  | x :: l => by
    have := pwv_length l
    simp only [pwv, List.flatMap_cons, List.length_append, List.length_cons, List.length_nil] at this ⊢
    omega
theorem pwv_get : ∀ (l : List PW) (i : Nat) (x : PW), l[i]? = some x → (pwv l)[i * 2]? = some (.int .i64 x.1) ∧ (pwv l)[i * 2 + 1]? = some (str x.2)
  | [], _, _, h => by simp at h
  | y :: l, 0, x, h => by
    obtain rfl : y = x := by simpa using h
    exact ⟨rfl, rfl⟩
  | y :: l, i + 1, x, h => by
    obtain ⟨h1, h2⟩ := pwv_get l i x (by simpa using h)
    have e : pwv (y :: l) = .int .i64 y.1 :: str y.2 :: pwv l := rfl
    rw [e, show (i + 1) * 2 = i * 2 + 1 + 1 from by omega, show (i * 2 + 1 + 1) + 1 = (i * 2 + 1) + 1 + 1 from by omega]
    exact ⟨by simpa using h1, by simpa using h2⟩

/-- The list of a write, in memory. -/
def PwAt (w : World) (v : Value) (l : List PW) : Prop := w.ownsRow 0 108 2 v l.length (pwv l)

theorem PwAt.cells {w : World} {l : List PW} {p : Option Addr} {m c : Nat} (h : PwAt w (.slice p m c) l) {i : Nat} {x : PW} (hx : l[i]? = some x) :
    ∃ g, p = some ⟨g, 0, none⟩ ∧ g < w.heap.size ∧ w.cell? ⟨g, i * 2, none⟩ = some (.int .i64 x.1) ∧ w.cell? ⟨g, i * 2 + 1, none⟩ = some (.string ⟨x.2.toArray⟩) := by
  have hi := (List.getElem?_eq_some_iff.1 hx).1
  obtain ⟨h1, h2⟩ := pwv_get l i x hx
  rcases h.2 with ⟨_, h0⟩ | ⟨g, cap, cur, hv, _, hg, _, _, hs, ht⟩
  · omega
  · cases hv
    refine ⟨g, rfl, lt_of_heap hg, ?_, ?_⟩
    · rw [cell_of_row w g _ cur _ _ hg, ← Array.getElem?_toList]
      rw [← ht, List.getElem?_take, if_pos (by omega)] at h1
      exact h1
    · rw [cell_of_row w g _ cur _ _ hg, ← Array.getElem?_toList]
      rw [← ht, List.getElem?_take, if_pos (by omega)] at h2
      exact h2

theorem PwAt.fr {w w' : World} {v : Value} {l : List PW} {S : List Nat} (h : PwAt w v l) (hf : Fr S w w') (hS : ∀ k, v.ownBlock = some k → k ∉ S) : PwAt w' v l := ownsRow_fr' h hf hS

theorem new_two {w0 : World} {S : List Nat} (wr : World) (a b : Value) (t : TypeId) (fr : Fr S w0 wr) : (wr.alloc (.cells #[a, b] t)).cell? ⟨wr.heap.size, 0, none⟩ = some a ∧ (wr.alloc (.cells #[a, b] t)).cell? ⟨wr.heap.size, 1, none⟩ = some b ∧ wr.heap.size < (wr.alloc (.cells #[a, b] t)).heap.size ∧ Fr S w0 (wr.alloc (.cells #[a, b] t)) := by
  have hg := heap_alloc_new wr (.cells #[a, b] t)
  refine ⟨?_, ?_, lt_of_heap hg, fr.alloc _⟩
  · rw [cell_of_row _ _ _ _ _ _ hg]; rfl
  · rw [cell_of_row _ _ _ _ _ _ hg]; rfl

def lastOf (l : List PW) (n : Nat) : Option Int := if n = 0 then none else (l[n - 1]?).map (·.1)

section
variable {w : World} {L : DL} {d : Disk} {pl : PL} {p : M.Pages}

set_option maxRecDepth 100000 in
set_option maxHeartbeats 1000000 in
theorem pCheck_calls (h : DiskAt w L d) (hp : PagesAt w pl L p) {v : Value} {l : List PW} (hl : PwAt w v l) (hlen : ∀ x ∈ l, x.2.length ≤ 1000) (hfew : l.length ≤ 100000) : Calls Tryz.prog 72 #[Pp pl, v] w fun e w' =>
    e = .returned (.int .i64 (check d p l)) ∧ Fr [] w w' := by
  have c1 := hp.c1
  have c3 := hp.c3
  have few := h.ok.few
  have f1 : 0 ≤ d.len := by unfold Disk.len; omega
  have f2 : d.len ≤ 4096 := by unfold Disk.len; omega
  have hlt := hp.lt pl.b (by simp [PL.all])
  have hlow := hp.low
  have hhigh := hp.high
  obtain ⟨vp, vc, rfl⟩ := ownsRow_len hl
  cases hcl : p.closed with
  | true =>
    have R : check d p l = 20 := by simp [check, hcl]
    rw [R]
    rw [hcl] at c3
    clear R
    go_enter Tryz.func72, Tryz.ntmps72
    go_wp2
    go_ret
    exact ⟨rfl, Fr.refl _ _⟩
  | false =>
    rw [hcl] at c3
    by_cases h1 : 16 < l.length
    · have R : check d p l = 2 := by simp [check, hcl, h1]
      rw [R]
      clear R
      have h1' : (16 : Int) < (l.length : Int) := by omega
      go_enter Tryz.func72, Tryz.ntmps72
      go_wp2
      go_ret
      exact ⟨rfl, Fr.refl _ _⟩
    · have h1' : (l.length : Int) ≤ 16 := by omega
      by_cases h2 : 1073741824 ≤ p.number
      · have R : check d p l = 2 := by simp [check, hcl, h2]
        rw [R]
        clear R h1
        go_enter Tryz.func72, Tryz.ntmps72
        go_wp2
        go_ret
        exact ⟨rfl, Fr.refl _ _⟩
      · by_cases h3 : l = []
        · subst h3
          have R : check d p [] = 1 := by simp [check, hcl, h2]
          rw [R]
          clear R h1
          have h2' : p.number < 1073741824 := by omega
          go_enter Tryz.func72, Tryz.ntmps72
          go_wp2
          go_ret
          exact ⟨rfl, Fr.refl _ _⟩
        · have R : check d p l = if okFrom (d.len - 17) none l then 0 else 1 := by simp [check, hcl, h1, h2, h3]
          rw [R]
          have hpos : 0 < l.length := List.length_pos_iff.2 h3
          have hz : ((l.length : Int) == 0) = false := beq_eq_false_iff_ne.2 (by omega)
          have h2' : p.number < 1073741824 := by omega
          obtain ⟨b, hb⟩ : ∃ b, okFrom (d.len - 17) none l = b := ⟨_, rfl⟩
          rw [hb]
          have HB := Lib.hid hb
          clear R h1 h2 h3 hb
          go_enter Tryz.func72, Tryz.ntmps72
          go_wp2
          go_loopg [29] l.length (fun kq i w' => ∃ n : Nat, i = .int .i64 n ∧ n ≤ l.length ∧ Hid (kq + n = l.length) ∧ Hid (okFrom (d.len - 17) (lastOf l n) (l.drop n) = b) ∧ Fr [] w w')
          case atStart => exact ⟨0, rfl, by omega, by simp [Hid], by unfold Hid; simpa [lastOf] using HB.out, Fr.refl _ _⟩
          case round =>
            obtain ⟨n, rfl, hn, hk, hr, fr⟩ := hrel
            by_cases hlt2 : n < l.length
            · have hlt' : (n : Int) < (l.length : Int) := by omega
              have hlr := hl.fr fr (by simp)
              obtain ⟨g, rfl, hgl, hca, hcb⟩ := hlr.cells (i := n) (x := l[n]) (by simp [hlt2])
              have Dr := h.fr0 fr
              have Pr := hp.fr0 fr
              obtain ⟨x, hx⟩ : ∃ x, l[n] = x := ⟨_, rfl⟩
              rw [hx] at hca hcb
              have hx2 : l.drop n = x :: l.drop (n + 1) := by rw [List.drop_eq_getElem_cons hlt2, hx]
              have hr2 := hr.out
              rw [hx2] at hr2
              by_cases k1 : x.1 < 0
              · have hb0 : b = false := by rw [← hr2]; simp [okFrom, k1]
                subst hb0
                clear hr2 hx2 hx
                go_wp2_with fail
                obtain ⟨N1, N2, N3, N4⟩ := new_two wr (.int .i64 x.1) (.string ⟨x.2.toArray⟩) 108 fr
                have Pa : PagesAt (wr.alloc (.cells #[.int .i64 x.1, .string ⟨x.2.toArray⟩] 108)) pl L p := hp.fr0 N4
                have Da : DiskAt (wr.alloc (.cells #[.int .i64 x.1, .string ⟨x.2.toArray⟩] 108)) L d := h.fr0 N4
                generalize wr.alloc (.cells #[.int .i64 x.1, .string ⟨x.2.toArray⟩] 108) = wa at N1 N2 N3 N4 Pa Da ⊢
                have hQ : ∀ m, Calls Tryz.prog 38 #[Pp pl] (wa.drewN m) fun e w' => e = .returned (.int .i64 (d.len - 17)) ∧ w' = wa.drewN m := fun m => (pLen_calls (Da.fr0 ((Fr.refl [] wa).drewN m)) (Pa.fr0 ((Fr.refl [] wa).drewN m))).mono fun e w' h => ⟨h.1, h.2.symm⟩
                go_quiet (first | (go_at_call 38; exact Calls.quiet_of_same (hQ _)))
                go_wp2_with fail
                go_ret
                exact ⟨rfl, N4.drewN _⟩
              · have k1' : decide (x.1 < 0) = false := by simp; omega
                by_cases k2 : d.len - 17 ≤ x.1
                · have hb0 : b = false := by rw [← hr2]; simp [okFrom, k2]
                  subst hb0
                  clear hr2 hx2 hx
                  go_wp2_with fail
                  obtain ⟨N1, N2, N3, N4⟩ := new_two wr (.int .i64 x.1) (.string ⟨x.2.toArray⟩) 108 fr
                  have Pa : PagesAt (wr.alloc (.cells #[.int .i64 x.1, .string ⟨x.2.toArray⟩] 108)) pl L p := hp.fr0 N4
                  have Da : DiskAt (wr.alloc (.cells #[.int .i64 x.1, .string ⟨x.2.toArray⟩] 108)) L d := h.fr0 N4
                  clear k1
                  generalize wr.alloc (.cells #[.int .i64 x.1, .string ⟨x.2.toArray⟩] 108) = wa at N1 N2 N3 N4 Pa Da ⊢
                  have hQ : ∀ m, Calls Tryz.prog 38 #[Pp pl] (wa.drewN m) fun e w' => e = .returned (.int .i64 (d.len - 17)) ∧ w' = wa.drewN m := fun m => (pLen_calls (Da.fr0 ((Fr.refl [] wa).drewN m)) (Pa.fr0 ((Fr.refl [] wa).drewN m))).mono fun e w' h => ⟨h.1, h.2.symm⟩
                  go_quiet (first | (go_at_call 38; exact Calls.quiet_of_same (hQ _)))
                  go_wp2_with fail
                  go_ret
                  exact ⟨rfl, N4.drewN _⟩
                · have k2' : decide (d.len - 17 ≤ x.1) = false := by simp; omega
                  by_cases k3 : x.2.length = 116
                  · have k3' : ((x.2.length : Int) != 116) = false := by simp [bne, k3]
                    rcases n with _ | m
                    · have hr3 : okFrom (d.len - 17) (some x.1) (l.drop 1) = b := by rw [← hr2]; simp [okFrom, lastOf, k1, k2, k3]
                      have hx3 : lastOf l 1 = some x.1 := by simp [lastOf, List.getElem?_eq_getElem hlt2, hx]
                      have HX := Lib.hid hx3
                      have HR := Lib.hid hr3
                      clear hr2 hx2 hx hx3 hr3
                      go_wp2_with fail
                      obtain ⟨N1, N2, N3, N4⟩ := new_two wr (.int .i64 x.1) (.string ⟨x.2.toArray⟩) 108 fr
                      have Pa : PagesAt (wr.alloc (.cells #[.int .i64 x.1, .string ⟨x.2.toArray⟩] 108)) pl L p := hp.fr0 N4
                      have Da : DiskAt (wr.alloc (.cells #[.int .i64 x.1, .string ⟨x.2.toArray⟩] 108)) L d := h.fr0 N4
                      clear k1 k2 k3
                      generalize wr.alloc (.cells #[.int .i64 x.1, .string ⟨x.2.toArray⟩] 108) = wa at N1 N2 N3 N4 Pa Da ⊢
                      have hQ : ∀ m, Calls Tryz.prog 38 #[Pp pl] (wa.drewN m) fun e w' => e = .returned (.int .i64 (d.len - 17)) ∧ w' = wa.drewN m := fun m => (pLen_calls (Da.fr0 ((Fr.refl [] wa).drewN m)) (Pa.fr0 ((Fr.refl [] wa).drewN m))).mono fun e w' h => ⟨h.1, h.2.symm⟩
                      go_quiet (first | (go_at_call 38; exact Calls.quiet_of_same (hQ _)))
                      go_wp2_with fail
                      go_roundg (gk - 1)
                      case measure => have := hk.out; omega
                      case rel => exact ⟨1, rfl, by omega, by have := hk.out; unfold Hid; omega, by unfold Hid; rw [HX.out]; exact HR.out, N4.drewN _⟩
                    · obtain ⟨y, hy⟩ : ∃ y, l[m]? = some y := ⟨_, List.getElem?_eq_getElem (show m < l.length by omega)⟩
                      have hl2 : lastOf l (m + 1) = some y.1 := by simp [lastOf, hy]
                      rw [hl2] at hr2
                      have hm0 : (0 : Int) < ((m + 1 : Nat) : Int) := by omega
                      by_cases k4 : x.1 ≤ y.1
                      · have hb0 : b = false := by rw [← hr2]; simp [okFrom, k4]
                        subst hb0
                        have HY := Lib.hid hy
                        clear hr2 hx2 hx hl2 hy
                        go_wp2_with fail
                        obtain ⟨N1, N2, N3, N4⟩ := new_two wr (.int .i64 x.1) (.string ⟨x.2.toArray⟩) 108 fr
                        have Pa : PagesAt (wr.alloc (.cells #[.int .i64 x.1, .string ⟨x.2.toArray⟩] 108)) pl L p := hp.fr0 N4
                        have Da : DiskAt (wr.alloc (.cells #[.int .i64 x.1, .string ⟨x.2.toArray⟩] 108)) L d := h.fr0 N4
                        obtain ⟨g2, hg2, _, hya, hyb⟩ := (hl.fr N4 (by simp)).cells HY.out
                        obtain rfl : g2 = g := by simpa using hg2.symm
                        clear k1 k2 k3
                        generalize wr.alloc (.cells #[.int .i64 x.1, .string ⟨x.2.toArray⟩] 108) = wa at N1 N2 N3 N4 Pa Da hya hyb ⊢
                        have hQ : ∀ m, Calls Tryz.prog 38 #[Pp pl] (wa.drewN m) fun e w' => e = .returned (.int .i64 (d.len - 17)) ∧ w' = wa.drewN m := fun m => (pLen_calls (Da.fr0 ((Fr.refl [] wa).drewN m)) (Pa.fr0 ((Fr.refl [] wa).drewN m))).mono fun e w' h => ⟨h.1, h.2.symm⟩
                        go_quiet (first | (go_at_call 38; exact Calls.quiet_of_same (hQ _)))
                        go_wp2_with fail
                        go_ret
                        exact ⟨rfl, N4.drewN _⟩
                      · have k4' : decide (x.1 ≤ y.1) = false := by simp; omega
                        have hr3 : okFrom (d.len - 17) (some x.1) (l.drop (m + 1 + 1)) = b := by rw [← hr2]; simp [okFrom, k1, k2, k3, k4]
                        have hx3 : lastOf l (m + 1 + 1) = some x.1 := by simp [lastOf, List.getElem?_eq_getElem hlt2, hx]
                        have HY := Lib.hid hy
                        have HX := Lib.hid hx3
                        have HR := Lib.hid hr3
                        clear hr2 hx2 hx hl2 hy hx3 hr3
                        go_wp2_with fail
                        obtain ⟨N1, N2, N3, N4⟩ := new_two wr (.int .i64 x.1) (.string ⟨x.2.toArray⟩) 108 fr
                        have Pa : PagesAt (wr.alloc (.cells #[.int .i64 x.1, .string ⟨x.2.toArray⟩] 108)) pl L p := hp.fr0 N4
                        have Da : DiskAt (wr.alloc (.cells #[.int .i64 x.1, .string ⟨x.2.toArray⟩] 108)) L d := h.fr0 N4
                        obtain ⟨g2, hg2, _, hya, hyb⟩ := (hl.fr N4 (by simp)).cells HY.out
                        obtain rfl : g2 = g := by simpa using hg2.symm
                        clear k1 k2 k3 k4
                        generalize wr.alloc (.cells #[.int .i64 x.1, .string ⟨x.2.toArray⟩] 108) = wa at N1 N2 N3 N4 Pa Da hya hyb ⊢
                        have hQ : ∀ m, Calls Tryz.prog 38 #[Pp pl] (wa.drewN m) fun e w' => e = .returned (.int .i64 (d.len - 17)) ∧ w' = wa.drewN m := fun m => (pLen_calls (Da.fr0 ((Fr.refl [] wa).drewN m)) (Pa.fr0 ((Fr.refl [] wa).drewN m))).mono fun e w' h => ⟨h.1, h.2.symm⟩
                        go_quiet (first | (go_at_call 38; exact Calls.quiet_of_same (hQ _)))
                        go_wp2_with fail
                        go_roundg (gk - 1)
                        case measure => have := hk.out; omega
                        case rel => exact ⟨m + 1 + 1, rfl, by omega, by have := hk.out; unfold Hid; omega, by unfold Hid; rw [HX.out]; exact HR.out, N4.drewN _⟩
                  · have hb0 : b = false := by rw [← hr2]; simp [okFrom, k3]
                    subst hb0
                    clear hr2 hx2 hx
                    have k3' : ((x.2.length : Int) != 116) = true := by simp [bne]; omega
                    go_wp2_with fail
                    obtain ⟨N1, N2, N3, N4⟩ := new_two wr (.int .i64 x.1) (.string ⟨x.2.toArray⟩) 108 fr
                    have Pa : PagesAt (wr.alloc (.cells #[.int .i64 x.1, .string ⟨x.2.toArray⟩] 108)) pl L p := hp.fr0 N4
                    have Da : DiskAt (wr.alloc (.cells #[.int .i64 x.1, .string ⟨x.2.toArray⟩] 108)) L d := h.fr0 N4
                    clear k1 k2 k3
                    generalize wr.alloc (.cells #[.int .i64 x.1, .string ⟨x.2.toArray⟩] 108) = wa at N1 N2 N3 N4 Pa Da ⊢
                    have hQ : ∀ m, Calls Tryz.prog 38 #[Pp pl] (wa.drewN m) fun e w' => e = .returned (.int .i64 (d.len - 17)) ∧ w' = wa.drewN m := fun m => (pLen_calls (Da.fr0 ((Fr.refl [] wa).drewN m)) (Pa.fr0 ((Fr.refl [] wa).drewN m))).mono fun e w' h => ⟨h.1, h.2.symm⟩
                    go_quiet (first | (go_at_call 38; exact Calls.quiet_of_same (hQ _)))
                    go_wp2_with fail
                    go_ret
                    exact ⟨rfl, N4.drewN _⟩
            · have hlt' : decide ((n : Int) < (l.length : Int)) = false := by simp; omega
              have hb0 : b = true := by rw [← hr.out, List.drop_of_length_le (by omega)]; rfl
              subst hb0
              go_wp2_with fail
              go_ret
              exact ⟨rfl, fr⟩
end
end Go.Proofs.YtcnhlemenpgkbaaGreatDoor
