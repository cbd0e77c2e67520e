/- What the journal checks ahead of a write. -/
import Derived.Test.YtcnhlemenpgkbaaGreatDoorJW2
namespace Go.Proofs.YtcnhlemenpgkbaaGreatDoor
set_option linter.unusedSimpArgs false
set_option linter.unusedVariables false
set_option linter.unnecessarySimpa false
open Go.RowKit M

def longs (l : List Bytes) : Bool := l.any fun r => decide (8000 < r.length)

section
variable {w : World} {jl : JL} {pl : PL} {j : Jrn}

theorem jCheck1_calls (r : Bytes) : Calls Tryz.prog 48 #[str r] w fun e w' => e = .returned (.bool (decide (8000 < r.length))) ∧ w' = w := by
  obtain ⟨v, hv⟩ : ∃ v, decide (8000 < r.length) = v := ⟨_, rfl⟩
  rw [hv]
  have hv' : decide (8000 < (r.length : Int)) = v := by rw [← hv]; simp; omega
  clear hv
  have HV := Lib.hid hv'
  clear hv'
  go_enter Tryz.func48, Tryz.ntmps48
  go_wp2
  go_ret
  exact ⟨by rw [← HV.out]; rfl, rfl⟩

set_option maxRecDepth 100000 in
theorem sIndexF_calls {v : Value} {l : List Bytes} (hl : w.ownsRow 0 9 1 v l.length (strs l)) (hf : l.length ≤ 100000) : Calls Tryz.prog 71 #[v, .func (.func 48) #[] #[]] w fun e w' => ∃ n : Int, e = .returned (.int .i64 n) ∧ decide (0 ≤ n) = longs l ∧ w' = w := by
  obtain ⟨up, uc, rfl⟩ := ownsRow_len hl
  go_enter Tryz.func71, Tryz.ntmps71
  go_wp2_with fail
  go_loopg [8] l.length (fun kq i w' => ∃ n : Nat, i = .int .i64 n ∧ n ≤ l.length ∧ Hid (kq + n = l.length) ∧ Hid (longs (l.take n) = false) ∧ w' = w)
  case atStart => exact ⟨0, rfl, by omega, by simp [Hid], by simp [Hid, longs], rfl⟩
  case round =>
    obtain ⟨n, rfl, hn, hk, HT, rfl⟩ := hrel
    by_cases hlt : n < l.length
    · have hlt' : (n : Int) < (l.length : Int) := by omega
      have hxa : l[n]? = some l[n] := List.getElem?_eq_getElem hlt
      obtain ⟨g1, rfl, _, hc1⟩ := own_cell_fr hl (Fr.refl [] wr) (by simp) (j := n) (v := str l[n]) (by simp [strs, hxa])
      have HA : Hid (l.take (n + 1) = l.take n ++ [l[n]]) := take_snoc hxa
      have HM : Hid (l[n] ∈ l) := List.getElem_mem hlt
      generalize l[n] = x at hc1 HA HM
      clear hxa
      have hq := jCheck1_calls (w := wr) x
      cases hx : decide (8000 < x.length) with
      | true =>
        rw [hx] at hq
        have HL : Hid (longs l = true) := by
          unfold Hid longs
          rw [List.any_eq_true]
          exact ⟨x, HM.out, hx⟩
        clear hx
        go_wp2_with fail
        refine hq.mono ?_
        rintro e w1 ⟨rfl, rfl⟩
        go_wp2_with fail
        go_ret
        exact ⟨_, rfl, by rw [HL.out]; simp, rfl⟩
      | false =>
        rw [hx] at hq
        have HX := Lib.hid hx
        clear hx
        go_wp2_with fail
        refine hq.mono ?_
        rintro e w1 ⟨rfl, rfl⟩
        go_wp2_with fail
        go_roundg (gk - 1)
        case measure => have := hk.out; omega
        case rel =>
          refine ⟨n + 1, by go_num, by omega, by have := hk.out; unfold Hid; omega, ?_, rfl⟩
          unfold Hid
          rw [HA.out]
          have h1 := HT.out
          have h2 := HX.out
          unfold longs at h1 ⊢
          rw [List.any_append, h1]
          simpa using h2
    · obtain rfl : n = l.length := by omega
      have hlt' : decide ((l.length : Int) < (l.length : Int)) = false := by simp
      have h := HT.out
      rw [List.take_length] at h
      go_wp2
      go_ret
      exact ⟨_, rfl, by rw [h]; decide, rfl⟩

theorem sContains_calls {v : Value} {l : List Bytes} (hl : w.ownsRow 0 9 1 v l.length (strs l)) (hf : l.length ≤ 100000) : Calls Tryz.prog 47 #[v, .func (.func 48) #[] #[]] w fun e w' => e = .returned (.bool (longs l)) ∧ w' = w := by
  obtain ⟨up, uc, rfl⟩ := ownsRow_len hl
  go_enter Tryz.func47, Tryz.ntmps47
  go_wp2_with fail
  refine (sIndexF_calls hl hf).mono ?_
  rintro e w1 ⟨n, rfl, hn, rfl⟩
  have HN := Lib.hid hn
  clear hn
  go_wp2_with fail
  go_ret
  exact ⟨by rw [← HN.out]; rfl, rfl⟩

/-- What a call comes to that would lead to a stream. -/
def Jrn.check (j : Jrn) (s : Bytes) (l : List Bytes) : Int := if j.closed then 20 else if longs l then 2 else if j.half * 116 < s.length then 21 else 0

set_option maxRecDepth 100000 in
theorem jCheck_calls (h : JrnAt w jl pl j) (s : Bytes) (hs : s.length ≤ 100000000) {v : Value} {l : List Bytes} (hl : w.ownsRow 0 9 1 v l.length (strs l)) (hf : l.length ≤ 100000) : Calls Tryz.prog 27 #[Jp jl, str s, v] w fun e w' => e = .returned (.int .i64 (j.check s l)) ∧ w' = w := by
  have c5 := h.c5
  have hfew := h.few
  have hsz := jSize_calls h
  have hct := sContains_calls hl hf
  obtain ⟨up, uc, rfl⟩ := ownsRow_len hl
  cases hc : j.closed with
  | true =>
    rw [hc] at c5
    have R : j.check s l = 20 := by simp [Jrn.check, hc]
    rw [R]
    clear R hsz hct
    go_enter Tryz.func27, Tryz.ntmps27
    go_wp2
    go_ret
    exact ⟨rfl, rfl⟩
  | false =>
    rw [hc] at c5
    cases hlg : longs l with
    | true =>
      rw [hlg] at hct
      have R : j.check s l = 2 := by simp [Jrn.check, hc, hlg]
      rw [R]
      clear R hsz hlg
      go_enter Tryz.func27, Tryz.ntmps27
      go_wp2_with fail
      refine hct.mono ?_
      rintro e w1 ⟨rfl, rfl⟩
      go_wp2_with fail
      go_ret
      exact ⟨rfl, rfl⟩
    | false =>
      rw [hlg] at hct
      by_cases hgt : j.half * 116 < s.length
      · have R : j.check s l = 21 := by simp [Jrn.check, hc, hlg, hgt]
        rw [R]
        have hgt' : ((j.half * 116 : Nat) : Int) < (s.length : Int) := by omega
        clear R hlg hgt
        generalize j.half * 116 = m at hsz hgt'
        go_enter Tryz.func27, Tryz.ntmps27
        go_wp2_with fail
        refine hct.mono ?_
        rintro e w1 ⟨rfl, rfl⟩
        go_wp2_with fail
        refine hsz.mono ?_
        rintro e w1 ⟨rfl, rfl⟩
        go_wp2_with fail
        go_ret
        exact ⟨rfl, rfl⟩
      · have R : j.check s l = 0 := by simp [Jrn.check, hc, hlg, hgt]
        rw [R]
        have hgt' : decide (j.half * 116 < s.length) = false := by simp; omega
        clear R hlg hgt
        generalize j.half * 116 = m at hsz hgt'
        go_enter Tryz.func27, Tryz.ntmps27
        go_wp2_with fail
        refine hct.mono ?_
        rintro e w1 ⟨rfl, rfl⟩
        go_wp2_with fail
        refine hsz.mono ?_
        rintro e w1 ⟨rfl, rfl⟩
        go_wp2_with fail
        go_ret
        exact ⟨rfl, rfl⟩
end
end Go.Proofs.YtcnhlemenpgkbaaGreatDoor
