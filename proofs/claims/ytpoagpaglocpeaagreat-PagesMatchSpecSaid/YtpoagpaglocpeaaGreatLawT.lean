/- The law: the pages match the specification, walked. -/
import Derived.Test.YtpoagpaglocpeaaGreatLawQ
import Derived.Test.YtpoagpaglocpeaaGreatLawR
namespace Go.Proofs.YtpoagpaglocpeaaGreat
set_option linter.unusedSimpArgs false
set_option linter.unusedVariables false
set_option linter.unnecessarySimpa false
open Go.RowKit M

/-- The start of both. -/
theorem Start.both {w w1 w2 : World} {n : Nat} {L : DL} {pl : PL} {LR : RL} {ql : PL} (S : Start w w1 n L pl LR ql) (h1 : 18 ≤ n) (h2 : n ≤ 4096) (hf : Fr [] w1 w2) {W : Nat} (hW : w1.heap.size ≤ W)
    (G : w2.heap[W]? = some (.cells #[Dp L, Pp pl, Rp LR, Qp ql] 43 (0, 0))) : ∃ p, Both w W L pl LR ql (rest (List.replicate n (zeros 128))) p w2 := by
  have I := Inv.fresh n h1 h2
  have e : openAt (Disk.new n) = (rest (List.replicate n (zeros 128)), ⟨openNum (List.replicate n (zeros 128)), badsFrom 0 ((List.replicate n (zeros 128)).drop 17), false⟩) := by
    rw [new_rest, open_rest I.len, I.replayed_eq]
  have hD := S.D
  have hP := S.Pg
  have hR := S.RD
  have hQ := S.Q
  rw [e] at hD hP
  rw [new_rest, rest_seen] at hQ
  rw [new_rest] at hR
  have hs := S.fr.size
  refine ⟨_, ⟨⟨hD.fr0 hf, hP.fr0 hf, S.fr.trans hf, S.n1, S.n2⟩, hR.fr0 hf, hQ.fr0 hf, S.n3, S.n4, G, ⟨by omega, fun hk => by have := hD.lt W hk; omega, fun hk => by have := hP.lt W hk; omega, fun hk => by have := hR.lt W hk; omega, fun hk => by have := hQ.lt W hk; omega⟩, by rw [rest_len]; simpa using h1, fun _ => ⟨rfl, _, rfl⟩, ?_⟩⟩
  have := badsFrom_length ((List.replicate n (zeros 128)).drop 17) 0
  simp only [List.length_drop, List.length_replicate] at this
  show (badsFrom 0 ((List.replicate n (zeros 128)).drop 17)).length ≤ 4096
  omega

section
variable {w : World}
set_option maxRecDepth 100000 in
theorem lMatch_bad (n : Int) (h : n < 18 ∨ 24 < n) (v : Value) : Calls Tryz.prog 4 #[.int .i64 n, v] w fun e w' => e = .returned (.bool true) ∧ Fr [] w w' := by
  have hS := fun w' => lStart_bad (w := w') n h
  by_cases h1 : n < 18
  · clear h
    go_enter Tryz.func4, Tryz.ntmps4
    go_wp2_with fail
    refine (hS _).mono ?_
    rintro e w1 ⟨rfl, f1⟩
    go_wp2_with fail
    have f2 := f1.alloc (.cells #[.pointer none, .pointer none, .pointer none, .pointer none] 43)
    refine (lSanity_calls _).mono ?_
    rintro e w3 ⟨rfl, f3⟩
    have f4 := f2.trans f3
    clear f1 f2 f3
    go_wp2_with fail
    go_ret
    exact ⟨rfl, f4⟩
  · have h1' : 18 ≤ n := by omega
    have h2 : 24 < n := by omega
    clear h
    go_enter Tryz.func4, Tryz.ntmps4
    go_wp2_with fail
    refine (hS _).mono ?_
    rintro e w1 ⟨rfl, f1⟩
    go_wp2_with fail
    have f2 := f1.alloc (.cells #[.pointer none, .pointer none, .pointer none, .pointer none] 43)
    refine (lSanity_calls _).mono ?_
    rintro e w3 ⟨rfl, f3⟩
    have f4 := f2.trans f3
    clear f1 f2 f3
    go_wp2_with fail
    go_ret
    exact ⟨rfl, f4⟩

set_option maxRecDepth 100000 in
set_option maxHeartbeats 4000000 in
theorem lMatch_main (n : Int) (h1 : 18 ≤ n) (h2 : n ≤ 24) {N : Nat → Prop} (hN : ∀ k, N k → k < w.heap.size) {u : Value} {ops : List OpM} (hb : OpsAt N w u ops) (okc : ∀ o ∈ ops, OpOk o) :
    Calls Tryz.prog 4 #[.int .i64 n, u] w fun e w' => e = .returned (.bool true) ∧ Fr [] w w' := by
  have hS := fun w' => lStart_good (w := w') n h1 h2
  obtain ⟨ua, uc, rfl, _⟩ := id hb
  go_enter Tryz.func4, Tryz.ntmps4
  go_wp2_with fail
  refine (hS _).mono ?_
  rintro e w1 ⟨L, pl, LR, ql, rfl, S1⟩
  have f2 := (Fr.refl [] w1).alloc (.cells #[Dp L, Pp pl, Rp LR, .pointer (some ⟨ql.b, 0, none⟩)] 43)
  have G2 := heap_alloc_new w1 (.cells #[Dp L, Pp pl, Rp LR, .pointer (some ⟨ql.b, 0, none⟩)] 43)
  obtain ⟨p0, B0⟩ := S1.both (by omega) (by omega) f2 (Nat.le_refl _) G2
  clear S1
  go_wp2_with fail
  generalize w1.alloc (.cells #[Dp L, Pp pl, Rp LR, .pointer (some ⟨ql.b, 0, none⟩)] 43) = w2 at f2 G2 B0 ⊢
  generalize w1.heap.size = W at G2 B0 ⊢
  clear G2 f2
  go_loopg [7] ops.length (fun kq i w' => ∃ (m : Nat) (pl : PL) (ql : PL) (d : Disk) (p : M.Pages), i = .int .i64 m ∧ m ≤ ops.length ∧ Hid (kq + m = ops.length) ∧ Both w W L pl LR ql d p w')
  case atStart => exact ⟨0, pl, ql, _, p0, rfl, by omega, by simp [Hid], B0⟩
  case round =>
    clear B0
    obtain ⟨m, pl, ql, d, p, rfl, hm, hk, Br⟩ := hrel
    by_cases hlt : m < ops.length
    · have hlt' : (m : Int) < (ops.length : Int) := by omega
      by_cases h20 : m < 20
      · have h20' : (m : Int) < 20 := by omega
        obtain ⟨o, hob⟩ : ∃ o, ops[m]? = some o := ⟨ops[m], List.getElem?_eq_getElem hlt⟩
        have hok := okc o (List.mem_of_getElem? hob)
        obtain ⟨ab, off, pv, kv, rfl, hab, hal, ⟨c0, c1, c2, c3, c4⟩, hpI, hkI⟩ := (hb.fr Br.st.fr (by simp)).cells hob
        have hpl := lPlay_calls Br hN o hok hpI hkI
        clear hpI hkI
        go_wp2_with fail
        refine hpl.mono ?_
        rintro e w3 ⟨rfl, pl3, ql3, d3, p3, B3⟩
        clear hpl
        go_wp2_with fail
        refine (lSame_calls B3).mono ?_
        rintro e w4 ⟨rfl, f4⟩
        have B4 := B3.fr0 f4
        clear B3
        go_wp2_with fail
        go_roundg (gk - 1)
        case measure => have := hk.out; omega
        case rel => exact ⟨m + 1, pl3, ql3, d3, p3, by go_num, by omega, by have := hk.out; unfold Hid; omega, B4⟩
      · have h20' : decide ((m : Int) < 20) = false := by simp; omega
        have F := Br.st.fr
        go_wp2_with fail
        refine (lSanity_calls _).mono ?_
        rintro e w3 ⟨rfl, f3⟩
        have F3 := F.trans f3
        go_wp2_with fail
        go_ret
        exact ⟨rfl, F3⟩
    · have hlt' : decide ((m : Int) < (ops.length : Int)) = false := by simp; omega
      have F := Br.st.fr
      go_wp2_with fail
      refine (lSanity_calls _).mono ?_
      rintro e w3 ⟨rfl, f3⟩
      have F3 := F.trans f3
      go_wp2_with fail
      go_ret
      exact ⟨rfl, F3⟩
end

/-- The law, for every number and every script. -/
theorem lMatch_calls {w : World} (n : Int) {u : Value} {ops : List OpM} (hb : OpsAt (fun k => k < w.heap.size) w u ops) (okc : ∀ o ∈ ops, OpOk o) :
    Calls Tryz.prog 4 #[.int .i64 n, u] w fun e w' => e = .returned (.bool true) ∧ Fr [] w w' := by
  by_cases h1 : 18 ≤ n ∧ n ≤ 24
  · exact lMatch_main n h1.1 h1.2 (fun k h => h) hb okc
  · exact lMatch_bad n (by omega) u
end Go.Proofs.YtpoagpaglocpeaaGreat
