/- The specification writes: walked. -/
import Derived.Test.YtpoagpaglocpeaaGreatRef11
import Derived.Deep.QuietTactic
import Derived.BigQuiet
namespace Go.Proofs.YtpoagpaglocpeaaGreat
set_option linter.unusedSimpArgs false
set_option linter.unusedVariables false
set_option linter.unnecessarySimpa false
open Go.RowKit M

section
variable {w : World} {L : RL} {d : Disk} {pl : PL} {p : M.Pages}

set_option maxRecDepth 100000 in
set_option maxHeartbeats 4000000 in
theorem rWrite_calls (h : RDiskAt w L d) (hp : RPagesAt w pl L p) (hne : ∀ k ∈ pl.all, k ∉ L.all) {v : Value} {l : List PW} (hl : PwAt w v l) (hvL : ∀ k, v.ownBlock = some k → k ∉ L.all ∧ k ∉ pl.all) (hlen : ∀ x ∈ l, x.2.length ≤ 1000) (hfew : l.length ≤ 100000)
    (hq : p.closed = false → d.off = false ∧ ∃ im : List Bytes, d.pg = im.map bare1) (h18 : 18 ≤ d.pg.length) :
    Calls Tryz.prog 53 #[Qp pl, v] w fun e w' => e = .returned (.int .i64 (give d p l).1) ∧ RDiskAt w' L (give d p l).2.1 ∧ RPagesAt w' pl L (give d p l).2.2 ∧ Fr (pl.b :: L.all) w w' := by
  have c1 := hp.c1
  have c3 := hp.c3
  have few := h.ok.few
  have f1 : 0 ≤ d.len := by unfold Disk.len; omega
  have f2 : d.len ≤ 4096 := by unfold Disk.len; omega
  have hlow := hp.low
  have hhigh := hp.high
  obtain ⟨vp, vc, rfl⟩ := ownsRow_len hl
  have done : ∀ (e : Int), check d p l = e → e ≠ 0 → give d p l = (e, d, p) := by
    intro e he hne
    subst he
    unfold give
    rw [if_pos hne]
  cases hcl : p.closed with
  | true =>
    have R : give d p l = (20, d, p) := done 20 (by simp [check, hcl]) (by decide)
    rw [R]
    rw [hcl] at c3
    clear R done
    go_enter Tryz.func53, Tryz.ntmps53
    go_wp2
    go_ret
    exact ⟨rfl, h, hp, Fr.refl _ _⟩
  | false =>
    rw [hcl] at c3
    obtain ⟨hoff, im, him⟩ := hq hcl
    by_cases h1 : 16 < l.length
    · have R : give d p l = (2, d, p) := done 2 (by simp [check, hcl, h1]) (by decide)
      rw [R]
      clear R done
      have h1' : (16 : Int) < (l.length : Int) := by omega
      go_enter Tryz.func53, Tryz.ntmps53
      go_wp2
      go_ret
      exact ⟨rfl, h, hp, Fr.refl _ _⟩
    · have h1' : (l.length : Int) ≤ 16 := by omega
      by_cases h2 : 1073741824 ≤ p.number
      · have R : give d p l = (2, d, p) := done 2 (by simp [check, hcl, h2]) (by decide)
        rw [R]
        clear R h1 done
        go_enter Tryz.func53, Tryz.ntmps53
        go_wp2
        go_ret
        exact ⟨rfl, h, hp, Fr.refl _ _⟩
      · have h2' : p.number < 1073741824 := by omega
        obtain ⟨b, hb⟩ : ∃ b, okFrom (d.len - 17) none l = b := ⟨_, rfl⟩
        have HB := Lib.hid hb
        have hone : (b = false ∨ l = []) → give d p l = (1, d, p) := by
          intro hbl
          refine done 1 ?_ (by decide)
          unfold check
          rw [hcl, if_neg (by simp), if_neg (by omega)]
          rcases hbl with e | e
          · by_cases h3 : l = []
            · rw [if_pos h3]
            · rw [if_neg h3, hb, e]; rfl
          · rw [if_pos e]
        have HONE := Lib.hid hone
        have HTWO : Hid (b = true → l ≠ [] → check d p l = 0) := by
          intro hbt h3
          unfold check
          rw [hcl, if_neg (by simp), if_neg (by omega), if_neg h3, hb, hbt]
          rfl
        have HG : Hid (give d p l = if check d p l ≠ 0 then (check d p l, d, p) else if (runAll d (steps (p.number + 1) l)).1 ≠ 0 then ((runAll d (steps (p.number + 1) l)).1, (runAll d (steps (p.number + 1) l)).2, { p with closed := true }) else (0, (runAll d (steps (p.number + 1) l)).2, { p with number := p.number + 1 })) := rfl
        obtain ⟨tn, htn⟩ := Int.eq_ofNat_of_zero_le hlow
        have HTN := Lib.hid htn
        have HIM := Lib.hid him
        have HOF := Lib.hid hoff
        have HCL := Lib.hid hcl
        generalize give d p l = G at HONE HG ⊢
        clear hb hone done h1 h2 htn him hoff hcl hq
        go_enter Tryz.func53, Tryz.ntmps53
        go_wp2
        go_loopg [6] l.length (fun kq i w' => ∃ n : Nat, i = .int .i64 n ∧ n ≤ l.length ∧ Hid (kq + n = l.length) ∧ Hid (okFrom (d.len - 17) (lastOf l n) (l.drop n) = b) ∧ Fr [] w w')
        case atStart => exact ⟨0, rfl, by omega, by simp [Hid], by unfold Hid; simpa [lastOf] using HB.out, Fr.refl _ _⟩
        case round =>
          obtain ⟨n, rfl, hn, hk, hr, fr⟩ := hrel
          have Dr := h.fr0 fr
          have Pr := hp.fr0 fr
          by_cases hlt2 : n < l.length
          · have hlt' : (n : Int) < (l.length : Int) := by omega
            have hlr := hl.fr fr (by simp)
            obtain ⟨g, rfl, hgl, hca, hcb⟩ := hlr.cells (i := n) (x := l[n]) (by simp [hlt2])
            obtain ⟨x, hx⟩ : ∃ x, l[n] = x := ⟨_, rfl⟩
            rw [hx] at hca hcb
            have hx2 : l.drop n = x :: l.drop (n + 1) := by rw [List.drop_eq_getElem_cons hlt2, hx]
            have hr2 := hr.out
            rw [hx2] at hr2
            have hQ : ∀ m, Calls Tryz.prog 61 #[Qp pl] (wr.drewN m) fun e w' => e = .returned (.int .i64 (d.len - 17)) ∧ w' = wr.drewN m := fun m => (rLen_calls (Dr.fr0 ((Fr.refl [] wr).drewN m)) (Pr.fr0 ((Fr.refl [] wr).drewN m))).mono fun e w' h => ⟨h.1, h.2.symm⟩
            by_cases k1 : x.1 < 0
            · have HF : Hid (G = (1, d, p)) := HONE.out (.inl (by rw [← hr2]; simp [okFrom, k1]))
              clear hr2 hx2 hx
              go_wp2_with fail
              go_quiet (first | (go_at_call 61; exact Calls.quiet_of_same (hQ _)))
              go_wp2_with fail
              go_ret
              rw [HF.out]
              exact ⟨rfl, Dr.fr0 ((Fr.refl [] wr).drewN _), Pr.fr0 ((Fr.refl [] wr).drewN _), (fr.drewN _).any⟩
            · have k1' : decide (x.1 < 0) = false := by simp; omega
              by_cases k2 : d.len - 17 ≤ x.1
              · have HF : Hid (G = (1, d, p)) := HONE.out (.inl (by rw [← hr2]; simp [okFrom, k2]))
                clear hr2 hx2 hx k1
                go_wp2_with fail
                go_quiet (first | (go_at_call 61; exact Calls.quiet_of_same (hQ _)))
                go_wp2_with fail
                go_ret
                rw [HF.out]
                exact ⟨rfl, Dr.fr0 ((Fr.refl [] wr).drewN _), Pr.fr0 ((Fr.refl [] wr).drewN _), (fr.drewN _).any⟩
              · have k2' : decide (d.len - 17 ≤ x.1) = false := by simp; omega
                by_cases k3 : x.2.length = 116
                · have k3' : ((x.2.length : Int) != 116) = false := by simp [bne, k3]
                  rcases n with _ | m
                  · have hr3 : okFrom (d.len - 17) (some x.1) (l.drop 1) = b := by rw [← hr2]; simp [okFrom, lastOf, k1, k2, k3]
                    have hx3 : lastOf l 1 = some x.1 := by simp [lastOf, List.getElem?_eq_getElem hlt2, hx]
                    have HX := Lib.hid hx3
                    have HR := Lib.hid hr3
                    clear hr2 hx2 hx hx3 hr3 k1 k2 k3
                    go_wp2_with fail
                    go_quiet (first | (go_at_call 61; exact Calls.quiet_of_same (hQ _)))
                    go_wp2_with fail
                    go_roundg (gk - 1)
                    case measure => have := hk.out; omega
                    case rel => exact ⟨1, rfl, by omega, by have := hk.out; unfold Hid; omega, by unfold Hid; rw [HX.out]; exact HR.out, fr.drewN _⟩
                  · obtain ⟨y, hy⟩ : ∃ y, l[m]? = some y := ⟨_, List.getElem?_eq_getElem (show m < l.length by omega)⟩
                    have hl2 : lastOf l (m + 1) = some y.1 := by simp [lastOf, hy]
                    rw [hl2] at hr2
                    have hm0 : (0 : Int) < ((m + 1 : Nat) : Int) := by omega
                    obtain ⟨g2, hg2, _, hya, hyb⟩ := (hl.fr fr (by simp)).cells hy
                    obtain rfl : g2 = g := by simpa using hg2.symm
                    by_cases k4 : x.1 ≤ y.1
                    · have HF : Hid (G = (1, d, p)) := HONE.out (.inl (by rw [← hr2]; simp [okFrom, k4]))
                      clear hr2 hx2 hx hl2 hy k1 k2 k3
                      go_wp2_with fail
                      go_quiet (first | (go_at_call 61; exact Calls.quiet_of_same (hQ _)))
                      go_wp2_with fail
                      go_ret
                      rw [HF.out]
                      exact ⟨rfl, Dr.fr0 ((Fr.refl [] wr).drewN _), Pr.fr0 ((Fr.refl [] wr).drewN _), (fr.drewN _).any⟩
                    · have k4' : decide (x.1 ≤ y.1) = false := by simp; omega
                      have hr3 : okFrom (d.len - 17) (some x.1) (l.drop (m + 1 + 1)) = b := by rw [← hr2]; simp [okFrom, k1, k2, k3, k4]
                      have hx3 : lastOf l (m + 1 + 1) = some x.1 := by simp [lastOf, List.getElem?_eq_getElem hlt2, hx]
                      have HX := Lib.hid hx3
                      have HR := Lib.hid hr3
                      clear hr2 hx2 hx hl2 hy hx3 hr3 k1 k2 k3 k4
                      go_wp2_with fail
                      go_quiet (first | (go_at_call 61; exact Calls.quiet_of_same (hQ _)))
                      go_wp2_with fail
                      go_roundg (gk - 1)
                      case measure => have := hk.out; omega
                      case rel => exact ⟨m + 1 + 1, rfl, by omega, by have := hk.out; unfold Hid; omega, by unfold Hid; rw [HX.out]; exact HR.out, fr.drewN _⟩
                · have HF : Hid (G = (1, d, p)) := HONE.out (.inl (by rw [← hr2]; simp [okFrom, k3]))
                  clear hr2 hx2 hx
                  have k3' : ((x.2.length : Int) != 116) = true := by simp [bne]; omega
                  clear k1 k2 k3
                  go_wp2_with fail
                  go_quiet (first | (go_at_call 61; exact Calls.quiet_of_same (hQ _)))
                  go_wp2_with fail
                  go_ret
                  rw [HF.out]
                  exact ⟨rfl, Dr.fr0 ((Fr.refl [] wr).drewN _), Pr.fr0 ((Fr.refl [] wr).drewN _), (fr.drewN _).any⟩
          · obtain rfl : n = l.length := by omega
            have hlt' : decide ((l.length : Int) < (l.length : Int)) = false := by simp
            have hb0 : b = true := by rw [← hr.out, List.drop_of_length_le (by omega)]; rfl
            by_cases h3 : l = []
            · have HF : Hid (G = (1, d, p)) := HONE.out (.inr h3)
              have hz : ((l.length : Int) == 0) = true := by simp [h3]
              clear h3 hb0
              go_wp2_with fail
              go_ret
              rw [HF.out]
              exact ⟨rfl, Dr, Pr, fr.any⟩
            · have hck : check d p l = 0 := HTWO.out hb0 h3
              have hpos : 0 < l.length := List.length_pos_iff.2 h3
              have hz : ((l.length : Int) == 0) = false := beq_eq_false_iff_ne.2 (by omega)
              have hB : Bat d.pg.length l := Bat.of_check hck
              have htn : p.number + 1 = ((tn + 1 : Nat) : Int) := by rw [HTN.out]; rfl
              have htw : IntKind.i64.wrap (p.number + 1) = p.number + 1 := by rw [IntKind.wrap_i64]; omega
              have hlr := hl.fr fr (by simp)
              have hlog := rLog_calls Dr Pr hne hlr (fun k hk => (hvL k hk).1) (by omega) (tn + 1) (by omega) (by have := HTN.out; omega) (fun x hx => (hB.at_ x hx).2.2) (fun x hx => (hB.at_ x hx).1)
              have HG2 : Hid (G = if (runAll d (steps ((tn + 1 : Nat) : Int) l)).1 ≠ 0 then ((runAll d (steps ((tn + 1 : Nat) : Int) l)).1, (runAll d (steps ((tn + 1 : Nat) : Int) l)).2, { p with closed := true }) else (0, (runAll d (steps ((tn + 1 : Nat) : Int) l)).2, { p with number := ((tn + 1 : Nat) : Int) })) := by
                have := HG.out
                rw [if_neg (by simp [hck]), htn] at this
                exact this
              have hlog : Calls Tryz.prog 115 #[Qp pl, .slice vp l.length vc, .int .i64 ((tn : Int) + 1)] wr fun e w' => e = .returned (.int .i64 (runAll d (logSteps ((tn + 1 : Nat) : Int) l)).1) ∧ RDiskAt w' L (runAll d (logSteps ((tn + 1 : Nat) : Int) l)).2 ∧ Fr L.all wr w' := hlog
              have HLD : Hid ((runAll d (logSteps ((tn + 1 : Nat) : Int) l)).1 = 0 → (runAll d (logSteps ((tn + 1 : Nat) : Int) l)).2.off = false ∧ 18 ≤ (runAll d (logSteps ((tn + 1 : Nat) : Int) l)).2.pg.length ∧ repSteps (runAll d (logSteps ((tn + 1 : Nat) : Int) l)).2.seen = datas ((tn + 1 : Nat) : Int) l ++ [.flush]) := by
                intro h0
                have hil : im.length = d.pg.length := by rw [HIM.out]; simp
                obtain ⟨o1, R1, o2, o3, o4⟩ := log_done HIM.out HOF.out (by omega) (by rw [hil]; exact hB) h0
                refine ⟨o1, by rw [o2]; simp; omega, ?_⟩
                rw [seen_bare o2]
                exact rep_full o4 hB (by omega) (by have := HTN.out; omega) (by omega) few
              clear HG HONE HTWO h3 hck hb0
              go_wp2_with fail
              refine hlog.mono ?_
              rintro e w2 ⟨rfl, D2, f2⟩
              clear hlog
              have P2 := Pr.fr f2 hne
              have F2 : Fr (pl.b :: L.all) w w2 := fr.any.trans (f2.mono (fun k hk => List.mem_cons_of_mem _ hk))
              have hpb : pl.b ∉ L.all := hne pl.b (by simp [PL.all])
              have fz : ∀ (w' : World) (j : Nat) (u : Value), Fr [pl.b] w' (w'.setCell ⟨pl.b, j, none⟩ u) := fun w' j u => (Fr.refl _ _).setCell (.inl (by simp)) _
              have fz' : ∀ (w' : World) (j : Nat) (u : Value), Fr (pl.b :: L.all) w' (w'.setCell ⟨pl.b, j, none⟩ u) := fun w' j u => (fz w' j u).mono (by simp)
              have hnL : ∀ k ∈ L.all, k ∉ [pl.b] := fun k hk e => hpb ((show k = pl.b by simpa using e) ▸ hk)
              by_cases hz1 : (runAll d (logSteps ((tn + 1 : Nat) : Int) l)).1 = 0
              · obtain ⟨o1, o2, o3⟩ := HLD.out hz1
                have hrp := rReplay_calls D2 o1 o2
                rw [o3] at hrp
                have HQ : Hid (runAll d (steps ((tn + 1 : Nat) : Int) l) = runAll (runAll d (logSteps ((tn + 1 : Nat) : Int) l)).2 (datas ((tn + 1 : Nat) : Int) l ++ [.flush])) := by
                  unfold Hid
                  rw [steps_log, runAll_snoc0 hz1]
                have he1 : ((runAll d (logSteps ((tn + 1 : Nat) : Int) l)).1 == 0) = true := by simpa using hz1
                have HG3 := HG2.out
                rw [HQ.out] at HG3
                clear HG2 HLD o1 o2 o3 hz1 HQ
                generalize runAll d (logSteps ((tn + 1 : Nat) : Int) l) = q1 at hrp he1 HG3 D2 ⊢
                obtain ⟨e1, d1⟩ := q1
                simp only at hrp he1 HG3 D2
                generalize runAll d1 (datas ((tn + 1 : Nat) : Int) l ++ [.flush]) = q2 at hrp HG3
                obtain ⟨e2, d2⟩ := q2
                simp only at hrp HG3
                have HG4 := Lib.hid HG3
                clear HG3
                have c0 : w2.cell? ⟨pl.b, 0, none⟩ = some (Rp L) := P2.c0
                go_wp2_with fail
                refine hrp.mono ?_
                rintro e w3 ⟨rfl, D3, f3⟩
                have P3 := P2.fr f3 hne
                have F3 : Fr (pl.b :: L.all) w w3 := F2.trans (f3.mono (fun k hk => List.mem_cons_of_mem _ hk))
                have cc1 : w3.cell? ⟨pl.b, 1, none⟩ = some (.int .i64 p.number) := P3.c1
                have cc3 : w3.cell? ⟨pl.b, 3, none⟩ = some (.bool p.closed) := P3.c3
                have ff1 := P3.f 1
                have ff3 := P3.f 3
                by_cases hz2 : e2 = 0
                · have he2 : (e2 != 0) = false := by simp [hz2]
                  have HR : Hid (G = (0, d2, { p with number := (tn : Int) + 1 })) := by
                    have := HG4.out
                    rw [if_neg (by simpa using hz2)] at this
                    exact this
                  have P4 := P3.setNumber ((tn : Int) + 1) (by omega) (by omega)
                  have D4 := D3.fr (fz w3 1 (.int .i64 ((tn : Int) + 1))) hnL
                  have F4 := F3.trans (fz' w3 1 (.int .i64 ((tn : Int) + 1)))
                  have HF := Lib.hid (And.intro P4 (And.intro D4 F4))
                  clear hz2 P4 D4 F4
                  go_wp2_with fail
                  go_ret
                  rw [HR.out]
                  exact ⟨rfl, HF.out.2.1, HF.out.1, HF.out.2.2⟩
                · have he2 : (e2 != 0) = true := by simpa using hz2
                  have HR : Hid (G = (e2, d2, { p with closed := true })) := by
                    have := HG4.out
                    rwa [if_pos hz2] at this
                  have HF := Lib.hid (And.intro (P3.setClosed true) (And.intro (D3.fr (fz w3 3 (.bool true)) hnL) (F3.trans (fz' w3 3 (.bool true)))))
                  clear hz2
                  go_wp2_with fail
                  go_ret
                  rw [HR.out]
                  exact ⟨rfl, HF.out.2.1, HF.out.1, HF.out.2.2⟩
              · have he1 : ((runAll d (logSteps ((tn + 1 : Nat) : Int) l)).1 == 0) = false := by simpa using hz1
                have he1n : ((runAll d (logSteps ((tn + 1 : Nat) : Int) l)).1 != 0) = true := by simpa using hz1
                have HR : Hid (G = ((runAll d (logSteps ((tn + 1 : Nat) : Int) l)).1, (runAll d (logSteps ((tn + 1 : Nat) : Int) l)).2, { p with closed := true })) := by
                  have := HG2.out
                  rw [steps_log, runAll_bad hz1, if_pos hz1] at this
                  exact this
                have cc3 : w2.cell? ⟨pl.b, 3, none⟩ = some (.bool p.closed) := P2.c3
                have ff3 := P2.f 3
                have HF := Lib.hid (And.intro (P2.setClosed true) (And.intro (D2.fr (fz w2 3 (.bool true)) hnL) (F2.trans (fz' w2 3 (.bool true)))))
                clear HG2 HLD hz1
                generalize runAll d (logSteps ((tn + 1 : Nat) : Int) l) = q1 at he1 he1n HR D2 HF ⊢
                obtain ⟨e1, d1⟩ := q1
                simp only at he1 he1n
                go_wp2_with fail
                go_ret
                rw [HR.out]
                exact ⟨rfl, HF.out.2.1, HF.out.1, HF.out.2.2⟩
end
end Go.Proofs.YtpoagpaglocpeaaGreat
