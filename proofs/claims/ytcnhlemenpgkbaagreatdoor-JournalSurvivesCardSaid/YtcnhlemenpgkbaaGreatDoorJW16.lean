/- The law, walked (sanity taken as given). -/
import Derived.Test.YtcnhlemenpgkbaaGreatDoorJourS
namespace Go.Proofs.YtcnhlemenpgkbaaGreatDoor
set_option linter.unusedSimpArgs false
set_option linter.unusedVariables false
set_option linter.unnecessarySimpa false
open Go.RowKit M

/-- A script that lies in memory. -/
def StepsAt (N : Nat → Prop) (w : World) (v : Value) (xs : List StepM) : Prop :=
  ∃ A c, v = .slice A xs.length c ∧ ∀ (i : Nat) x, xs[i]? = some x → ∃ b off sv, A = some ⟨b, off, none⟩ ∧ N b ∧
    (w.cell? ⟨b, off + i * 4, none⟩ = some (.int .i64 x.kind) ∧ w.cell? ⟨b, off + i * 4 + 1, none⟩ = some (.int .i64 x.n) ∧ w.cell? ⟨b, off + i * 4 + 2, none⟩ = some (.int .u8 x.fill.toNat) ∧ w.cell? ⟨b, off + i * 4 + 3, none⟩ = some sv) ∧ IntsAt N w sv x.sizes
def BytesAt (N : Nat → Prop) (w : World) (v : Value) (fs : List UInt8) : Prop :=
  ∃ A c, v = .slice A fs.length c ∧ ∀ (i : Nat) x, fs[i]? = some x → ∃ ad, A = some ad ∧ N ad.block ∧ w.cell? (ad.add i) = some (.int .u8 x.toNat)
def StepOk (x : StepM) : Prop := (-9223372036854775808 ≤ x.n ∧ x.n ≤ 9223372036854775807) ∧ ∀ y ∈ x.sizes, -9223372036854775808 ≤ y ∧ y ≤ 9223372036854775807

theorem StepsAt.fr {N : Nat → Prop} {w w' : World} {v : Value} {xs : List StepM} {S : List Nat} (h : StepsAt N w v xs) (hf : Fr S w w') (hS : ∀ k ∈ S, ¬ N k) : StepsAt N w' v xs := by
  obtain ⟨A, c, rfl, hc⟩ := h
  refine ⟨A, c, rfl, fun i x hx => ?_⟩
  obtain ⟨b, off, sv, e, hN, ⟨c0, c1, c2, c3⟩, hp⟩ := hc i x hx
  have hn : b ∉ S := fun hk => hS b hk hN
  exact ⟨b, off, sv, e, hN, ⟨cell_fr hf c0 hn, cell_fr hf c1 hn, cell_fr hf c2 hn, cell_fr hf c3 hn⟩, hp.fr hf hS⟩
theorem BytesAt.fr {N : Nat → Prop} {w w' : World} {v : Value} {fs : List UInt8} {S : List Nat} (h : BytesAt N w v fs) (hf : Fr S w w') (hS : ∀ k ∈ S, ¬ N k) : BytesAt N w' v fs := by
  obtain ⟨A, c, rfl, hc⟩ := h
  refine ⟨A, c, rfl, fun i x hx => ?_⟩
  obtain ⟨ad, e, hN, hcell⟩ := hc i x hx
  refine ⟨ad, e, hN, ?_⟩
  have hb := World.block_lt_of_cell? _ _ hcell
  exact (World.cell?_of_block (hf.block _ hb (fun hk => hS _ hk (by rw [add_block]; exact hN)))).trans hcell

theorem JSt.older {w w1 A : World} {L : DL} {pl : PL} {d : Disk} {p : M.Pages} {jl : JL} {j : Jrn} (h : JSt w1 L pl d p jl j A) (f : Fr [] w w1) : JSt w L pl d p jl j A :=
  ⟨h.D, h.P, h.J, f.trans h.fr, fun k hk => by have := h.nL k hk; have := f.size; omega, fun k hk => ⟨by have := (h.nP k hk).1; have := f.size; omega, (h.nP k hk).2⟩, fun k hk => ⟨by have := (h.nJ k hk).1; have := f.size; omega, (h.nJ k hk).2⟩⟩
/-- Between two rounds. -/
structure Lp (w : World) (L : DL) (half len m : Nat) (vj rv : Value) (pl : PL) (jl : JL) (p : M.Pages) (im : List Bytes) (t bank : Nat) (recs : List Bytes) (A : World) : Prop where
  vj : vj = Jp jl
  st : JSt w L pl (rest im) p jl ⟨half, bank, J.stream recs, recs, false⟩ A
  calm : Calm (rest im) p im t
  len : im.length = len
  t : t ≤ 5 * m
  lies : J.Lies (conts im) half bank recs
  row : A.ownsRow 0 9 1 rv recs.length (strs recs)
  rn : ∀ k, rv.ownBlock = some k → k ∉ jall L pl jl

section
variable {w : World}

set_option maxRecDepth 100000 in
set_option maxHeartbeats 40000000 in
theorem vMain_good (hsan : ∀ w : World, Calls Tryz.prog 4 #[] w fun e w' => e = .returned (.bool true) ∧ Fr [] w w') (n : Int) (h1 : 20 ≤ n) (h2 : n ≤ 120) {N : Nat → Prop} (hN : ∀ k, N k → k < w.heap.size) {lv fv pv : Value} {xs : List StepM} {fs : List UInt8} {picks : List Int}
    (hl : StepsAt N w lv xs) (hf : BytesAt N w fv fs) (hp : IntsAt N w pv picks) (lx : xs.length ≤ 12) (lp : picks.length ≤ 40) (lf : fs.length ≤ 9223372036854775807) (hok : ∀ x ∈ xs, StepOk x) :
    Calls Tryz.prog 3 #[.int .i64 n, lv, fv, pv] w fun e w' => e = .returned (.bool true) ∧ Fr [] w w' := by
  obtain ⟨la, lc, rfl, _⟩ := id hl
  obtain ⟨fa, fc, rfl, _⟩ := id hf
  obtain ⟨pa, pc, rfl, _⟩ := id hp
  have lx' : (xs.length : Int) ≤ 12 := by omega
  have lp' : (picks.length : Int) ≤ 40 := by omega
  have hbeg := fun W => vBegin_calls (w := W) n h1 h2
  have hN20 : 20 ≤ n.toNat ∧ n.toNat ≤ 120 := by omega
  generalize n.toNat = m0 at hbeg hN20
  obtain ⟨half, hhalf⟩ : ∃ half, (m0 - 18) / 2 = half := ⟨_, rfl⟩
  have hhb : 1 ≤ half ∧ half ≤ 51 := by omega
  have hlies0 := lies0 m0 hN20.1
  rw [hhalf] at hbeg hlies0
  have HH := Lib.hid (And.intro hhalf (And.intro hlies0 hok))
  clear hhalf hlies0 hok
  go_enter Tryz.func3, Tryz.ntmps3
  go_wp2_with fail
  refine (hsan _).mono ?_
  rintro e w1 ⟨rfl, f1⟩
  go_wp2_with fail
  refine (hbeg _).mono ?_
  rintro e w2 ⟨L, pl0, jl0, p0, rfl, S0, C0⟩
  have S1 := S0.older f1
  have hlen0 : (im0 m0).length = m0 := by simp [im0]
  have R0 : Lp w L half m0 0 (Jp jl0) (.slice none 0 0) pl0 jl0 p0 (im0 m0) 0 0 [] w2 := ⟨rfl, S1, C0, hlen0, by omega, HH.out.2.1, World.ownsRow_nil _ _ _ _, by simp [Value.ownBlock]⟩
  clear S0 f1 C0 hlen0 S1 hbeg hsan
  go_wp2_with fail
  go_loopg [11, 13, 14] xs.length (fun kq vj vr i w' => ∃ (m : Nat) (pl : PL) (jl : JL) (p : M.Pages) (im : List Bytes) (t bank : Nat) (recs : List Bytes), i = .int .i64 m ∧ m ≤ xs.length ∧ Hid (kq + m = xs.length) ∧ Lp w L half m0 m vj vr pl jl p im t bank recs w')
  case atStart => exact ⟨0, pl0, jl0, p0, im0 m0, 0, 0, [], rfl, by omega, by simp [Hid], R0⟩
  case round =>
    rename World => wo
    obtain ⟨m, pl, jl, p, im, t, bank, recs, rfl, hm, hk, R⟩ := hrel
    by_cases hlt : m < xs.length
    · have hlt' : (m : Int) < (xs.length : Int) := by omega
      obtain ⟨x, hx⟩ : ∃ x, xs[m]? = some x := ⟨xs[m], List.getElem?_eq_getElem hlt⟩
      have hlr := hl.fr R.st.fr (by simp)
      obtain ⟨A', c', e', hcs⟩ := hlr
      obtain ⟨rfl, _, _⟩ : la = A' ∧ xs.length = xs.length ∧ lc = c' := by simpa using e'
      obtain ⟨ab, off, sv, rfl, hab, ⟨c0, c1, c2, c3⟩, hsz⟩ := hcs m x hx
      have hxo := HH.out.2.2 x (List.mem_of_getElem? hx)
      have rvj := R.vj
      subst rvj
      obtain ⟨rp, rc, rfl⟩ := ownsRow_len R.row
      by_cases hkd : x.kind = 1 ∨ x.kind = 2
      · have hkd' : ((x.kind != 1) && (x.kind != 2)) = false := by rcases hkd with h | h <;> simp [h]
        have HKD := Lib.hid hkd
        obtain ⟨kd, hkde⟩ : ∃ kd, x.kind = kd := ⟨_, rfl⟩
        rw [hkde] at c0 hkd hkd'
        have h12 : (kd != 1) = false ∨ ((kd != 1) = true ∧ (kd != 2) = false) := by
          rcases hkd with h | h
          · exact .inl (by simp [h])
          · exact .inr ⟨by simp [h], by simp [h]⟩
        clear hkd hkd'
        rcases h12 with h12 | ⟨h12, h22⟩
        · go_upto_region 12 with fail
          go_cut [78] from 68 to 78 (fun s wx => wo = wx ∧ ((s = .bool true ∧ ∃ fm : UInt8, fs[m]? = some fm ∧ fm.toNat < 200) ∨ s = .bool false))
          case first =>
            by_cases hfl : m < fs.length
            · have hfl' : (m : Int) < (fs.length : Int) := by omega
              have hfr := hf.fr R.st.fr (by simp)
              obtain ⟨B', cb', eb', hbs⟩ := hfr
              obtain ⟨rfl, _, _⟩ : fa = B' ∧ fs.length = fs.length ∧ fc = cb' := by simpa using eb'
              have hget := List.getElem?_eq_getElem hfl
              obtain ⟨ad, rfl, had, hcf⟩ := hbs m fs[m] hget
              generalize fs[m] = fm at hcf hget
              by_cases h200 : fm.toNat < 200
              · have h200' : (fm.toNat : Int) < 200 := by omega
                go_wp2_with fail
                go_meet
                exact ⟨rfl, .inl ⟨rfl, fm, hget, h200⟩⟩
              · have h200' : decide ((fm.toNat : Int) < 200) = false := by simp; omega
                have h200'' : decide (fm.toNat < 200) = false := by simp; omega
                go_wp2_with fail
                go_meet
                exact ⟨rfl, .inr rfl⟩
            · have hfl' : decide ((m : Int) < (fs.length : Int)) = false := by simp; omega
              have hfl'' : decide (m < fs.length) = false := by simp; omega
              go_wp2_with fail
              go_meet
              exact ⟨rfl, .inr rfl⟩
          case rest =>
            obtain ⟨rfl, hcs78⟩ := hcut
            go_upto_if 78 with fail
            go_cut [15] from 79 to 85 (fun s wx => ∃ d' : Disk, Calm d' p im t ∧ JSt w L pl d' p jl ⟨half, bank, J.stream recs, recs, false⟩ wx ∧ Fr L.all wo wx)
            case first =>
              rcases hcs78 with ⟨rfl, fm, hget, h200⟩ | rfl
              · have hfr := hf.fr R.st.fr (by simp)
                obtain ⟨B', cb', eb', hbs⟩ := hfr
                obtain ⟨rfl, _, _⟩ : fa = B' ∧ fs.length = fs.length ∧ fc = cb' := by simpa using eb'
                obtain ⟨ad, rfl, had, hcf⟩ := hbs m fm hget
                have hfl : m < fs.length := (List.getElem?_eq_some_iff.1 hget).1
                have hfl' : (m : Int) < (fs.length : Int) := by omega
                have htr := R.st.trip (fm.toNat : Int) (by omega)
                go_wp2_with fail
                refine htr.mono ?_
                rintro e w5 ⟨rfl, S5, f5⟩
                go_wp2_with fail
                go_meet
                exact ⟨_, R.calm.setTrip _, S5, f5⟩
              · go_wp2_with fail
                go_meet
                exact ⟨_, R.calm, R.st, Fr.refl _ _⟩
            case rest =>
              obtain ⟨d', C', S', F'⟩ := hcut
              have hn : ab ∉ L.all := fun hk' => by have := S'.nL ab hk'; have := hN ab hab; omega
              have hNL : ∀ q ∈ L.all, ¬ N q := fun q hq hq' => by have := S'.nL q hq; have := hN q hq'; omega
              have d0 := cell_fr F' c0 hn
              have d1 := cell_fr F' c1 hn
              have d2 := cell_fr F' c2 hn
              have d3 := cell_fr F' c3 hn
              have hszx := hsz.fr F' hNL
              have rowx := ownsRow_fr' R.row F' (fun q hq hq' => R.rn q hq (by simp [jall, hq']))
              have hfits := R.lies.fits
              have hclen := R.lies.len
              rw [conts_length] at hclen
              have hst := vStep_calls S' rfl rfl R.lies.recs (by simp only; omega) x hszx hxo.2 hxo.1 rowx R.rn
              rw [hkde] at hst
              simp only at hst
              go_wp2_with fail
              refine hst.mono ?_
              rintro e wy ⟨code, va, rfl, hP, hrowA⟩
              have htR := R.t
              have h18R := R.calm.inv.len
              obtain ⟨d9, p9, jl9, j9, S9, hB⟩ := step_back hP C' R.lies (by simp only; omega) (by simp only; omega)
              have hpy := hp.fr S9.fr (by simp)
              have hmt := S9.mount hpy hNL
              obtain ⟨im2, n2, hd9, hn2, B2⟩ := hB picks
              rw [hd9] at hmt
              obtain ⟨bk2, l2, H2, hor⟩ := B2.lies
              simp only at hn2 H2
              obtain ⟨t', bs, ht', hop, C2⟩ := open_back (by omega) B2.few B2.pst B2.inv
              have hlen2 := B2.len
              go_wp2_with fail
              refine hmt.mono ?_
              rintro e wz ⟨rfl, S10, F10⟩
              have hc2 : (conts (replayed im2)).length = im.length - 17 := by rw [conts_length]; have : (replayed im2).length = im2.length := replayN_length _ _ _; omega
              have hlenR := R.len
              have hHH := HH.out.1
              have hvo := vOpened_calls S10.D rfl rfl (by simp [rest]; exact B2.few) hop C2 H2 (by rw [hc2]; omega) (by omega) (by omega)
              go_wp2_with fail
              refine hvo.mono ?_
              rintro e wv ⟨pl2, jl3, rfl, O⟩
              go_wp2_with fail
              refine (jRecords_calls O.J).mono ?_
              rintro e wu ⟨vn, rfl, hrowN, f11⟩
              have hLx := S'.lt.1
              have FA : Fr L.all wy wu := (F10.trans O.fr).trans f11.any
              have FR : Fr (jall L pl jl) wo wu := ((F'.mono (fun q hq => by simp [jall, hq])).trans hP.fr).trans (FA.mono (fun q hq => by simp [jall, hq]))
              have rowA2 := ownsRow_fr' hrowA FA (fun q hq hq' => by have := (hrowA.lt q hq).1; have := hLx q hq'; omega)
              have rowR2 := ownsRow_fr' R.row FR (fun q hq => R.rn q hq)
              have hl2 : l2.length ≤ 100000 := by have := H2.fits; have := J.stream_count l2; omega
              have lz := S10.lt.1
              have sz := S10.size
              have lP2 := O.P.lt
              have SN : JSt w L pl2 (rest (replayed im2)) ⟨t', bs, false⟩ jl3 ⟨half, bk2, J.stream l2, l2, false⟩ wu := (JSt.mk O.D O.P O.J (S10.fr.then O.fr (fun q hq => .inr (S10.nL q hq))) S10.nL (fun q hq => ⟨by have := O.nP q hq; omega, fun hq' => by have := O.nP q hq; have := lz q hq'; omega⟩) (fun q hq => ⟨by have := (O.nJ q hq).1; omega, fun hq' => by have := (O.nJ q hq).1; have := lz q hq'; omega, (O.nJ q hq).2⟩)).fr0 f11
              have hallv := (JSt.mk O.D O.P O.J (S10.fr.then O.fr (fun q hq => .inr (S10.nL q hq))) S10.nL (fun q hq => ⟨by have := O.nP q hq; omega, fun hq' => by have := O.nP q hq; have := lz q hq'; omega⟩) (fun q hq => ⟨by have := (O.nJ q hq).1; omega, fun hq' => by have := (O.nJ q hq).1; have := lz q hq'; omega, (O.nJ q hq).2⟩)).allLt
              have rnN : ∀ q, vn.ownBlock = some q → q ∉ jall L pl2 jl3 := fun q hq hq' => by have := (hrowN.lt q hq).1; have := hallv q hq'; omega
              obtain ⟨vnp, vnc, rfl⟩ := ownsRow_len hrowN
              obtain ⟨vap, vac, rfl⟩ := ownsRow_len hrowA
              have hs1 := vSame_calls hrowN rowA2 hl2
              go_wp2_with fail
              refine hs1.mono ?_
              rintro e ws ⟨rfl, f12⟩
              have hs2 := vSame_calls (ownsRow_fr' hrowN f12 (by simp)) (ownsRow_fr' rowR2 f12 (by simp)) hl2
              go_wp2_with fail
              refine hs2.mono ?_
              rintro e wq ⟨rfl, f13⟩
              have RN : Lp w L half m0 (m + 1) (Jp jl3) (.slice vnp l2.length vnc) pl2 jl3 ⟨t', bs, false⟩ (replayed im2) t' bk2 l2 wq := ⟨rfl, (SN.fr0 f12).fr0 f13, C2, by have : (replayed im2).length = im2.length := replayN_length _ _ _; omega, by omega, H2, ownsRow_low (ownsRow_fr' (ownsRow_fr' hrowN f12 (by simp)) f13 (by simp)) (Nat.zero_le _), rnN⟩
              have hor' : (decide (l2 = recs) = true ∧ code ≠ 0) ∨ (decide (l2 = x.after recs) = true ∧ (code = 0 ∨ code = 20)) := by
                rcases hor with ⟨h, h'⟩ | ⟨h, h'⟩
                · exact .inl ⟨by simpa using h, h'⟩
                · exact .inr ⟨by simpa using h, h'⟩
              generalize decide (l2 = recs) = b2 at hor' ⊢
              generalize decide (l2 = x.after recs) = b1 at hor' ⊢
              clear hs1 hs2 hor hst hvo hmt hP hB R S9 S10 O SN FA FR rowA2 rowR2 hrowA
              rcases hor' with ⟨rfl, hc0⟩ | ⟨rfl, rfl | rfl⟩
              · have q0 : (code == 0) = false := by simpa using hc0
                have q1 : (code != 0) = true := by simpa using hc0
                cases b1 with
                | true =>
                  by_cases hc20 : code = 20
                  · subst hc20
                    go_wp2_with fail
                    go_roundg (gk - 1)
                    case measure => have := hk.out; omega
                    case rel => exact ⟨m + 1, pl2, jl3, _, replayed im2, t', bk2, l2, by go_num, by omega, by have := hk.out; unfold Hid; omega, RN⟩
                  · have q2 : (code != 20) = true := by simpa using hc20
                    go_wp2_with fail
                    go_roundg (gk - 1)
                    case measure => have := hk.out; omega
                    case rel => exact ⟨m + 1, pl2, jl3, _, replayed im2, t', bk2, l2, by go_num, by omega, by have := hk.out; unfold Hid; omega, RN⟩
                | false =>
                  by_cases hc20 : code = 20
                  · subst hc20
                    go_wp2_with fail
                    go_roundg (gk - 1)
                    case measure => have := hk.out; omega
                    case rel => exact ⟨m + 1, pl2, jl3, _, replayed im2, t', bk2, l2, by go_num, by omega, by have := hk.out; unfold Hid; omega, RN⟩
                  · have q2 : (code != 20) = true := by simpa using hc20
                    go_wp2_with fail
                    go_roundg (gk - 1)
                    case measure => have := hk.out; omega
                    case rel => exact ⟨m + 1, pl2, jl3, _, replayed im2, t', bk2, l2, by go_num, by omega, by have := hk.out; unfold Hid; omega, RN⟩
              · cases b2 with
                | true =>
                  go_wp2_with fail
                  go_roundg (gk - 1)
                  case measure => have := hk.out; omega
                  case rel => exact ⟨m + 1, pl2, jl3, _, replayed im2, t', bk2, l2, by go_num, by omega, by have := hk.out; unfold Hid; omega, RN⟩
                | false =>
                  go_wp2_with fail
                  go_roundg (gk - 1)
                  case measure => have := hk.out; omega
                  case rel => exact ⟨m + 1, pl2, jl3, _, replayed im2, t', bk2, l2, by go_num, by omega, by have := hk.out; unfold Hid; omega, RN⟩
              · cases b2 with
                | true =>
                  go_wp2_with fail
                  go_roundg (gk - 1)
                  case measure => have := hk.out; omega
                  case rel => exact ⟨m + 1, pl2, jl3, _, replayed im2, t', bk2, l2, by go_num, by omega, by have := hk.out; unfold Hid; omega, RN⟩
                | false =>
                  go_wp2_with fail
                  go_roundg (gk - 1)
                  case measure => have := hk.out; omega
                  case rel => exact ⟨m + 1, pl2, jl3, _, replayed im2, t', bk2, l2, by go_num, by omega, by have := hk.out; unfold Hid; omega, RN⟩
        · go_upto_region 12 with fail
          go_cut [78] from 68 to 78 (fun s wx => wo = wx ∧ ((s = .bool true ∧ ∃ fm : UInt8, fs[m]? = some fm ∧ fm.toNat < 200) ∨ s = .bool false))
          case first =>
            by_cases hfl : m < fs.length
            · have hfl' : (m : Int) < (fs.length : Int) := by omega
              have hfr := hf.fr R.st.fr (by simp)
              obtain ⟨B', cb', eb', hbs⟩ := hfr
              obtain ⟨rfl, _, _⟩ : fa = B' ∧ fs.length = fs.length ∧ fc = cb' := by simpa using eb'
              have hget := List.getElem?_eq_getElem hfl
              obtain ⟨ad, rfl, had, hcf⟩ := hbs m fs[m] hget
              generalize fs[m] = fm at hcf hget
              by_cases h200 : fm.toNat < 200
              · have h200' : (fm.toNat : Int) < 200 := by omega
                go_wp2_with fail
                go_meet
                exact ⟨rfl, .inl ⟨rfl, fm, hget, h200⟩⟩
              · have h200' : decide ((fm.toNat : Int) < 200) = false := by simp; omega
                have h200'' : decide (fm.toNat < 200) = false := by simp; omega
                go_wp2_with fail
                go_meet
                exact ⟨rfl, .inr rfl⟩
            · have hfl' : decide ((m : Int) < (fs.length : Int)) = false := by simp; omega
              have hfl'' : decide (m < fs.length) = false := by simp; omega
              go_wp2_with fail
              go_meet
              exact ⟨rfl, .inr rfl⟩
          case rest =>
            obtain ⟨rfl, hcs78⟩ := hcut
            go_upto_if 78 with fail
            go_cut [15] from 79 to 85 (fun s wx => ∃ d' : Disk, Calm d' p im t ∧ JSt w L pl d' p jl ⟨half, bank, J.stream recs, recs, false⟩ wx ∧ Fr L.all wo wx)
            case first =>
              rcases hcs78 with ⟨rfl, fm, hget, h200⟩ | rfl
              · have hfr := hf.fr R.st.fr (by simp)
                obtain ⟨B', cb', eb', hbs⟩ := hfr
                obtain ⟨rfl, _, _⟩ : fa = B' ∧ fs.length = fs.length ∧ fc = cb' := by simpa using eb'
                obtain ⟨ad, rfl, had, hcf⟩ := hbs m fm hget
                have hfl : m < fs.length := (List.getElem?_eq_some_iff.1 hget).1
                have hfl' : (m : Int) < (fs.length : Int) := by omega
                have htr := R.st.trip (fm.toNat : Int) (by omega)
                go_wp2_with fail
                refine htr.mono ?_
                rintro e w5 ⟨rfl, S5, f5⟩
                go_wp2_with fail
                go_meet
                exact ⟨_, R.calm.setTrip _, S5, f5⟩
              · go_wp2_with fail
                go_meet
                exact ⟨_, R.calm, R.st, Fr.refl _ _⟩
            case rest =>
              obtain ⟨d', C', S', F'⟩ := hcut
              have hn : ab ∉ L.all := fun hk' => by have := S'.nL ab hk'; have := hN ab hab; omega
              have hNL : ∀ q ∈ L.all, ¬ N q := fun q hq hq' => by have := S'.nL q hq; have := hN q hq'; omega
              have d0 := cell_fr F' c0 hn
              have d1 := cell_fr F' c1 hn
              have d2 := cell_fr F' c2 hn
              have d3 := cell_fr F' c3 hn
              have hszx := hsz.fr F' hNL
              have rowx := ownsRow_fr' R.row F' (fun q hq hq' => R.rn q hq (by simp [jall, hq']))
              have hfits := R.lies.fits
              have hclen := R.lies.len
              rw [conts_length] at hclen
              have hst := vStep_calls S' rfl rfl R.lies.recs (by simp only; omega) x hszx hxo.2 hxo.1 rowx R.rn
              rw [hkde] at hst
              simp only at hst
              go_wp2_with fail
              refine hst.mono ?_
              rintro e wy ⟨code, va, rfl, hP, hrowA⟩
              have htR := R.t
              have h18R := R.calm.inv.len
              obtain ⟨d9, p9, jl9, j9, S9, hB⟩ := step_back hP C' R.lies (by simp only; omega) (by simp only; omega)
              have hpy := hp.fr S9.fr (by simp)
              have hmt := S9.mount hpy hNL
              obtain ⟨im2, n2, hd9, hn2, B2⟩ := hB picks
              rw [hd9] at hmt
              obtain ⟨bk2, l2, H2, hor⟩ := B2.lies
              simp only at hn2 H2
              obtain ⟨t', bs, ht', hop, C2⟩ := open_back (by omega) B2.few B2.pst B2.inv
              have hlen2 := B2.len
              go_wp2_with fail
              refine hmt.mono ?_
              rintro e wz ⟨rfl, S10, F10⟩
              have hc2 : (conts (replayed im2)).length = im.length - 17 := by rw [conts_length]; have : (replayed im2).length = im2.length := replayN_length _ _ _; omega
              have hlenR := R.len
              have hHH := HH.out.1
              have hvo := vOpened_calls S10.D rfl rfl (by simp [rest]; exact B2.few) hop C2 H2 (by rw [hc2]; omega) (by omega) (by omega)
              go_wp2_with fail
              refine hvo.mono ?_
              rintro e wv ⟨pl2, jl3, rfl, O⟩
              go_wp2_with fail
              refine (jRecords_calls O.J).mono ?_
              rintro e wu ⟨vn, rfl, hrowN, f11⟩
              have hLx := S'.lt.1
              have FA : Fr L.all wy wu := (F10.trans O.fr).trans f11.any
              have FR : Fr (jall L pl jl) wo wu := ((F'.mono (fun q hq => by simp [jall, hq])).trans hP.fr).trans (FA.mono (fun q hq => by simp [jall, hq]))
              have rowA2 := ownsRow_fr' hrowA FA (fun q hq hq' => by have := (hrowA.lt q hq).1; have := hLx q hq'; omega)
              have rowR2 := ownsRow_fr' R.row FR (fun q hq => R.rn q hq)
              have hl2 : l2.length ≤ 100000 := by have := H2.fits; have := J.stream_count l2; omega
              have lz := S10.lt.1
              have sz := S10.size
              have lP2 := O.P.lt
              have SN : JSt w L pl2 (rest (replayed im2)) ⟨t', bs, false⟩ jl3 ⟨half, bk2, J.stream l2, l2, false⟩ wu := (JSt.mk O.D O.P O.J (S10.fr.then O.fr (fun q hq => .inr (S10.nL q hq))) S10.nL (fun q hq => ⟨by have := O.nP q hq; omega, fun hq' => by have := O.nP q hq; have := lz q hq'; omega⟩) (fun q hq => ⟨by have := (O.nJ q hq).1; omega, fun hq' => by have := (O.nJ q hq).1; have := lz q hq'; omega, (O.nJ q hq).2⟩)).fr0 f11
              have hallv := (JSt.mk O.D O.P O.J (S10.fr.then O.fr (fun q hq => .inr (S10.nL q hq))) S10.nL (fun q hq => ⟨by have := O.nP q hq; omega, fun hq' => by have := O.nP q hq; have := lz q hq'; omega⟩) (fun q hq => ⟨by have := (O.nJ q hq).1; omega, fun hq' => by have := (O.nJ q hq).1; have := lz q hq'; omega, (O.nJ q hq).2⟩)).allLt
              have rnN : ∀ q, vn.ownBlock = some q → q ∉ jall L pl2 jl3 := fun q hq hq' => by have := (hrowN.lt q hq).1; have := hallv q hq'; omega
              obtain ⟨vnp, vnc, rfl⟩ := ownsRow_len hrowN
              obtain ⟨vap, vac, rfl⟩ := ownsRow_len hrowA
              have hs1 := vSame_calls hrowN rowA2 hl2
              go_wp2_with fail
              refine hs1.mono ?_
              rintro e ws ⟨rfl, f12⟩
              have hs2 := vSame_calls (ownsRow_fr' hrowN f12 (by simp)) (ownsRow_fr' rowR2 f12 (by simp)) hl2
              go_wp2_with fail
              refine hs2.mono ?_
              rintro e wq ⟨rfl, f13⟩
              have RN : Lp w L half m0 (m + 1) (Jp jl3) (.slice vnp l2.length vnc) pl2 jl3 ⟨t', bs, false⟩ (replayed im2) t' bk2 l2 wq := ⟨rfl, (SN.fr0 f12).fr0 f13, C2, by have : (replayed im2).length = im2.length := replayN_length _ _ _; omega, by omega, H2, ownsRow_low (ownsRow_fr' (ownsRow_fr' hrowN f12 (by simp)) f13 (by simp)) (Nat.zero_le _), rnN⟩
              have hor' : (decide (l2 = recs) = true ∧ code ≠ 0) ∨ (decide (l2 = x.after recs) = true ∧ (code = 0 ∨ code = 20)) := by
                rcases hor with ⟨h, h'⟩ | ⟨h, h'⟩
                · exact .inl ⟨by simpa using h, h'⟩
                · exact .inr ⟨by simpa using h, h'⟩
              generalize decide (l2 = recs) = b2 at hor' ⊢
              generalize decide (l2 = x.after recs) = b1 at hor' ⊢
              clear hs1 hs2 hor hst hvo hmt hP hB R S9 S10 O SN FA FR rowA2 rowR2 hrowA
              rcases hor' with ⟨rfl, hc0⟩ | ⟨rfl, rfl | rfl⟩
              · have q0 : (code == 0) = false := by simpa using hc0
                have q1 : (code != 0) = true := by simpa using hc0
                cases b1 with
                | true =>
                  by_cases hc20 : code = 20
                  · subst hc20
                    go_wp2_with fail
                    go_roundg (gk - 1)
                    case measure => have := hk.out; omega
                    case rel => exact ⟨m + 1, pl2, jl3, _, replayed im2, t', bk2, l2, by go_num, by omega, by have := hk.out; unfold Hid; omega, RN⟩
                  · have q2 : (code != 20) = true := by simpa using hc20
                    go_wp2_with fail
                    go_roundg (gk - 1)
                    case measure => have := hk.out; omega
                    case rel => exact ⟨m + 1, pl2, jl3, _, replayed im2, t', bk2, l2, by go_num, by omega, by have := hk.out; unfold Hid; omega, RN⟩
                | false =>
                  by_cases hc20 : code = 20
                  · subst hc20
                    go_wp2_with fail
                    go_roundg (gk - 1)
                    case measure => have := hk.out; omega
                    case rel => exact ⟨m + 1, pl2, jl3, _, replayed im2, t', bk2, l2, by go_num, by omega, by have := hk.out; unfold Hid; omega, RN⟩
                  · have q2 : (code != 20) = true := by simpa using hc20
                    go_wp2_with fail
                    go_roundg (gk - 1)
                    case measure => have := hk.out; omega
                    case rel => exact ⟨m + 1, pl2, jl3, _, replayed im2, t', bk2, l2, by go_num, by omega, by have := hk.out; unfold Hid; omega, RN⟩
              · cases b2 with
                | true =>
                  go_wp2_with fail
                  go_roundg (gk - 1)
                  case measure => have := hk.out; omega
                  case rel => exact ⟨m + 1, pl2, jl3, _, replayed im2, t', bk2, l2, by go_num, by omega, by have := hk.out; unfold Hid; omega, RN⟩
                | false =>
                  go_wp2_with fail
                  go_roundg (gk - 1)
                  case measure => have := hk.out; omega
                  case rel => exact ⟨m + 1, pl2, jl3, _, replayed im2, t', bk2, l2, by go_num, by omega, by have := hk.out; unfold Hid; omega, RN⟩
              · cases b2 with
                | true =>
                  go_wp2_with fail
                  go_roundg (gk - 1)
                  case measure => have := hk.out; omega
                  case rel => exact ⟨m + 1, pl2, jl3, _, replayed im2, t', bk2, l2, by go_num, by omega, by have := hk.out; unfold Hid; omega, RN⟩
                | false =>
                  go_wp2_with fail
                  go_roundg (gk - 1)
                  case measure => have := hk.out; omega
                  case rel => exact ⟨m + 1, pl2, jl3, _, replayed im2, t', bk2, l2, by go_num, by omega, by have := hk.out; unfold Hid; omega, RN⟩
      · have hk1 : (x.kind != 1) = true := by simp; omega
        have hk2 : (x.kind != 2) = true := by simp; omega
        generalize x.kind = kd at c0 hk1 hk2
        clear hkd hx hxo
        go_wp2_with fail
        go_roundg (gk - 1)
        case measure => have := hk.out; omega
        case rel => exact ⟨m + 1, pl, jl, p, im, t, bank, recs, by go_num, by omega, by have := hk.out; unfold Hid; omega, ⟨rfl, R.st, R.calm, R.len, by have := R.t; omega, R.lies, R.row, R.rn⟩⟩
    · obtain rfl : m = xs.length := by omega
      have hlt' : decide ((xs.length : Int) < (xs.length : Int)) = false := by simp
      have hfin := R.st.fr
      clear R
      go_wp2_with fail
      go_ret
      exact ⟨rfl, hfin⟩
end
end Go.Proofs.YtcnhlemenpgkbaaGreatDoor
