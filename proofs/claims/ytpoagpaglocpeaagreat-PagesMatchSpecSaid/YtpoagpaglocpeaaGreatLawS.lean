/- Steps on a disk and its pages that a law has made; the sanity example, walked. -/
import Derived.Test.YtpoagpaglocpeaaGreatLawC
import Derived.Test.YtpoagpaglocpeaaGreatSanM
namespace Go.Proofs.YtpoagpaglocpeaaGreat
set_option linter.unusedSimpArgs false
set_option linter.unusedVariables false
set_option linter.unnecessarySimpa false
open Go.RowKit M

/-- A disk and its pages that the law has made. -/
structure St (w : World) (L : DL) (pl : PL) (d : Disk) (p : M.Pages) (A : World) : Prop where
  D : DiskAt A L d
  P : PagesAt A pl L p
  fr : Fr [] w A
  nL : ∀ k ∈ L.all, w.heap.size ≤ k
  nP : ∀ k ∈ pl.all, w.heap.size ≤ k ∧ k ∉ L.all

section
variable {w A B : World} {L : DL} {pl : PL} {d : Disk} {p : M.Pages}

theorem St.fr0 (h : St w L pl d p A) (f : Fr [] A B) : St w L pl d p B := ⟨h.D.fr0 f, h.P.fr0 f, h.fr.trans f, h.nL, h.nP⟩
theorem St.frS {S : List Nat} (h : St w L pl d p A) (f : Fr S A B) (hS : ∀ k ∈ S, w.heap.size ≤ k ∧ k ∉ L.all ∧ k ∉ pl.all) : St w L pl d p B :=
  ⟨h.D.fr f (fun k hk hk' => (hS k hk').2.1 hk), h.P.fr f (fun k hk hk' => (hS k hk').2.2 hk), h.fr.then f (fun k hk => .inr (hS k hk).1), h.nL, h.nP⟩
theorem St.read (h : St w L pl d p A) {i : Int} {s : Bytes} {x : Int} (hr : p.read d i = (s, x)) : Calls Tryz.prog 39 #[Pp pl, .int .i64 i] A fun e B => e = .returned (.tuple #[str s, .int .i64 x]) ∧ Fr [] A B := by
  have := pRead_calls h.D h.P i
  rw [hr] at this
  exact this
theorem St.write (h : St w L pl d p A) {v : Value} {l : List PW} (hl : PwAt A v l) (h1 : ∀ x ∈ l, x.2.length ≤ 1000) (h2 : l.length ≤ 100000) : Calls Tryz.prog 40 #[Pp pl, v] A fun e B =>
    e = .returned (.int .i64 (give d p l).1) ∧ St w L pl (give d p l).2.1 (give d p l).2.2 B ∧ Fr (pl.b :: L.all) A B := by
  refine (pWrite_calls h.D h.P (fun k hk => (h.nP k hk).2) hl h1 h2).mono ?_
  rintro e B ⟨rfl, hD, hP, f⟩
  refine ⟨rfl, ⟨hD, hP, h.fr.then f (fun k hk => .inr ?_), h.nL, h.nP⟩, f⟩
  rcases List.mem_cons.1 hk with rfl | hk
  · exact (h.nP _ (by simp [PL.all])).1
  · exact h.nL k hk
theorem St.trip (h : St w L pl d p A) (n : Int) (hn : n ≤ 9223372036854775807) : Calls Tryz.prog 45 #[Dp L, .int .i64 n] A fun e B => e = .returned (.tuple #[]) ∧ St w L pl (d.setTrip n) p B ∧ Fr L.all A B := by
  refine (dTrip_calls h.D n hn).mono ?_
  rintro e B ⟨rfl, hD, f⟩
  have f' : Fr L.all A B := f.mono (by simp [DL.all])
  exact ⟨rfl, ⟨hD, h.P.fr f' (fun k hk => (h.nP k hk).2), h.fr.then f' (fun k hk => .inr (h.nL k hk)), h.nL, h.nP⟩, f'⟩
theorem St.mount (h : St w L pl d p A) {N : Nat → Prop} {pv : Value} {picks : List Int} (hp : IntsAt N A pv picks) (hN : ∀ k ∈ L.all, ¬ N k) : Calls Tryz.prog 46 #[Dp L, pv] A fun e B => e = .returned (.tuple #[]) ∧ St w L pl (d.mount picks) p B ∧ Fr L.all A B := by
  refine (dMount_calls h.D N pv picks hp hN).mono ?_
  rintro e B ⟨rfl, hD, f⟩
  exact ⟨rfl, ⟨hD, h.P.fr f (fun k hk => (h.nP k hk).2), h.fr.then f (fun k hk => .inr (h.nL k hk)), h.nL, h.nP⟩, f⟩
theorem St.rot (h : St w L pl d p A) (i b : Int) : Calls Tryz.prog 47 #[Dp L, .int .i64 i, .int .i64 b] A fun e B => e = .returned (.int .i64 (d.rot i b).1) ∧ St w L pl (d.rot i b).2 p B ∧ Fr L.all A B := by
  refine (dRot_calls h.D i b).mono ?_
  rintro e B ⟨rfl, hD, f⟩
  exact ⟨rfl, ⟨hD, h.P.fr f (fun k hk => (h.nP k hk).2), h.fr.then f (fun k hk => .inr (h.nL k hk)), h.nL, h.nP⟩, f⟩
/-- Opened again: the pages are new ones. -/
theorem St.reopen (h : St w L pl d p A) (h1 : d.off = false) (h2 : d.trip = -1) (h3 : 18 ≤ d.pg.length) : Calls Tryz.prog 37 #[Dp L] A fun e B => ∃ pl', e = .returned (.tuple #[Pp pl', .int .i64 0]) ∧ St w L pl' (openAt d).1 (openAt d).2 B ∧ Fr L.all A B ∧ ∀ k ∈ pl'.all, A.heap.size ≤ k := by
  refine (pOpen_calls h.D h1 h2 h3).mono ?_
  rintro e B ⟨pl', rfl, hD, hP, f, n⟩
  have hlt := h.D.lt
  exact ⟨pl', rfl, ⟨hD, hP, h.fr.then f (fun k hk => .inr (h.nL k hk)), h.nL, fun k hk => ⟨by have := n k hk; have := h.fr.size; omega, fun hk' => by have := n k hk; have := hlt k hk'; omega⟩⟩, f, n⟩
end

theorem pw_new1 (w : World) (p : Int) (s : Bytes) : PwAt (w.alloc (.cells #[.int .i64 p, str s] 92)) (.slice (some ⟨w.heap.size, 0, none⟩) 1 1) [(p, s)] :=
  ⟨rfl, .inr ⟨w.heap.size, 1, _, rfl, Nat.zero_le _, heap_alloc_new w _, Nat.le_refl _, by decide, rfl, rfl⟩⟩
theorem pw_new2 (w : World) (p q : Int) (s t : Bytes) : PwAt (w.alloc (.cells #[.int .i64 p, str s, .int .i64 q, str t] 92)) (.slice (some ⟨w.heap.size, 0, none⟩) 2 2) [(p, s), (q, t)] :=
  ⟨rfl, .inr ⟨w.heap.size, 2, _, rfl, Nat.zero_le _, heap_alloc_new w _, Nat.le_refl _, by decide, rfl, rfl⟩⟩
theorem pw_nil (w : World) : PwAt w (.slice none 0 0) [] := World.ownsRow_nil _ _ _ _
theorem ints_new3 (w : World) (a b c : Int) : IntsAt (fun k => k = w.heap.size) (w.alloc (.cells #[.int .i64 a, .int .i64 b, .int .i64 c] 3)) (.slice (some ⟨w.heap.size, 0, none⟩) 3 3) [a, b, c] := by
  refine ⟨_, 3, rfl, fun j hj => ⟨_, rfl, rfl, ?_⟩⟩
  have hg := heap_alloc_new w (.cells #[.int .i64 a, .int .i64 b, .int .i64 c] 3)
  rw [addr_add, cell_of_row _ _ _ _ _ _ hg]
  match j, hj with
  | 0, _ => rfl
  | 1, _ => rfl
  | 2, _ => rfl

section
open San
theorem fill_len (c : UInt8) : (fill c).length = 116 := by simp [fill]

set_option maxRecDepth 100000 in
set_option maxHeartbeats 4000000 in
theorem lSanity_calls (w : World) : Calls Tryz.prog 11 #[] w fun e w' => e = .returned (.bool true) ∧ Fr [] w w' := by
  have hF : ∀ (c : UInt8) (w' : World), Calls Tryz.prog 44 #[.int .u8 c.toNat, .int .i64 116] w' fun e w2 => e = .returned (str (fill c)) ∧ Fr [] w' w2 := fun c w' => lFull_calls c 116 (by omega)
  have hF0 : ∀ (w' : World), Calls Tryz.prog 44 #[.int .u8 0, .int .i64 116] w' fun e w2 => e = .returned (str (fill 0)) ∧ Fr [] w' w2 := hF 0
  have hF97 : ∀ (w' : World), Calls Tryz.prog 44 #[.int .u8 97, .int .i64 116] w' fun e w2 => e = .returned (str (fill 97)) ∧ Fr [] w' w2 := hF 97
  have hF98 : ∀ (w' : World), Calls Tryz.prog 44 #[.int .u8 98, .int .i64 116] w' fun e w2 => e = .returned (str (fill 98)) ∧ Fr [] w' w2 := hF 98
  have hF120 : ∀ (w' : World), Calls Tryz.prog 44 #[.int .u8 120, .int .i64 116] w' fun e w2 => e = .returned (str (fill 120)) ∧ Fr [] w' w2 := hF 120
  have hW97 : ∀ (p : Int) (w' : World), Calls Tryz.prog 41 #[.int .i64 p, .int .u8 97] w' fun e w2 => e = .returned (.agg #[.int .i64 p, str (fill 97)]) ∧ Fr [] w' w2 := fun p w' => lWrite_calls p 97
  have hW98 : ∀ (p : Int) (w' : World), Calls Tryz.prog 41 #[.int .i64 p, .int .u8 98] w' fun e w2 => e = .returned (.agg #[.int .i64 p, str (fill 98)]) ∧ Fr [] w' w2 := fun p w' => lWrite_calls p 98
  clear hF
  have hl97 := fill_len 97
  have hl98 := fill_len 98
  have HL := Lib.hid (And.intro hl97 hl98)
  clear hl97 hl98
  go_enter Tryz.func11, Tryz.ntmps11
  go_wp2_with fail
  refine (dNew_calls w 20 (by omega) (by omega)).mono ?_
  rintro e w1 ⟨L, rfl, D1, fr1, nL⟩
  go_wp2_with fail
  refine (pOpen_calls D1 rfl rfl (by simp [Disk.new])).mono ?_
  rintro e w2 ⟨pl, rfl, D2, P2, fr2, nP⟩
  have lL := D1.lt
  have S2 : St w L pl s1.1 s1.2 w2 := ⟨D2, P2, fr1.then fr2 (fun k hk => .inr (nL k hk)), nL, fun k hk => ⟨by have := nP k hk; have := fr1.size; omega, fun hk' => by have := nP k hk; have := lL k hk'; omega⟩⟩
  clear D1 D2 P2 fr1 fr2 nL nP lL
  go_wp2_with fail
  refine (S2.read San.f1).mono ?_
  rintro e w3 ⟨rfl, f3⟩
  have S3 := S2.fr0 f3
  clear S2
  go_wp2_with fail
  refine (hW97 0 _).mono ?_
  rintro e w4 ⟨rfl, f4⟩
  have S4 := S3.fr0 f4
  go_wp2_with fail
  refine (hW98 2 _).mono ?_
  rintro e w5 ⟨rfl, f5⟩
  have S5 := S4.fr0 f5
  have f6 := (Fr.refl [] w5).alloc (.cells #[.int .i64 0, str (fill 97), .int .i64 2, str (fill 98)] 92)
  have S6 := S5.fr0 f6
  have l6 := pw_new2 w5 0 2 (fill 97) (fill 98)
  clear S3 S4 S5
  have hw := S6.write l6 (by have := HL.out; intro x hx; simp only [List.mem_cons, List.mem_nil_iff, or_false] at hx; rcases hx with rfl | rfl <;> simp only <;> omega) (by simp)
  rw [show give s1.1 s1.2 [(0, fill 97), (2, fill 98)] = s2 from rfl, San.f2] at hw
  go_wp2_with fail
  refine hw.mono ?_
  rintro e w7 ⟨rfl, S7, -⟩
  clear S6 hw l6 f3 f4 f5 f6
  go_wp2_with fail
  refine (S7.read San.f3).mono ?_
  rintro e w8 ⟨rfl, f8⟩
  have S8 := S7.fr0 f8
  clear S7
  have hw := S8.write (pw_nil w8) (by simp) (by simp)
  rw [show give s2.2.1 s2.2.2 [] = s3 from rfl, San.f4] at hw
  go_wp2_with fail
  refine hw.mono ?_
  rintro e w9 ⟨rfl, S9, -⟩
  clear S8 hw f8
  go_wp2_with fail
  refine (hW97 3 _).mono ?_
  rintro e w10 ⟨rfl, f10⟩
  have S10 := S9.fr0 f10
  have S11 := S10.fr0 ((Fr.refl [] w10).alloc (.cells #[.int .i64 3, str (fill 97)] 92))
  have hw := S11.write (pw_new1 w10 3 (fill 97)) (by have := HL.out; intro x hx; simp only [List.mem_cons, List.mem_nil_iff, or_false] at hx; subst hx; simp only; omega) (by simp)
  rw [show give s3.2.1 s3.2.2 [(3, fill 97)] = s4 from rfl, San.f5] at hw
  clear S9 S10 S11
  go_wp2_with fail
  refine hw.mono ?_
  rintro e w12 ⟨rfl, S12, -⟩
  clear hw f10
  have hl12 := pLen_calls S12.D S12.P
  rw [San.f6] at hl12
  have hn12 := pNumber_calls S12.P
  rw [San.f7] at hn12
  go_wp2_with fail
  refine hl12.mono ?_
  rintro e w13 ⟨rfl, rfl⟩
  go_wp2_with fail
  refine hn12.mono ?_
  rintro e w14 ⟨rfl, rfl⟩
  clear hl12 hn12
  go_wp2_with fail
  refine (hF0 _).mono ?_
  rintro e w15 ⟨rfl, f15⟩
  have S15 := S12.fr0 f15
  clear S12
  go_wp2_with (first | (with_reducible refine wpL_stop (o := ⟨_, .binOp .neq 9 _ _ _, _, _, _, _⟩) ?_) | (with_reducible refine wpL_stop (o := ⟨_, .binOp .eql 9 _ _ _, _, _, _, _⟩) ?_))
  refine unhold (wpL_valg rfl (run_strEq _ _ _ _ rfl (fill 0) (fill 0) rfl rfl true (by simp)) ?_)
  go_wp2_with fail
  refine (hF98 _).mono ?_
  rintro e w16 ⟨rfl, f16⟩
  have S16 := S15.fr0 f16
  clear S15
  go_wp2_with (first | (with_reducible refine wpL_stop (o := ⟨_, .binOp .neq 9 _ _ _, _, _, _, _⟩) ?_) | (with_reducible refine wpL_stop (o := ⟨_, .binOp .eql 9 _ _ _, _, _, _, _⟩) ?_))
  refine unhold (wpL_valg rfl (run_strEq _ _ _ _ rfl (fill 98) (fill 98) rfl rfl true (by simp)) ?_)
  go_wp2_with fail
  refine (S16.trip 2 (by omega)).mono ?_
  rintro e w17 ⟨rfl, S17, -⟩
  clear S16 f15 f16
  go_wp2_with fail
  refine (hW98 0 _).mono ?_
  rintro e w18 ⟨rfl, f18⟩
  have S18 := S17.fr0 f18
  have S19 := S18.fr0 ((Fr.refl [] w18).alloc (.cells #[.int .i64 0, str (fill 98)] 92))
  have hw := S19.write (pw_new1 w18 0 (fill 98)) (by have := HL.out; intro x hx; simp only [List.mem_cons, List.mem_nil_iff, or_false] at hx; subst hx; simp only; omega) (by simp)
  rw [show give (s4.2.1.setTrip 2) s4.2.2 [(0, fill 98)] = s5 from rfl, San.f8] at hw
  clear S17 S18 S19
  go_wp2_with fail
  refine hw.mono ?_
  rintro e w20 ⟨rfl, S20, -⟩
  clear hw f18
  go_wp2_with fail
  refine (S20.read San.f9).mono ?_
  rintro e w21 ⟨rfl, f21⟩
  have S21 := S20.fr0 f21
  have S22 := S21.fr0 ((Fr.refl [] w21).alloc (.cells #[.int .i64 0, .int .i64 0, .int .i64 0] 3))
  have hm := S22.mount (ints_new3 w21 0 0 0) (fun k hk e => by have := S21.D.lt k hk; omega)
  rw [show s5.2.1.mount [0, 0, 0] = d6 from rfl] at hm
  clear S20 S21 S22
  go_wp2_with fail
  refine hm.mono ?_
  rintro e w23 ⟨rfl, S23, -⟩
  clear hm f21
  go_wp2_with fail
  refine (S23.reopen San.f10 San.f11 (by rw [San.f12]; omega)).mono ?_
  rintro e w24 ⟨pl2, rfl, S24, -, -⟩
  rw [show openAt d6 = s6 from rfl] at S24
  clear S23
  go_wp2_with fail
  refine (S24.read San.f13).mono ?_
  rintro e w25 ⟨rfl, f25⟩
  have S25 := S24.fr0 f25
  clear S24
  go_wp2_with fail
  refine (hF97 _).mono ?_
  rintro e w26 ⟨rfl, f26⟩
  have S26 := S25.fr0 f26
  clear S25 f25 f26
  go_wp2_with (first | (with_reducible refine wpL_stop (o := ⟨_, .binOp .neq 9 _ _ _, _, _, _, _⟩) ?_) | (with_reducible refine wpL_stop (o := ⟨_, .binOp .eql 9 _ _ _, _, _, _, _⟩) ?_))
  refine unhold (wpL_valg rfl (run_strEq _ _ _ _ rfl (fill 97) (fill 97) rfl rfl true (by simp)) ?_)
  have hr := S26.rot 19 77
  rw [show s6.1.rot 19 77 = s7 from rfl, San.f14] at hr
  clear S26
  go_wp2_with fail
  refine hr.mono ?_
  rintro e w27 ⟨rfl, S27, -⟩
  clear hr
  go_wp2_with fail
  refine (S27.read San.f15).mono ?_
  rintro e w28 ⟨rfl, f28⟩
  have S28 := S27.fr0 f28
  clear S27
  go_wp2_with fail
  refine (S28.reopen San.f16 San.f17 (by rw [San.f18]; omega)).mono ?_
  rintro e w29 ⟨pl3, rfl, S29, -, -⟩
  rw [show openAt s7.2 = s8 from rfl] at S29
  clear S28 f28
  go_wp2_with fail
  refine (S29.read San.f19).mono ?_
  rintro e w30 ⟨rfl, f30⟩
  have S30 := S29.fr0 f30
  clear S29
  go_wp2_with fail
  refine (hF98 _).mono ?_
  rintro e w31 ⟨rfl, f31⟩
  have S31 := S30.fr0 f31
  clear S30 f30 f31
  go_wp2_with (first | (with_reducible refine wpL_stop (o := ⟨_, .binOp .neq 9 _ _ _, _, _, _, _⟩) ?_) | (with_reducible refine wpL_stop (o := ⟨_, .binOp .eql 9 _ _ _, _, _, _, _⟩) ?_))
  refine unhold (wpL_valg rfl (run_strEq _ _ _ _ rfl (fill 98) (fill 98) rfl rfl true (by simp)) ?_)
  have hb := pBad_calls S31.P (by rw [San.f20]; simp)
  rw [San.f20] at hb
  go_wp2_with fail
  refine hb.mono ?_
  rintro e w32 ⟨bv, rfl, hbv, f32⟩
  obtain ⟨bp, bc, rfl⟩ := ownsRow_len hbv
  have F32 := S31.fr.trans f32
  clear S31 hb hbv f32
  go_wp2_with fail
  refine (hF120 _).mono ?_
  rintro e w33 ⟨rfl, f33⟩
  have F33 := F32.trans f33
  go_wp2_with fail
  refine (pSeal_calls 7 (fill 120) _).mono ?_
  rintro e w34 ⟨rfl, f34⟩
  have F34 := F33.trans f34
  have hu := fun w' => pUnseal_calls (sealed 7 (fill 120)) (by rw [San.f27]; omega) w'
  rw [San.f21, San.f22, San.f23] at hu
  go_wp2_with fail
  refine (hu _).mono ?_
  rintro e w35 ⟨rfl, f35⟩
  have F35 := F34.trans f35
  clear hu F32 F33 F34 f33 f34 f35
  have hc1 : ∀ w' : World, Calls Tryz.prog 51 #[.string ⟨#[49, 50, 51, 52, 53, 54, 55, 56, 57]⟩] w' fun e w2 => e = .returned (.int .i64 3421780262) ∧ Fr [] w' w2 := by
    intro w'
    have := pCrc_calls [49, 50, 51, 52, 53, 54, 55, 56, 57] (by simp) w'
    rw [San.f24] at this
    exact this
  have hc2 : ∀ w' : World, Calls Tryz.prog 51 #[.string ⟨#[]⟩] w' fun e w2 => e = .returned (.int .i64 0) ∧ Fr [] w' w2 := by
    intro w'
    have := pCrc_calls [] (by simp) w'
    rw [San.f25] at this
    exact this
  go_wp2_with fail
  refine (hc1 _).mono ?_
  rintro e w36 ⟨rfl, f36⟩
  have F36 := F35.trans f36
  go_wp2_with fail
  refine (hc2 _).mono ?_
  rintro e w37 ⟨rfl, f37⟩
  have F37 := F36.trans f37
  go_wp2_with fail
  refine (hF120 _).mono ?_
  rintro e w38 ⟨rfl, f38⟩
  have F38 := F37.trans f38
  go_wp2_with (first | (with_reducible refine wpL_stop (o := ⟨_, .binOp .neq 9 _ _ _, _, _, _, _⟩) ?_) | (with_reducible refine wpL_stop (o := ⟨_, .binOp .eql 9 _ _ _, _, _, _, _⟩) ?_))
  refine unhold (wpL_valg rfl (run_strEq _ _ _ _ rfl (fill 120) (fill 120) rfl rfl true (by simp)) ?_)
  go_wp2_with fail
  go_ret
  exact ⟨rfl, F38⟩
end
end Go.Proofs.YtpoagpaglocpeaaGreat
