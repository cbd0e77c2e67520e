/- The sanity example, walked. -/
import Derived.Test.YtcnhlemenpgkbaaGreatDoorJourS
namespace Go.Proofs.YtcnhlemenpgkbaaGreatDoor
set_option linter.unusedSimpArgs false
set_option linter.unusedVariables false
set_option linter.unnecessarySimpa false
open Go.RowKit M

/-- A journal on a disk at rest. -/
structure Ok (w : World) (L : DL) (pl : PL) (jl : JL) (half bank t len : Nat) (recs : List Bytes) (B : World) : Prop where
  at_ : ∃ (im : List Bytes) (p : M.Pages), JSt w L pl (rest im) p jl ⟨half, bank, J.stream recs, recs, false⟩ B ∧ Calm (rest im) p im t ∧ J.Lies (conts im) half bank recs ∧ im.length = len
theorem ap_sure {w A B : World} {L : DL} {pl : PL} {jl : JL} {half bank t len : Nat} {recs : List Bytes} {rec : Bytes} {e : Ending} {im : List Bytes} {p : M.Pages} (h : ApPost w A L pl (rest im) p jl ⟨half, bank, J.stream recs, recs, false⟩ rec e B) (C : Calm (rest im) p im t) (H : J.Lies (conts im) half bank recs) (hlen : im.length = len) (hl : 2 * half + 1 ≤ len - 17) (h15 : half ≤ 15) (ht : t + 1 < 256)
    (hc : (⟨half, bank, J.stream recs, recs, false⟩ : Jrn).check (J.stream recs ++ J.piece rec) [rec] = 0) : e = .returned (.tuple #[.int .i64 recs.length, .int .i64 0]) ∧ ∃ jl', jl'.b = jl.b ∧ Ok w L pl jl' half bank (t + 1) len (recs ++ [rec]) B := by
  rcases h with ⟨h1, _⟩ | ⟨_, r, jl', h2, h3, hjb, h5, h6⟩
  · exact absurd hc h1
  · obtain ⟨c1, c2⟩ := check_zero rfl hc
    have hs : J.stream (recs ++ [rec]) = J.stream recs ++ J.piece rec := J.stream_snoc _ _
    rw [← hs] at h2
    have hf : J.Fits half bank bank recs (J.stream (recs ++ [rec])) (J.stream recs).length := ⟨H.bk, by rw [hs]; exact c2, .inl ⟨rfl, rfl, by rw [hs, List.take_left' rfl]⟩⟩
    obtain ⟨g1, R, g2, g3, g4, g5⟩ := jgo_sure C ht hf (by omega) (fun x hx => by
      rcases List.mem_append.1 hx with hx | hx
      · exact H.recs x hx
      · exact c1 x hx) h15 H
    simp only at h2
    rw [← h2] at g1 g3 g4
    rw [if_pos g1] at h3 h5
    rw [g3] at h5
    refine ⟨by rw [h3, g1], jl', hjb, ⟨R, r.2.2, ?_, g4, g5, by omega⟩⟩
    rw [← hs] at h5
    exact h5

theorem rp_sure {w A B : World} {L : DL} {pl : PL} {jl : JL} {half bank t len : Nat} {recs rs : List Bytes} {e : Ending} {im : List Bytes} {p : M.Pages} (h : RpPost w A L pl (rest im) p jl ⟨half, bank, J.stream recs, recs, false⟩ rs e B) (C : Calm (rest im) p im t) (H : J.Lies (conts im) half bank recs) (hlen : im.length = len) (hl : 2 * half + 1 ≤ len - 17) (h15 : half ≤ 15) (ht : t + 1 < 256)
    (hc : (⟨half, bank, J.stream recs, recs, false⟩ : Jrn).check (J.stream rs) rs = 0) : e = .returned (.int .i64 0) ∧ ∃ jl', jl'.b = jl.b ∧ Ok w L pl jl' half (1 - bank) (t + 1) len rs B := by
  rcases h with ⟨h1, _⟩ | ⟨_, r, jl', h2, h3, hjb, h5, h6⟩
  · exact absurd hc h1
  · obtain ⟨c1, c2⟩ := check_zero rfl hc
    have hbk := H.bk
    have hf : J.Fits half bank (1 - bank) recs (J.stream rs) 0 := ⟨by omega, c2, .inr ⟨by omega, rfl⟩⟩
    obtain ⟨g1, R, g2, g3, g4, g5⟩ := jgo_sure C ht hf (by omega) c1 h15 H
    simp only at h2
    rw [← h2] at g1 g3 g4
    rw [if_pos g1] at h5
    rw [g3] at h5
    exact ⟨by rw [h3, g1], jl', hjb, ⟨R, r.2.2, h5, g4, g5, by omega⟩⟩

section
variable {w : World}
set_option maxRecDepth 100000 in
set_option maxHeartbeats 4000000 in
theorem vSanity_calls (w : World) : Calls Tryz.prog 4 #[] w fun e w' => e = .returned (.bool true) ∧ Fr [] w w' := by
  have hb := vBegin_calls (w := w) 22 (by omega) (by omega)
  go_enter Tryz.func4, Tryz.ntmps4
  go_wp2_with fail
  refine hb.mono ?_
  rintro e w1 ⟨L, pl, jl, p, rfl, S1, C1⟩
  go_wp2_with fail
  refine (vBegin_small (w := w1)).mono ?_
  rintro e w2 ⟨v, rfl, f2⟩
  have S2 := S1.fr0 f2
  have hlen := jLen_calls S2.J
  simp only [show ((22 : Int).toNat - 18) / 2 = 2 from rfl] at S1 S2 hlen
  go_wp2_with fail
  refine hlen.mono ?_
  rintro e w3 ⟨rfl, rfl⟩
  go_wp2_with fail
  refine (jRoom_calls S2.J).mono ?_
  rintro e w4 ⟨rfl, f4⟩
  have S4 := S2.fr0 f4
  have ha := Late.jAppend_calls S4 rfl (by simp) (by simp) [97, 98] (by simp)
  go_wp2_with fail
  refine ha.mono ?_
  rintro e w5 hA
  obtain ⟨rfl, jl5, hb5, O5⟩ := ap_sure hA C1 (lies0 22 (by omega)) (len := 22) (by simp [im0]) (by omega) (by omega) (by omega) (by decide)
  obtain ⟨im5, p5, S5, C5, H5, l5⟩ := O5.at_
  simp only [List.nil_append] at S5 H5
  obtain ⟨b5, g5⟩ := jl5
  simp only at hb5
  subst hb5
  clear hA ha O5 C1 S1 S2 S4
  have hb := Late.jAppend_calls S5 rfl (by simp) (by decide) [] (by simp)
  go_wp2_with fail
  refine hb.mono ?_
  rintro e w6 hB
  obtain ⟨rfl, jl6, hb6, O6⟩ := ap_sure hB C5 H5 l5 (by omega) (by omega) (by omega) (by decide)
  obtain ⟨im6, p6, S6, C6, H6, l6⟩ := O6.at_
  obtain ⟨b6, g6⟩ := jl6
  simp only at hb6
  subst hb6
  clear hB hb O6 C5 S5 H5
  simp only [List.cons_append, List.nil_append] at S6 H6
  have hu := jUsed_calls S6.J
  have hu6 : (J.stream [[97, 98], []]).length = 6 := by decide
  simp only [hu6] at hu
  go_wp2_with fail
  refine hu.mono ?_
  rintro e w7 ⟨rfl, rfl⟩
  have hr := jRoom_calls S6.J
  simp only [hu6] at hr
  clear hu
  go_wp2_with fail
  refine hr.mono ?_
  rintro e w8 ⟨rfl, f8⟩
  have S8 := S6.fr0 f8
  clear S6 hr
  have hstr : (J.stream [[97, 98], []]).length = 6 := hu6
  have ht1 := vText_calls (w := w8) 97 225 (by omega) (by omega)
  have hl1 : (tx 97 225).length = 225 := by rw [tx_length]; rfl
  generalize tx 97 225 = t1 at ht1 hl1
  have hc1 : (⟨(22 - 18) / 2, 0, J.stream [[97, 98], []], [[97, 98], []], false⟩ : Jrn).check (J.stream [[97, 98], []] ++ J.piece t1) [t1] = 21 := by
    unfold Jrn.check
    have e1 : longs [t1] = false := by simp [longs, hl1]
    have e2 : (J.stream [[97, 98], []] ++ J.piece t1).length = 233 := by rw [List.length_append, hu6]; unfold J.piece; rw [List.length_append, le_length, hl1]
    rw [e1, e2]
    rfl
  have HC1 := Lib.hid (And.intro hc1 hl1)
  have hl1' : t1.length ≤ 100000 := by omega
  clear hc1 hl1
  go_wp2_with fail
  refine ht1.mono ?_
  rintro e w9 ⟨rfl, f9⟩
  have S9 := S8.fr0 f9
  clear S8 f8 f9 ht1
  have ha9 := Late.jAppend_calls S9 rfl (by simp) (by decide) t1 hl1'
  go_wp2_with fail
  refine ha9.mono ?_
  rintro e w10 hA10
  rcases hA10 with ⟨_, rfl, S10, _⟩ | ⟨h0, _⟩
  case inr => rw [HC1.out.1] at h0; exact absurd h0 (by decide)
  rw [HC1.out.1]
  clear HC1 ha9 S9 hl1'
  have ht2 := vText_calls (w := w10) 97 8001 (by omega) (by omega)
  have hl2 : (tx 97 8001).length = 8001 := by rw [tx_length]; rfl
  generalize tx 97 8001 = t2 at ht2 hl2
  have hc2 : (⟨(22 - 18) / 2, 0, J.stream [[97, 98], []], [[97, 98], []], false⟩ : Jrn).check (J.stream [[97, 98], []] ++ J.piece t2) [t2] = 2 := by
    unfold Jrn.check
    have e1 : longs [t2] = true := by simp [longs, hl2]
    rw [e1]
    rfl
  have HC2 := Lib.hid (And.intro hc2 hl2)
  have hl2' : t2.length ≤ 100000 := by omega
  clear hc2 hl2
  go_wp2_with fail
  refine ht2.mono ?_
  rintro e w11 ⟨rfl, f11⟩
  have S11 := S10.fr0 f11
  clear S10 f11 ht2
  have ha11 := Late.jAppend_calls S11 rfl (by simp) (by decide) t2 hl2'
  go_wp2_with fail
  refine ha11.mono ?_
  rintro e w12 hA12
  rcases hA12 with ⟨_, rfl, S12, _⟩ | ⟨h0, _⟩
  case inr => rw [HC2.out.1] at h0; exact absurd h0 (by decide)
  rw [HC2.out.1]
  clear HC2 ha11 S11 hl2'
  have hr0 := jRecord_calls S12.J 0 (by omega)
  have hr2 := jRecord_calls S12.J 2 (by omega)
  simp only [List.getElem?_cons_zero, Option.getD_some, List.length_cons, List.length_nil] at hr0 hr2
  go_wp2_with fail
  refine hr0.mono ?_
  rintro e w13 ⟨rfl, rfl⟩
  go_wp2_with fail
  refine hr2.mono ?_
  rintro e w14 ⟨rfl, rfl⟩
  clear hr0 hr2
  go_wp2_with fail
  have gX : (w14.alloc (Obj.cells #[str [120], str [121, 122]] 9)).heap[w14.heap.size]? = some (.cells #[str [120], str [121, 122]] 9 (0, 0)) := heap_alloc_new w14 _
  have fX := (Fr.refl [] w14).alloc (Obj.cells #[str [120], str [121, 122]] 9)
  have S15 := S12.fr0 fX
  clear S12
  change Calls Tryz.prog _ _ (w14.alloc (Obj.cells #[str [120], str [121, 122]] 9)) _
  generalize w14.alloc (Obj.cells #[str [120], str [121, 122]] 9) = w15 at gX fX S15 ⊢
  have rX : w15.ownsRow 0 9 1 (.slice (some ⟨w14.heap.size, 0, none⟩) 2 2) ([[120], [121, 122]] : List Bytes).length (strs [[120], [121, 122]]) := ⟨rfl, .inr ⟨w14.heap.size, 2, _, rfl, Nat.zero_le _, gX, Nat.le_refl _, by decide, rfl, rfl⟩⟩
  refine (Late.jReplace_calls S15 rfl rX (by simp) (by decide)).mono ?_
  rintro e w16 hR
  obtain ⟨rfl, jl7, hb7, O7⟩ := rp_sure hR C6 H6 l6 (by omega) (by omega) (by omega) (by decide)
  obtain ⟨im7, p7, S7, C7, H7, l7⟩ := O7.at_
  obtain ⟨b7, g7⟩ := jl7
  simp only at hb7
  subst hb7
  clear hR O7 C6 H6 S15 rX gX fX H7 C7
  go_wp2_with fail
  refine (jRecords_calls S7.J).mono ?_
  rintro e w17 ⟨vr, rfl, hrowR, f17⟩
  obtain ⟨vrp, vrc, rfl⟩ := ownsRow_len hrowR
  have S17 := S7.fr0 f17
  go_wp2_with fail
  have gY : (w17.alloc (Obj.cells #[str [120], str [121, 122]] 9)).heap[w17.heap.size]? = some (.cells #[str [120], str [121, 122]] 9 (0, 0)) := heap_alloc_new w17 _
  have fY := (Fr.refl [] w17).alloc (Obj.cells #[str [120], str [121, 122]] 9)
  have S18 := S17.fr0 fY
  have hrowR2 := ownsRow_fr' hrowR fY (by simp)
  clear S7 S17 hrowR
  change Calls Tryz.prog _ _ (w17.alloc (Obj.cells #[str [120], str [121, 122]] 9)) _
  generalize w17.alloc (Obj.cells #[str [120], str [121, 122]] 9) = w18 at gY fY S18 hrowR2 ⊢
  have rY : w18.ownsRow 0 9 1 (.slice (some ⟨w17.heap.size, 0, none⟩) 2 2) ([[120], [121, 122]] : List Bytes).length (strs [[120], [121, 122]]) := ⟨rfl, .inr ⟨w17.heap.size, 2, _, rfl, Nat.zero_le _, gY, Nat.le_refl _, by decide, rfl, rfl⟩⟩
  refine (vSame_calls hrowR2 rY (by simp)).mono ?_
  rintro e w19 ⟨rfl, f19⟩
  have S19 := S18.fr0 f19
  have hl19 := jLen_calls S19.J
  have hu19 := jUsed_calls S19.J
  have hu7 : (J.stream [[120], [121, 122]]).length = 7 := by decide
  simp only [hu7] at hu19
  clear S18 hrowR2 rY gY
  simp only [decide_true]
  go_wp2_with fail
  refine hl19.mono ?_
  rintro e w20 ⟨rfl, rfl⟩
  go_wp2_with fail
  refine hu19.mono ?_
  rintro e w21 ⟨rfl, rfl⟩
  go_wp2_with fail
  go_ret
  exact ⟨rfl, S19.fr⟩
end
end Go.Proofs.YtcnhlemenpgkbaaGreatDoor
