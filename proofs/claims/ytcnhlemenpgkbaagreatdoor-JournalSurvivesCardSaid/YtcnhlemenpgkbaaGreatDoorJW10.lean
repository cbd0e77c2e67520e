/- The journal opened. -/
import Derived.Test.YtcnhlemenpgkbaaGreatDoorJW9
namespace Go.Proofs.YtcnhlemenpgkbaaGreatDoor
set_option linter.unusedSimpArgs false
set_option linter.unusedVariables false
set_option linter.unnecessarySimpa false
open Go.RowKit M

theorem head_part (bank used count : Nat) (hb : bank ≤ 1) (hu : used < 4294967296) (hc : count < 4294967296) :
    num (((J.head bank used count).take 5).drop 1) = used ∧ num (((J.head bank used count).take 9).drop 5) = count ∧ (J.head bank used count).drop 9 = zeros 107 ∧ (J.head bank used count)[0]?.map (·.toNat) = some bank := by
  have l1 : (le 1 bank).length = 1 := le_length _ _
  have l4 : (le 4 used).length = 4 := le_length _ _
  have l4' : (le 4 count).length = 4 := le_length _ _
  have e : J.head bank used count = le 1 bank ++ (le 4 used ++ (le 4 count ++ zeros 107)) := by simp [J.head]
  rw [e]
  refine ⟨?_, ?_, ?_, ?_⟩
  · rw [List.drop_take, List.drop_left' l1, List.take_left' l4]
    exact num_le 4 used (by omega)
  · rw [List.drop_take, show (5 : Nat) = 1 + 4 from rfl, ← List.drop_drop, List.drop_left' l1, List.drop_left' l4, List.take_left' l4']
    exact num_le 4 count (by omega)
  · rw [show (9 : Nat) = 1 + (4 + 4) from rfl, ← List.drop_drop, List.drop_left' l1, ← List.drop_drop, List.drop_left' l4, List.drop_left' l4']
  · rcases Nat.le_one_iff_eq_zero_or_eq_one.1 hb with rfl | rfl <;> rfl

section
variable {w : World} {L : DL} {d : Disk} {pl : PL} {p : M.Pages}

/-- No room for banks: no journal. -/
theorem jOpen_small (D : DiskAt w L d) (P : PagesAt w pl L p) (h : d.len = 19) : Calls Tryz.prog 23 #[Pp pl] w fun e w' => e = .returned (.tuple #[.pointer none, .int .i64 1]) ∧ Fr [] w w' := by
  have hl := pLen_calls D P
  rw [h] at hl
  go_enter Tryz.func23, Tryz.ntmps23
  go_wp2_with fail
  refine hl.mono ?_
  rintro e w1 ⟨rfl, rfl⟩
  go_wp2_with fail
  go_ret2
  exact ⟨rfl, (Fr.refl _ _).alloc _⟩

set_option maxRecDepth 100000 in
set_option maxHeartbeats 1000000 in
theorem jOpen_calls (D : DiskAt w L d) (P : PagesAt w pl L p) {c : List Bytes} {half bank : Nat} {l : List Bytes} (H : J.Lies c half bank l) (hlen : d.len - 17 = c.length) (hhalf : half = (c.length - 1) / 2) (h1 : 1 ≤ half) (h4 : half ≤ 1000) (hread : ∀ i (hi : i < c.length), p.read d i = (c[i], 0)) :
    Calls Tryz.prog 23 #[Pp pl] w fun e w' => ∃ jl, e = .returned (.tuple #[Jp jl, .int .i64 0]) ∧ JrnAt w' jl pl ⟨half, bank, J.stream l, l, false⟩ ∧ Fr [] w w' ∧ ∀ k ∈ jl.all, w.heap.size ≤ k := by
  have hl := pLen_calls D P
  rw [hlen] at hl
  have hq : ((c.length : Int) - 1) / 2 = (half : Int) := by omega
  have hc2 : (c.length : Int) ≤ 4096 := by have := D.ok.few; unfold Disk.len at hlen; omega
  have hbk := H.bk
  have hfit := H.fits
  have hcnt := J.stream_count l
  obtain ⟨y1, y2, y3, y4⟩ := head_part bank (J.stream l).length l.length hbk (by omega) (by omega)
  have hc0 : 0 < c.length := by have := H.len; omega
  have hr0 := hread 0 hc0
  have hh0 : c[0] = J.head bank (J.stream l).length l.length := by have := H.h; rw [List.getElem?_eq_getElem hc0] at this; exact Option.some.inj this
  rw [hh0] at hr0
  have hhl := J.head_length bank (J.stream l).length l.length
  generalize J.head bank (J.stream l).length l.length = hd at y1 y2 y3 y4 hhl hr0
  obtain ⟨N, hN⟩ : ∃ N : Int, (c.length : Int) = N := ⟨_, rfl⟩
  rw [hN] at hl hq hc2
  have hN0 : 0 ≤ N := by omega
  have HN := Lib.hid (And.intro hN hhalf)
  have HL := Lib.hid hlen
  clear hh0 hN hhalf hlen
  go_enter Tryz.func23, Tryz.ntmps23
  go_wp2_with fail
  refine hl.mono ?_
  rintro e w1 ⟨rfl, rfl⟩
  go_wp2_with fail
  rw [hq]
  have f1 : Fr [] w (w.alloc (.cells #[Pp pl, .int .i64 half, .int .i64 0, .string ⟨#[]⟩, .slice none 0 0, .bool false] 66)) := (Fr.refl [] w).alloc _
  have g1 := heap_alloc_new w (.cells #[Pp pl, .int .i64 half, .int .i64 0, .string ⟨#[]⟩, .slice none 0 0, .bool false] 66)
  have s1 : w.heap.size < (w.alloc (.cells #[Pp pl, .int .i64 half, .int .i64 0, .string ⟨#[]⟩, .slice none 0 0, .bool false] 66)).heap.size := by simp
  generalize w.alloc (.cells #[Pp pl, .int .i64 half, .int .i64 0, .string ⟨#[]⟩, .slice none 0 0, .bool false] 66) = w1 at f1 g1 s1 ⊢
  have D1 := D.fr0 f1
  have P1 := P.fr0 f1
  have hrd0 := pRead_calls D1 P1 0
  rw [show p.read d 0 = _ from hr0] at hrd0
  refine hrd0.mono ?_
  rintro e w2 ⟨rfl, f2⟩
  have g2 := f2.heap g1 (by simp)
  have f12 := f1.trans f2
  have c0 : w2.cell? ⟨w.heap.size, 2, none⟩ = some (.int .i64 0) := blk_cell g2 2 rfl
  have e0 := blk_free g2 2
  have g3 := heap_setCell_same' w2 _ 2 _ _ (.int .i64 bank) g2
  have hb0 : (({ data := hd.toArray } : ByteArray)[0]'(by show 0 < hd.toArray.size; simp; omega)).toNat = bank := by
    rw [str_at hd 0 (by omega)]
    rw [List.getElem?_eq_getElem (by omega)] at y4
    simpa using y4
  go_wp2_with fail
  have e1 : (hd.length : Int) = 116 := by omega
  obtain ⟨u1, hu1⟩ : ∃ u1, (hd.take 5).drop 1 = u1 := ⟨_, rfl⟩
  obtain ⟨u2, hu2⟩ : ∃ u2, (hd.take 9).drop 5 = u2 := ⟨_, rfl⟩
  have q1 : u1.length ≤ 6 := by rw [← hu1, List.length_drop, List.length_take]; omega
  have q2 : u2.length ≤ 6 := by rw [← hu2, List.length_drop, List.length_take]; omega
  rw [hu1] at y1
  rw [hu2] at y2
  have HU1 := Lib.hid hu1
  have HU2 := Lib.hid hu2
  have Y3 := Lib.hid y3
  clear hu1 hu2 y3
  have g3h := g3
  have s2 : w.heap.size < w2.heap.size := by have := f2.size; omega
  have f3 : Fr [w.heap.size] w2 (w2.setCell ⟨w.heap.size, 2, none⟩ (.int .i64 bank)) := (Fr.refl _ _).setCell (.inl (by simp)) _
  generalize w2.setCell ⟨w.heap.size, 2, none⟩ (.int .i64 bank) = w3 at g3 g3h f3 ⊢
  have hQ1 : ∀ m, Calls Tryz.prog 40 #[str u1] (w3.drewN m) fun e w' => e = .returned (.int .i64 (J.stream l).length) ∧ w' = w3.drewN m := fun m => (jNum_calls _ q1 _).mono fun e w' h => ⟨by rw [← y1]; exact h.1, h.2.symm⟩
  have hQ2 : ∀ m, Calls Tryz.prog 40 #[str u2] (w3.drewN m) fun e w' => e = .returned (.int .i64 l.length) ∧ w' = w3.drewN m := fun m => (jNum_calls _ q2 _).mono fun e w' h => ⟨by rw [← y2]; exact h.1, h.2.symm⟩
  refine wp_region_keep (fun _ => True) 100 (by kernel_rfl) ?_
  have hS : True := trivial
  refine keepTake (i := 0) (v := ?_) (a' := ?_) rfl (by kernel_rfl) (by kernel_rfl) (by kernel_rfl) (by kernel_rfl) (by kernel_rfl) (by kernel_rfl) (fun w hSw => ?_) hS ?_ ?_
  rotate_left 2
  · (try dsimp only at hSw); (try (have hSa := hSw.1; have hSb := hSw.2)); (try (have hSc := hSb.1; have hSd := hSb.2)); go_simp; with_reducible rfl
  · go_simp; with_reducible rfl
  refine keepTake (i := 1) (v := str u1) (a' := ?_) rfl (by kernel_rfl) (by kernel_rfl) (by kernel_rfl) (by kernel_rfl) (by kernel_rfl) (by kernel_rfl) (fun w' hSw => ?_) hS ?_ ?_
  rotate_left 1
  · refine (run_strMid _ _ _ _ rfl Tryz.underlying9 hd rfl 1 5 rfl rfl (by omega) (by omega)).trans ?_
    rw [HU1.out]
  · go_simp
    with_reducible rfl
  try simp only [Act.put, List.setIfInBounds_toArray, List.set_cons_zero, List.set_cons_succ]
  refine keepTake (i := 3) (v := ?_) (a' := ?_) rfl (by kernel_rfl) (by kernel_rfl) (by kernel_rfl) (by kernel_rfl) (by kernel_rfl) (by kernel_rfl) (fun w hSw => ?_) hS ?_ ?_
  rotate_left 2
  · (try dsimp only at hSw); (try (have hSa := hSw.1; have hSb := hSw.2)); (try (have hSc := hSb.1; have hSd := hSb.2)); go_simp; with_reducible rfl
  · go_simp; with_reducible rfl
  refine keepTake (i := 4) (v := str u2) (a' := ?_) rfl (by kernel_rfl) (by kernel_rfl) (by kernel_rfl) (by kernel_rfl) (by kernel_rfl) (by kernel_rfl) (fun w' hSw => ?_) hS ?_ ?_
  rotate_left 1
  · refine (run_strMid _ _ _ _ rfl Tryz.underlying9 hd rfl 5 9 rfl rfl (by omega) (by omega)).trans ?_
    rw [HU2.out]
  · go_simp
    with_reducible rfl
  try simp only [Act.put, List.setIfInBounds_toArray, List.set_cons_zero, List.set_cons_succ]
  refine keepReady (rs := [2]) (by kernel_rfl) (by simp) ?_
  refine AllK.cons rfl (fun K hK => ?_) AllK.nil
  go_simp
  refine (hQ1 1).mono ?_
  rintro e w' ⟨rfl, rfl⟩
  try dsimp only
  refine hK _ _ (fun _ => hS) ?_
  clear hK K
  try simp only [Act.put, List.setIfInBounds_toArray, List.set_cons_zero, List.set_cons_succ]
  refine keepReady (rs := [5]) (by kernel_rfl) (by simp) ?_
  refine AllK.cons rfl (fun K hK => ?_) AllK.nil
  go_simp
  refine (hQ2 1).mono ?_
  rintro e w' ⟨rfl, rfl⟩
  try dsimp only
  refine hK _ _ (fun _ => hS) ?_
  clear hK K
  try simp only [Act.put, List.setIfInBounds_toArray, List.set_cons_zero, List.set_cons_succ]
  refine keepReady (rs := [6]) (by kernel_rfl) (by simp) ?_
  refine AllK.cons rfl (fun K hK => ?_) AllK.nil
  go_simp
  try dsimp only
  refine hK _ _ (fun _ => hS) ?_
  clear hK K
  try simp only [Act.put, List.setIfInBounds_toArray, List.set_cons_zero, List.set_cons_succ]
  refine keepReady (rs := [7]) (by kernel_rfl) (by simp) ?_
  refine AllK.cons rfl (fun K hK => ?_) AllK.nil
  go_simp
  try dsimp only
  refine hK _ _ (fun _ => hS) ?_
  clear hK K
  try simp only [Act.put, List.setIfInBounds_toArray, List.set_cons_zero, List.set_cons_succ]
  refine keepDone (by kernel_rfl) ?_ _
  have J3 : JrnAt w3 ⟨w.heap.size, none⟩ pl ⟨half, bank, [], [], false⟩ := ⟨⟨by simp, by simp only; omega, hbk, by simp⟩, ⟨.slice none 0 0, g3, World.ownsRow_nil _ _ _ _, rfl⟩, by simp⟩
  have hbk' : (bank : Int) ≤ 1 := by omega
  have hfit' : ((J.stream l).length : Int) ≤ ((half * 116 : Nat) : Int) := by omega
  have c3 : w3.cell? ⟨w.heap.size, 2, none⟩ = some (.int .i64 bank) := blk_cell g3 2 rfl
  have hszr := jSize_calls (J3.fr0 (Fr.refl [] w3).drew)
  simp only at hszr
  generalize hhm : half * 116 = hm at hszr hfit'
  have hfitN : decide (hm < (J.stream l).length) = false := by simp; omega
  have hbkN : decide (1 < bank) = false := by simp; omega
  have hbkI : decide ((1 : Int) < (bank : Int)) = false := by simp; omega
  have HHM := Lib.hid hhm
  clear hhm y1 y2
  go_wp2_with (first | (with_reducible refine wpL_stop (o := ⟨_, .slice 9 _ _ _ _, _, _, _, _⟩) ?_) | (go_at_call 25; refine hszr.mono ?_; rintro e w4 ⟨rfl, rfl⟩))
  refine unhold (wpL_valg rfl (run_strFrom _ _ _ rfl Tryz.underlying9 hd rfl 9 rfl (by omega)) ?_)
  rw [Y3.out]
  go_wp2_with fail
  refine (sTrim_calls 107 (by omega) (by omega)).mono ?_
  rintro e w4 ⟨rfl, f4⟩
  go_wp2_with (first | (with_reducible refine wpL_stop (o := ⟨_, .binOp .neq 9 _ _ _, _, _, _, _⟩) ?_) | (with_reducible refine wpL_stop (o := ⟨_, .binOp .eql 9 _ _ _, _, _, _, _⟩) ?_))
  refine unhold (wpL_valg rfl (run_strNe _ _ _ _ rfl [] [] rfl rfl false (by simp)) ?_)
  go_wp2_with fail
  have g4 : w4.heap[w.heap.size]? = some (.cells #[Pp pl, .int .i64 half, .int .i64 bank, str (J.cat c half bank 0), .slice none 0 0, .bool false] 66 (0, 0)) := f4.heap (show w3.drew.heap[w.heap.size]? = _ from g3) (by simp)
  have F4 : Fr [] w w4 := ((f12.then f3 (fun k hk => .inr (by simp at hk; omega))).trans (Fr.refl [] w3).drew).trans f4
  have hpgs : J.pages (J.stream l).length ≤ half := by unfold J.pages; omega
  have hcl : ∀ k, (J.cat c half bank k).length ≤ k * 116 := by
    intro k
    induction k with
    | zero => simp [J.cat]
    | succ k ih =>
      rw [J.cat_succ, List.length_append]
      have : (c.getD (1 + bank * half + k) []).length ≤ 116 := by
        rw [List.getD_eq_getElem?_getD]
        cases hq : c[1 + bank * half + k]? with
        | none => simp
        | some x => have := H.size x (List.mem_of_getElem? hq); simp; omega
      omega
  obtain ⟨n, hn⟩ : ∃ n, J.pages (J.stream l).length = n := ⟨_, rfl⟩
  have hcond : ∀ k : Nat, k * 116 < (J.stream l).length ↔ k < n := by intro k; rw [← hn]; unfold J.pages; omega
  rw [hn] at hpgs
  have HNN := Lib.hid hn
  clear hn
  obtain ⟨used, hus⟩ : ∃ used, (J.stream l).length = used := ⟨_, rfl⟩
  rw [hus] at hcond hfitN hfit' hcnt ⊢
  have HUS := Lib.hid hus
  have hus5 : used ≤ 1000 * 116 := by omega
  clear hus hfit
  go_loopg [9] n (fun kq v w' => ∃ k : Nat, v = .int .i64 k ∧ k ≤ n ∧ Hid (kq + k = n) ∧ Hid (w'.heap[w.heap.size]? = some (.cells #[Pp pl, .int .i64 half, .int .i64 bank, str (J.cat c half bank k), .slice none 0 0, .bool false] 66 (0, 0))) ∧ Fr [] w w')
  case atStart => exact ⟨0, rfl, by omega, by simp [Hid], g4, F4⟩
  case round =>
    obtain ⟨k, rfl, hk, hkq, hg, FW⟩ := hrel
    have Dr := D.fr0 FW
    have Pr := P.fr0 FW
    have hsr := FW.size
    have k1 : wr.cell? ⟨w.heap.size, 1, none⟩ = some (.int .i64 half) := blk_cell hg.out 1 rfl
    have k2 : wr.cell? ⟨w.heap.size, 2, none⟩ = some (.int .i64 bank) := blk_cell hg.out 2 rfl
    have k3 : wr.cell? ⟨w.heap.size, 3, none⟩ = some (str (J.cat c half bank k)) := blk_cell hg.out 3 rfl
    have k3f := blk_free hg.out 3
    by_cases hlt : k < n
    · have hlt2 := (hcond k).2 hlt
      have hlt' : (k : Int) * 116 < (used : Int) := by omega
      have hpc := jPage_cell half (by omega) k1 bank k hbk (by omega)
      have hbh : bank * half ≤ half := by rcases Nat.le_one_iff_eq_zero_or_eq_one.1 hbk with rfl | rfl <;> omega
      have hil : 1 + bank * half + k < c.length := by have := H.len; omega
      have hrd := pRead_calls Dr Pr ((1 + bank * half + k : Nat) : Int)
      rw [show p.read d ((1 + bank * half + k : Nat) : Int) = _ from hread _ hil] at hrd
      have h116 := H.size c[1 + bank * half + k] (List.getElem_mem hil)
      have hcs : J.cat c half bank k ++ c[1 + bank * half + k] = J.cat c half bank (k + 1) := by rw [J.cat_succ, List.getD_eq_getElem?_getD, List.getElem?_eq_getElem hil]; rfl
      have hck := hcl k
      generalize c[1 + bank * half + k] = x at hrd h116 hcs
      generalize 1 + bank * half + k = pg at hpc hrd
      generalize J.cat c half bank k = ck at k3 hg hcs hck
      have HCS := Lib.hid hcs
      have H116 := Lib.hid h116
      clear hcs h116 hil hcl hcond hread
      go_wp2_with (first | (first | (with_reducible refine wpL_stop (o := ⟨_, .alloc 59, _, _, _, none⟩) ?_) | (with_reducible refine wpL_stop (o := ⟨_, .load 59 _, _, _, _, none⟩) ?_) | (with_reducible refine wpL_stop (o := ⟨_, .store 59 _ _, _, _, _, none⟩) ?_) | (with_reducible refine wpL_stop (o := ⟨_, .lookup _ _ _ _, _, _, _, none⟩) ?_) | (with_reducible refine wpL_stop (o := ⟨_, .box 59 _, _, _, _, none⟩) ?_) | (with_reducible refine wpL_stop (o := ⟨_, .next _ _, _, _, _, none⟩) ?_) | (with_reducible refine wpL_stop (o := ⟨_, .range _ _, _, _, _, none⟩) ?_) | (with_reducible refine wpL_stop (o := ⟨_, .mapUpdate _ _ _ _, _, _, _, none⟩) ?_) | (with_reducible refine wpL_stop (o := ⟨_, .convert 23 9 _, _, _, _, none⟩) ?_) | (with_reducible refine wpL_stop (o := ⟨_, .convert 9 23 _, _, _, _, none⟩) ?_) | (with_reducible refine wpL_stop (o := ⟨_, .call { callee := .builtin .copy, args := _, argTypes := _ }, _, _, _, none⟩) ?_) | (with_reducible refine wpL_stop (o := ⟨_, .call { callee := .builtin .append, args := _, argTypes := _ }, _, _, _, none⟩) ?_) | (with_reducible refine wpL_stop (o := ⟨_, .call { callee := .builtin .clear, args := _, argTypes := _ }, _, _, _, none⟩) ?_) | (with_reducible refine wpL_stop (o := ⟨_, .makeSlice _ _ _, _, _, _, none⟩) ?_) | (with_reducible refine wpL_stop (o := ⟨_, .makeMap _ _, _, _, _, none⟩) ?_) | (with_reducible refine wpL_stop (o := ⟨_, .entry _, _, _, _, none⟩) ?_) | (with_reducible refine wpL_stop (o := ⟨_, .call { callee := .builtin .max, args := _, argTypes := _ }, _, _, _, none⟩) ?_) | (with_reducible refine wpL_stop (o := ⟨_, .call { callee := .builtin .min, args := _, argTypes := _ }, _, _, _, none⟩) ?_) | (with_reducible refine wpL_stop (o := ⟨_, .slice 59 _ none (some _) none, _, _, _, none⟩) ?_) | (with_reducible refine wpL_stop (o := ⟨_, .binOp .add 9 _ _ _, _, _, _, none⟩) ?_) | (with_reducible refine wpL_stop (o := ⟨_, .slice 9 _ _ _ _, _, _, _, none⟩) ?_)) | (go_at_call 42; refine hpc.mono ?_; rintro e w5 ⟨rfl, rfl⟩) | (go_at_call 39; refine hrd.mono ?_; rintro e w6 ⟨rfl, f6⟩; have k3b := cell_fr f6 k3 (by simp); have k3fb := blk_free (f6.heap hg.out (by simp)) 3))
      refine unhold (wpL_cat rfl _ _ _ _ rfl ck x rfl rfl (by have := H116.out; omega) ?_)
      rw [HCS.out]
      have g6 := f6.heap hg.out (by simp)
      have g7 := heap_setCell_same' w6 _ 3 _ _ (str (J.cat c half bank (k + 1))) g6
      have F7 : Fr [] w (w6.setCell ⟨w.heap.size, 3, none⟩ (.string ⟨(J.cat c half bank (k + 1)).toArray⟩)) := (FW.trans f6).setCell (.inr (Nat.le_refl _)) _
      go_wp2_with fail
      go_roundg (gk - 1)
      case measure => have := hkq.out; omega
      case rel => exact ⟨k + 1, by go_num, by omega, by have := hkq.out; unfold Hid; omega, g7, F7⟩
    · obtain rfl : k = n := by omega
      have hltN : ¬ k * 116 < used := fun h => by have := (hcond k).1 h; omega
      have hlt' : decide ((k : Int) * 116 < (used : Int)) = false := by simp; omega
      have hlt'' : decide (k * 116 < used) = false := by simp; omega
      have hall := H.cat_all
      have hcle := H.cat_length
      rw [HNN.out, HUS.out] at hall hcle
      have hck := hcl k
      generalize J.cat c half bank k = ck at k3 hg hall hcle hck
      have HALL := Lib.hid hall
      clear hall hcl hcond hread
      go_wp2_with (first | (with_reducible refine wpL_stop (o := ⟨_, .alloc 59, _, _, _, none⟩) ?_) | (with_reducible refine wpL_stop (o := ⟨_, .load 59 _, _, _, _, none⟩) ?_) | (with_reducible refine wpL_stop (o := ⟨_, .store 59 _ _, _, _, _, none⟩) ?_) | (with_reducible refine wpL_stop (o := ⟨_, .lookup _ _ _ _, _, _, _, none⟩) ?_) | (with_reducible refine wpL_stop (o := ⟨_, .box 59 _, _, _, _, none⟩) ?_) | (with_reducible refine wpL_stop (o := ⟨_, .next _ _, _, _, _, none⟩) ?_) | (with_reducible refine wpL_stop (o := ⟨_, .range _ _, _, _, _, none⟩) ?_) | (with_reducible refine wpL_stop (o := ⟨_, .mapUpdate _ _ _ _, _, _, _, none⟩) ?_) | (with_reducible refine wpL_stop (o := ⟨_, .convert 23 9 _, _, _, _, none⟩) ?_) | (with_reducible refine wpL_stop (o := ⟨_, .convert 9 23 _, _, _, _, none⟩) ?_) | (with_reducible refine wpL_stop (o := ⟨_, .call { callee := .builtin .copy, args := _, argTypes := _ }, _, _, _, none⟩) ?_) | (with_reducible refine wpL_stop (o := ⟨_, .call { callee := .builtin .append, args := _, argTypes := _ }, _, _, _, none⟩) ?_) | (with_reducible refine wpL_stop (o := ⟨_, .call { callee := .builtin .clear, args := _, argTypes := _ }, _, _, _, none⟩) ?_) | (with_reducible refine wpL_stop (o := ⟨_, .makeSlice _ _ _, _, _, _, none⟩) ?_) | (with_reducible refine wpL_stop (o := ⟨_, .makeMap _ _, _, _, _, none⟩) ?_) | (with_reducible refine wpL_stop (o := ⟨_, .entry _, _, _, _, none⟩) ?_) | (with_reducible refine wpL_stop (o := ⟨_, .call { callee := .builtin .max, args := _, argTypes := _ }, _, _, _, none⟩) ?_) | (with_reducible refine wpL_stop (o := ⟨_, .call { callee := .builtin .min, args := _, argTypes := _ }, _, _, _, none⟩) ?_) | (with_reducible refine wpL_stop (o := ⟨_, .slice 59 _ none (some _) none, _, _, _, none⟩) ?_) | (with_reducible refine wpL_stop (o := ⟨_, .binOp .add 9 _ _ _, _, _, _, none⟩) ?_) | (with_reducible refine wpL_stop (o := ⟨_, .slice 9 _ _ _ _, _, _, _, none⟩) ?_))
      refine unhold (wpL_val rfl (run_strTo _ _ _ rfl Tryz.underlying9 ck rfl used rfl hcle) ?_)
      rw [HALL.out]
      have g7 := heap_setCell_same' wr _ 3 _ _ (str (J.stream l)) hg.out
      have F7 : Fr [] w (wr.setCell ⟨w.heap.size, 3, none⟩ (.string ⟨(J.stream l).toArray⟩)) := FW.setCell (.inr (Nat.le_refl _)) _
      have c7 : (wr.setCell ⟨w.heap.size, 3, none⟩ (.string ⟨(J.stream l).toArray⟩)).cell? ⟨w.heap.size, 3, none⟩ = some (str (J.stream l)) := blk_cell g7 3 rfl
      go_wp2_with (first | (first | (with_reducible refine wpL_stop (o := ⟨_, .binOp .neq 9 _ _ _, _, _, _, _⟩) ?_) | (with_reducible refine wpL_stop (o := ⟨_, .binOp .eql 9 _ _ _, _, _, _, _⟩) ?_)))
      have hsr8 : w.heap.size < wr.heap.size := lt_of_heap hg.out
      have fA := (Fr.refl [] (wr.setCell ⟨w.heap.size, 3, none⟩ (.string ⟨(J.stream l).toArray⟩))).alloc (.cells #[str (J.stream l)] 89)
      have gA := heap_alloc_new (wr.setCell ⟨w.heap.size, 3, none⟩ (.string ⟨(J.stream l).toArray⟩)) (.cells #[str (J.stream l)] 89)
      have szA : (wr.setCell ⟨w.heap.size, 3, none⟩ (.string ⟨(J.stream l).toArray⟩)).heap.size = wr.heap.size := by simp [World.setCell]
      have szB : ((wr.setCell ⟨w.heap.size, 3, none⟩ (.string ⟨(J.stream l).toArray⟩)).alloc (.cells #[str (J.stream l)] 89)).heap.size = wr.heap.size + 1 := by rw [World.size_alloc, szA]
      rw [szA] at gA
      have gJ := fA.heap g7 (by simp)
      have F8 := F7.trans fA
      generalize (wr.setCell ⟨w.heap.size, 3, none⟩ (.string ⟨(J.stream l).toArray⟩)).alloc (.cells #[str (J.stream l)] 89) = w8 at gA gJ F8 szB fA ⊢
      obtain ⟨cb, hcb⟩ : ∃ cb, wr.heap.size = cb := ⟨_, rfl⟩
      rw [hcb] at gA szB hsr8 ⊢
      have HST : Hid (∀ n, (h : n < l.length) → J.stream (l.drop n) = J.piece l[n] ++ J.stream (l.drop (n + 1))) := fun n h => by rw [List.drop_eq_getElem_cons h, J.stream_cons]
      have hrec8 := H.recs
      clear szA c7 hcb g7 F7 fA
      go_loopg [14, 15] l.length (fun kq u v w' => ∃ n : Nat, n ≤ l.length ∧ Hid (kq + n = l.length) ∧ Hid (w'.heap[cb]? = some (.cells #[str (J.stream (l.drop n))] 89 (0, 0))) ∧ (∃ rv, Hid (w'.heap[w.heap.size]? = some (.cells #[Pp pl, .int .i64 half, .int .i64 bank, str (J.stream l), rv, .bool false] 66 (0, 0))) ∧ w'.ownsRow (cb + 1) 9 1 rv n (strs (l.take n))) ∧ Fr [] w w' ∧ cb + 1 ≤ w'.heap.size)
      case atStart => exact ⟨0, by omega, by simp [Hid], by simpa [Hid] using gA, ⟨_, gJ, World.ownsRow_nil _ _ _ _⟩, F8, by omega⟩
      case round =>
        obtain ⟨n, hn, hkq2, hgc, ⟨rv, hgj, hrow⟩, FN, hsz⟩ := hrel
        have n0 : wr.cell? ⟨cb, 0, none⟩ = some (str (J.stream (l.drop n))) := blk_cell hgc.out 0 rfl
        by_cases hln : n < l.length
        · have hst := HST.out n hln
          have hr8 := hrec8 l[n] (List.getElem_mem hln)
          have hts : Hid (l.take (n + 1) = l.take n ++ [l[n]]) := take_snoc (List.getElem?_eq_getElem hln)
          have hne : J.stream (l.drop n) ≠ [] := by rw [hst]; intro e; have := congrArg List.length e; simp [J.piece, le_length] at this
          have hsl : (J.stream (l.drop (n + 1))).length ≤ 1000000 := by
            have h1 := stream_le l n
            have h2 : J.stream l = J.stream (l.take n) ++ J.stream (l.drop n) := by
              have e : J.stream l = J.stream (l.take n ++ l.drop n) := by rw [List.take_append_drop]
              rw [e]; unfold J.stream; rw [List.flatMap_append]
            have h3 := congrArg List.length h2
            rw [List.length_append, hst, List.length_append, HUS.out] at h3
            omega
          have hgc' := hgc.out
          rw [hst] at hgc'
          have hnx := jNext_calls (w := wr) cb l[n] (J.stream (l.drop (n + 1))) hr8 hsl hgc'
          generalize J.stream (l.drop n) = rest at n0 hne
          generalize l[n] = x at hnx hts
          clear hst hgc' hgc hr8 HST hrec8
          go_wp2_with (first | (with_reducible refine wpL_stop (o := ⟨_, .binOp .neq 9 _ _ _, _, _, _, _⟩) ?_) | (with_reducible refine wpL_stop (o := ⟨_, .binOp .eql 9 _ _ _, _, _, _, _⟩) ?_))
          refine unhold (wpL_val rfl (run_strNe _ _ _ _ rfl rest [] rfl rfl true (by simpa using hne)) ?_)
          go_wp2_with fail
          refine hnx.mono ?_
          rintro e w1 ⟨rfl, gc1, f1⟩
          have hj1 := f1.heap hgj.out (by simp; omega)
          have hrow1 := ownsRow_fr' hrow f1 (fun q hq => by have := (hrow.lt q hq).1; simp; omega)
          obtain ⟨vp, vc, rfl⟩ := ownsRow_len hrow
          have j4 : w1.cell? ⟨w.heap.size, 4, none⟩ = some (.slice vp n vc) := blk_cell hj1 4 rfl
          have FN1 := FN.then f1 (fun q hq => .inr (by simp at hq; omega))
          have hsz1 := f1.size
          go_wp2_with (first | (with_reducible refine wpL_stop (o := ⟨_, .alloc 59, _, _, _, none⟩) ?_) | (with_reducible refine wpL_stop (o := ⟨_, .load 59 _, _, _, _, none⟩) ?_) | (with_reducible refine wpL_stop (o := ⟨_, .store 59 _ _, _, _, _, none⟩) ?_) | (with_reducible refine wpL_stop (o := ⟨_, .lookup _ _ _ _, _, _, _, none⟩) ?_) | (with_reducible refine wpL_stop (o := ⟨_, .box 59 _, _, _, _, none⟩) ?_) | (with_reducible refine wpL_stop (o := ⟨_, .next _ _, _, _, _, none⟩) ?_) | (with_reducible refine wpL_stop (o := ⟨_, .range _ _, _, _, _, none⟩) ?_) | (with_reducible refine wpL_stop (o := ⟨_, .mapUpdate _ _ _ _, _, _, _, none⟩) ?_) | (with_reducible refine wpL_stop (o := ⟨_, .convert 23 9 _, _, _, _, none⟩) ?_) | (with_reducible refine wpL_stop (o := ⟨_, .convert 9 23 _, _, _, _, none⟩) ?_) | (with_reducible refine wpL_stop (o := ⟨_, .call { callee := .builtin .copy, args := _, argTypes := _ }, _, _, _, none⟩) ?_) | (with_reducible refine wpL_stop (o := ⟨_, .call { callee := .builtin .append, args := _, argTypes := _ }, _, _, _, none⟩) ?_) | (with_reducible refine wpL_stop (o := ⟨_, .call { callee := .builtin .clear, args := _, argTypes := _ }, _, _, _, none⟩) ?_) | (with_reducible refine wpL_stop (o := ⟨_, .makeSlice _ _ _, _, _, _, none⟩) ?_) | (with_reducible refine wpL_stop (o := ⟨_, .makeMap _ _, _, _, _, none⟩) ?_) | (with_reducible refine wpL_stop (o := ⟨_, .entry _, _, _, _, none⟩) ?_) | (with_reducible refine wpL_stop (o := ⟨_, .call { callee := .builtin .max, args := _, argTypes := _ }, _, _, _, none⟩) ?_) | (with_reducible refine wpL_stop (o := ⟨_, .call { callee := .builtin .min, args := _, argTypes := _ }, _, _, _, none⟩) ?_) | (with_reducible refine wpL_stop (o := ⟨_, .slice 59 _ none (some _) none, _, _, _, none⟩) ?_) | (with_reducible refine wpL_stop (o := ⟨_, .binOp .add 9 _ _ _, _, _, _, none⟩) ?_) | (with_reducible refine wpL_stop (o := ⟨_, .slice 9 _ _ _ _, _, _, _, none⟩) ?_))
          have fA := (Fr.refl [] w1).alloc (.cells #[str x] 9)
          have gX := heap_alloc_new w1 (.cells #[str x] 9)
          have hjA := fA.heap hj1 (by simp)
          have gcA := fA.heap gc1 (by simp)
          have hrowA := ownsRow_fr' hrow1 fA (by simp)
          have FNA := FN1.trans fA
          have hszA := fA.size
          generalize w1.alloc (.cells #[str x] 9) = wa at fA gX hjA gcA hrowA FNA hszA ⊢
          refine unhold (wpL_append' rfl _ _ 30 rfl (cb + 1) 9 _ 1 16 Tryz.underlying30 strInfo rfl (by decide) (by decide) (.slice vp n vc) n (strs (l.take n)) rfl hrowA w1.heap.size 1 1 [str x] rfl rfl _ _ _ gX (by intro j u hj; simpa using hj) (by simp [Value.oneCell']) (by omega) (by omega) ?_)
          intro v' w2 hown2 hF2 hgr2 hsz2
          have hbk2 : ∀ q, (Value.slice vp n vc).ownBlock = some q → cb + 1 ≤ q := fun q hq => (hrowA.lt q hq).1
          have hj2 : w2.heap[w.heap.size]? = _ := (hgr2.block w.heap.size (lt_of_heap hjA) (fun e => by have := hbk2 _ e.symm; omega)).trans hjA
          have gc2 : w2.heap[cb]? = _ := (hgr2.block cb (lt_of_heap gcA) (fun e => by have := hbk2 _ e.symm; omega)).trans gcA
          have FN2 := FNA.grown hgr2 (fun q hq => .inr (by have := hbk2 q hq; omega))
          have r4 : w2.cell? ⟨w.heap.size, 4, none⟩ = some (.slice vp n vc) := blk_cell hj2 4 rfl
          have r4f := blk_free hj2 4
          have hj3 := heap_setCell_same' w2 _ 4 _ _ v' hj2
          have fS : Fr [w.heap.size] w2 (w2.setCell ⟨w.heap.size, 4, none⟩ v') := (Fr.refl _ _).setCell (.inl (by simp)) _
          have gc3 := fS.heap gc2 (by simp; omega)
          have hrow3 := ownsRow_fr' hown2 fS (fun q hq => by have := (hown2.lt q hq).1; simp; omega)
          have FN3 := FN2.then fS (fun q hq => .inr (by simp at hq; omega))
          have hsz3 := fS.size
          obtain ⟨vp2, vc2, rfl⟩ := ownsRow_len hown2
          go_wp2_with fail
          go_roundg (gk - 1)
          case measure => have := hkq2.out; omega
          case rel =>
            refine ⟨n + 1, by omega, by have := hkq2.out; unfold Hid; omega, gc3, ⟨_, hj3, ?_⟩, FN3, by omega⟩
            rw [hts.out]
            simpa [strs] using hrow3
        · obtain rfl : n = l.length := by omega
          have hgc' := hgc.out
          rw [List.drop_length] at n0 hgc'
          rw [List.take_length] at hrow
          obtain ⟨vp, vc, rfl⟩ := ownsRow_len hrow
          have j4 : wr.cell? ⟨w.heap.size, 4, none⟩ = some (.slice vp l.length vc) := blk_cell hgj.out 4 rfl
          have hfin : JrnAt wr ⟨w.heap.size, (Value.slice vp l.length vc).ownBlock⟩ pl ⟨half, bank, J.stream l, l, false⟩ := ⟨⟨by simp only; omega, by simp only; omega, hbk, by simp only; have := HUS.out; omega⟩, ⟨_, hgj.out, ownsRow_low hrow (Nat.zero_le _), rfl⟩, fun e => by have := (hrow.lt _ e).1; simp only at this; omega⟩
          have hnew : ∀ q ∈ (⟨w.heap.size, (Value.slice vp l.length vc).ownBlock⟩ : JL).all, w.heap.size ≤ q := by
            intro q hq
            simp only [JL.all, List.mem_cons, Option.mem_toList] at hq
            rcases hq with rfl | hq
            · exact Nat.le_refl _
            · have := (hrow.lt q hq).1; omega
          have n0' : wr.cell? ⟨cb, 0, none⟩ = some (str []) := n0
          clear hgc hgc' HST hrec8 n0
          go_wp2_with (first | (with_reducible refine wpL_stop (o := ⟨_, .binOp .neq 9 _ _ _, _, _, _, _⟩) ?_) | (with_reducible refine wpL_stop (o := ⟨_, .binOp .eql 9 _ _ _, _, _, _, _⟩) ?_))
          refine unhold (wpL_val rfl (run_strNe _ _ _ _ rfl [] [] rfl rfl false (by simp)) ?_)
          go_wp2_with fail
          go_ret2
          exact ⟨⟨w.heap.size, _⟩, rfl, hfin, FN, hnew⟩
end
end Go.Proofs.YtcnhlemenpgkbaaGreatDoor
