/- Scripts in memory; the pages of a disk behind a round; the law on pages, walked. -/
import Derived.Test.YtpoagpaglocpeaaLawS
namespace Go.Proofs.Ytpoagpaglocpeaa
set_option linter.unusedSimpArgs false
set_option linter.unusedVariables false
set_option linter.unnecessarySimpa false
open Go.RowKit M

/-- A step of a script. -/
structure OpM where
  kind : Int
  pages : List Int
  byte : UInt8
  n : Int
  picks : List Int

/-- A script that lies in memory. -/
def OpsAt (N : Nat → Prop) (w : World) (v : Value) (ops : List OpM) : Prop :=
  ∃ A c, v = .slice A ops.length c ∧ ∀ (i : Nat) o, ops[i]? = some o → ∃ b off pv kv, A = some ⟨b, off, none⟩ ∧ N b ∧ b < w.heap.size ∧
    (w.cell? ⟨b, off + i * 5, none⟩ = some (.int .i64 o.kind) ∧ w.cell? ⟨b, off + i * 5 + 1, none⟩ = some pv ∧ w.cell? ⟨b, off + i * 5 + 2, none⟩ = some (.int .u8 o.byte.toNat) ∧
      w.cell? ⟨b, off + i * 5 + 3, none⟩ = some (.int .i64 o.n) ∧ w.cell? ⟨b, off + i * 5 + 4, none⟩ = some kv) ∧ IntsAt N w pv o.pages ∧ IntsAt N w kv o.picks
def OpOk (o : OpM) : Prop := o.n ≤ 9223372036854775807 ∧ ∀ x ∈ o.pages, -9223372036854775808 ≤ x ∧ x ≤ 9223372036854775807

theorem OpsAt.fr {N : Nat → Prop} {w w' : World} {v : Value} {ops : List OpM} {S : List Nat} (h : OpsAt N w v ops) (hf : Fr S w w') (hS : ∀ k ∈ S, ¬ N k) : OpsAt N w' v ops := by
  obtain ⟨A, c, rfl, hc⟩ := h
  refine ⟨A, c, rfl, fun i o ho => ?_⟩
  obtain ⟨b, off, pv, kv, e, hN, hb, ⟨c0, c1, c2, c3, c4⟩, hp, hk⟩ := hc i o ho
  have hn : b ∉ S := fun hk => hS b hk hN
  exact ⟨b, off, pv, kv, e, hN, by have := hf.size; omega, ⟨cell_fr hf c0 hn, cell_fr hf c1 hn, cell_fr hf c2 hn, cell_fr hf c3 hn, cell_fr hf c4 hn⟩, hp.fr hf hS, hk.fr hf hS⟩

/-- The disk at rest between the rounds, and its pages. -/
structure Rest (w : World) (L : DL) (pl : PL) (im : List Bytes) (t : Nat) (A : World) : Prop where
  st : ∃ p : M.Pages, St w L pl (rest im) p A ∧ p.number = t ∧ p.closed = false
  inv : Inv t im

section
variable {w : World}
set_option maxRecDepth 100000 in
theorem lAtomic_bad (n : Int) (h : n < 18 ∨ 24 < n) (u v : Value) : Calls Try.prog 3 #[.int .i64 n, u, v] w fun e w' => e = .returned (.bool true) ∧ Fr [] w w' := by
  have hS := fun w' => lStart_bad (w := w') n h
  by_cases h1 : n < 18
  · clear h
    go_enter Try.func3, Try.ntmps3
    go_wp2_with fail
    refine (hS _).mono ?_
    rintro e w1 ⟨rfl, f1⟩
    go_wp2_with fail
    have f2 := f1.alloc (.cells #[.pointer none, .pointer none, .pointer none, .pointer none] 28)
    refine (lSanity_calls _).mono ?_
    rintro e w3 ⟨rfl, f3⟩
    have f4 := f2.trans f3
    clear f1 f2 f3
    go_wp2_with fail
    go_ret
    exact ⟨rfl, f4⟩
  · have h1' : 18 ≤ n := by omega
    have h2 : 24 < n := by omega
    clear h
    go_enter Try.func3, Try.ntmps3
    go_wp2_with fail
    refine (hS _).mono ?_
    rintro e w1 ⟨rfl, f1⟩
    go_wp2_with fail
    have f2 := f1.alloc (.cells #[.pointer none, .pointer none, .pointer none, .pointer none] 28)
    refine (lSanity_calls _).mono ?_
    rintro e w3 ⟨rfl, f3⟩
    have f4 := f2.trans f3
    clear f1 f2 f3
    go_wp2_with fail
    go_ret
    exact ⟨rfl, f4⟩

set_option maxRecDepth 100000 in
theorem lAtomic_long (n : Int) (h1 : 18 ≤ n) (h2 : n ≤ 24) (A C : Option Addr) (l1 l2 c1 c2 : Nat) (hl : 6 < l1 ∨ 6 < l2) : Calls Try.prog 3 #[.int .i64 n, .slice A l1 c1, .slice C l2 c2] w fun e w' => e = .returned (.bool true) ∧ Fr [] w w' := by
  have hS := fun w' => lStart_good (w := w') n h1 h2
  by_cases k1 : 6 < l1
  · have k1' : (6 : Int) < (l1 : Int) := by omega
    clear hl
    go_enter Try.func3, Try.ntmps3
    go_wp2_with fail
    refine (hS _).mono ?_
    rintro e w1 ⟨L, pl, LR, ql, rfl, S1⟩
    have f2 := S1.fr.alloc (.cells #[Dp L, Pp pl, Rp LR, .pointer (some ⟨ql.b, 0, none⟩)] 28)
    clear S1
    go_wp2_with fail
    refine (lSanity_calls _).mono ?_
    rintro e w3 ⟨rfl, f3⟩
    have f4 := f2.trans f3
    clear f2 f3
    go_wp2_with fail
    go_ret
    exact ⟨rfl, f4⟩
  · have k1' : (l1 : Int) ≤ 6 := by omega
    have k2' : (6 : Int) < (l2 : Int) := by omega
    clear hl
    go_enter Try.func3, Try.ntmps3
    go_wp2_with fail
    refine (hS _).mono ?_
    rintro e w1 ⟨L, pl, LR, ql, rfl, S1⟩
    have f2 := S1.fr.alloc (.cells #[Dp L, Pp pl, Rp LR, .pointer (some ⟨ql.b, 0, none⟩)] 28)
    clear S1
    go_wp2_with fail
    refine (lSanity_calls _).mono ?_
    rintro e w3 ⟨rfl, f3⟩
    have f4 := f2.trans f3
    clear f2 f3
    go_wp2_with fail
    go_ret
    exact ⟨rfl, f4⟩

theorem OpsAt.cells {N : Nat → Prop} {w : World} {A : Option Addr} {l c : Nat} {ops : List OpM} (h : OpsAt N w (.slice A l c) ops) {i : Nat} {o : OpM} (ho : ops[i]? = some o) : ∃ b off pv kv, A = some ⟨b, off, none⟩ ∧ N b ∧ b < w.heap.size ∧
    (w.cell? ⟨b, off + i * 5, none⟩ = some (.int .i64 o.kind) ∧ w.cell? ⟨b, off + i * 5 + 1, none⟩ = some pv ∧ w.cell? ⟨b, off + i * 5 + 2, none⟩ = some (.int .u8 o.byte.toNat) ∧
      w.cell? ⟨b, off + i * 5 + 3, none⟩ = some (.int .i64 o.n) ∧ w.cell? ⟨b, off + i * 5 + 4, none⟩ = some kv) ∧ IntsAt N w pv o.pages ∧ IntsAt N w kv o.picks := by
  obtain ⟨A', c', e, hc⟩ := h
  simp only [Value.slice.injEq] at e
  obtain ⟨rfl, _, _⟩ := e
  exact hc i o ho

theorem old_new {w A : World} {L : DL} {pl : PL} {d : Disk} {p : M.Pages} (h : St w L pl d p A) : ∀ k, k < w.heap.size → k ∉ L.all ∧ k ∉ pl.all :=
  fun k hk => ⟨fun hk' => by have := h.nL k hk'; omega, fun hk' => by have := (h.nP k hk').1; omega⟩

set_option maxRecDepth 100000 in
set_option maxHeartbeats 4000000 in
theorem lAtomic_main (n : Int) (h1 : 18 ≤ n) (h2 : n ≤ 24) {N : Nat → Prop} (hN : ∀ k, N k → k < w.heap.size) {u v : Value} {before cuts : List OpM} (hb : OpsAt N w u before) (hc : OpsAt N w v cuts) (lb : before.length ≤ 6) (lc : cuts.length ≤ 6) (okc : ∀ o ∈ cuts, OpOk o) :
    Calls Try.prog 3 #[.int .i64 n, u, v] w fun e w' => e = .returned (.bool true) ∧ Fr [] w w' := by
  have hS := fun w' => lStart_good (w := w') n h1 h2
  obtain ⟨ua, uc, rfl, _⟩ := id hb
  obtain ⟨va, vc, rfl, _⟩ := id hc
  have lb' : (before.length : Int) ≤ 6 := by omega
  have lc' : (cuts.length : Int) ≤ 6 := by omega
  obtain ⟨bs0, ho⟩ := open_fresh n.toNat (by omega) (by omega)
  have hI0 := Inv.fresh n.toNat (by omega) (by omega)
  have HO := Lib.hid (And.intro ho hI0)
  clear ho hI0
  go_enter Try.func3, Try.ntmps3
  go_wp2_with fail
  refine (hS _).mono ?_
  rintro e w1 ⟨L, pl, LR, ql, rfl, S1⟩
  have T1 : St w L pl (rest (List.replicate n.toNat (zeros 128))) ⟨0, bs0, false⟩ w1 := by
    have e := HO.out.1
    have hD := S1.D
    have hP := S1.Pg
    rw [e] at hD hP
    exact ⟨hD, hP, S1.fr, S1.n1, S1.n2⟩
  have f2 := (Fr.refl [] w1).alloc (.cells #[Dp L, Pp pl, Rp LR, .pointer (some ⟨ql.b, 0, none⟩)] 28)
  have G2 := heap_alloc_new w1 (.cells #[Dp L, Pp pl, Rp LR, .pointer (some ⟨ql.b, 0, none⟩)] 28)
  have T2 := T1.fr0 f2
  have hW7 : w1.heap.size ∉ L.all ∧ w1.heap.size ∉ pl.all := ⟨fun hk => by have := T1.D.lt _ hk; omega, fun hk => by have := T1.P.lt _ hk; omega⟩
  have hW7' : w.heap.size ≤ w1.heap.size := S1.fr.size
  clear T1 S1
  go_wp2_with fail
  generalize w1.alloc (.cells #[Dp L, Pp pl, Rp LR, .pointer (some ⟨ql.b, 0, none⟩)] 28) = w2 at f2 G2 T2 ⊢
  generalize w1.heap.size = W at f2 G2 hW7 hW7' ⊢
  go_loopg [9] before.length (fun kq i w' => ∃ (m t : Nat) (im : List Bytes) (p : M.Pages), i = .int .i64 m ∧ m ≤ before.length ∧ Hid (kq + m = before.length) ∧ St w L pl (rest im) p w' ∧ Hid (p.number = t ∧ p.closed = false ∧ t ≤ m ∧ im.length = n.toNat ∧ Inv t im) ∧
    w'.heap[W]? = some (.cells #[Dp L, Pp pl, Rp LR, .pointer (some ⟨ql.b, 0, none⟩)] 28 (0, 0)))
  case atStart => exact ⟨0, 0, _, _, rfl, by omega, by simp [Hid], T2, ⟨rfl, rfl, by omega, by simp, HO.out.2⟩, G2⟩
  case round =>
    rename World => wo
    obtain ⟨m, t, im, p, rfl, hm, hk, T, HP, G⟩ := hrel
    by_cases hlt : m < before.length
    · have hlt' : (m : Int) < (before.length : Int) := by omega
      have hbr := hb.fr T.fr (by simp)
      obtain ⟨o, hob⟩ : ∃ o, before[m]? = some o := ⟨before[m], List.getElem?_eq_getElem hlt⟩
      obtain ⟨ab, off, pv, kv, rfl, hab, hal, ⟨c0, c1, c2, c3, c4⟩, hpI, hkI⟩ := hbr.cells hob
      have cP : wo.cell? ⟨W, 1, none⟩ = some (Pp pl) := blk_cell G 1 rfl
      go_wp2_with fail
      refine wp_region_keep (fun w' => w'.cell? ⟨W, 1, none⟩ = some (Pp pl) ∧ w'.cell? ⟨ab, off + m * 5, none⟩ = some (.int .i64 o.kind) ∧ w'.cell? ⟨ab, off + m * 5 + 1, none⟩ = some pv ∧ w'.cell? ⟨ab, off + m * 5 + 2, none⟩ = some (.int .u8 o.byte.toNat) ∧ w'.cell? ⟨ab, off + m * 5 + 3, none⟩ = some (.int .i64 o.n) ∧ w'.cell? ⟨ab, off + m * 5 + 4, none⟩ = some kv) 7 (by kernel_rfl) ?_
      have hS : wo.drew.cell? ⟨W, 1, none⟩ = some (Pp pl) ∧ wo.drew.cell? ⟨ab, off + m * 5, none⟩ = some (.int .i64 o.kind) ∧ wo.drew.cell? ⟨ab, off + m * 5 + 1, none⟩ = some pv ∧ wo.drew.cell? ⟨ab, off + m * 5 + 2, none⟩ = some (.int .u8 o.byte.toNat) ∧ wo.drew.cell? ⟨ab, off + m * 5 + 3, none⟩ = some (.int .i64 o.n) ∧ wo.drew.cell? ⟨ab, off + m * 5 + 4, none⟩ = some kv := ⟨cP, c0, c1, c2, c3, c4⟩
      refine keepTake (i := 0) (v := ?_) (a' := ?_) rfl (by kernel_rfl) (by kernel_rfl) (by kernel_rfl) (by kernel_rfl) (by kernel_rfl) (by kernel_rfl) (fun w hSw => ?_) hS ?_ ?_
      rotate_left 2
      · (try dsimp only at hSw); (obtain ⟨hSa, hSb, hSc, hSd, hSe, hSf⟩ := hSw); go_simp; with_reducible rfl
      · go_simp; with_reducible rfl
      refine keepTake (i := 1) (v := ?_) (a' := ?_) rfl (by kernel_rfl) (by kernel_rfl) (by kernel_rfl) (by kernel_rfl) (by kernel_rfl) (by kernel_rfl) (fun w hSw => ?_) hS ?_ ?_
      rotate_left 2
      · (try dsimp only at hSw); (obtain ⟨hSa, hSb, hSc, hSd, hSe, hSf⟩ := hSw); go_simp; with_reducible rfl
      · go_simp; with_reducible rfl
      refine keepTake (i := 2) (v := ?_) (a' := ?_) rfl (by kernel_rfl) (by kernel_rfl) (by kernel_rfl) (by kernel_rfl) (by kernel_rfl) (by kernel_rfl) (fun w hSw => ?_) hS ?_ ?_
      rotate_left 2
      · (try dsimp only at hSw); (obtain ⟨hSa, hSb, hSc, hSd, hSe, hSf⟩ := hSw); go_simp; with_reducible rfl
      · go_simp; with_reducible rfl
      refine keepTake (i := 3) (v := ?_) (a' := ?_) rfl (by kernel_rfl) (by kernel_rfl) (by kernel_rfl) (by kernel_rfl) (by kernel_rfl) (by kernel_rfl) (fun w hSw => ?_) hS ?_ ?_
      rotate_left 2
      · (try dsimp only at hSw); (obtain ⟨hSa, hSb, hSc, hSd, hSe, hSf⟩ := hSw); go_simp; with_reducible rfl
      · go_simp; with_reducible rfl
      refine keepTake (i := 4) (v := ?_) (a' := ?_) rfl (by kernel_rfl) (by kernel_rfl) (by kernel_rfl) (by kernel_rfl) (by kernel_rfl) (by kernel_rfl) (fun w hSw => ?_) hS ?_ ?_
      rotate_left 2
      · (try dsimp only at hSw); (obtain ⟨hSa, hSb, hSc, hSd, hSe, hSf⟩ := hSw); go_simp; with_reducible rfl
      · go_simp; with_reducible rfl
      refine keepTake (i := 5) (v := ?_) (a' := ?_) rfl (by kernel_rfl) (by kernel_rfl) (by kernel_rfl) (by kernel_rfl) (by kernel_rfl) (by kernel_rfl) (fun w hSw => ?_) hS ?_ ?_
      rotate_left 2
      · (try dsimp only at hSw); (obtain ⟨hSa, hSb, hSc, hSd, hSe, hSf⟩ := hSw); go_simp; with_reducible rfl
      · go_simp; with_reducible rfl
      refine keepReady (rs := [6]) (by kernel_rfl) (by simp) ?_
      refine AllK.cons rfl (fun K hK => ?_) AllK.nil
      go_simp
      refine (rBatch_calls o.byte o.kind o.n (hpI.fr ((Fr.refl [] wo).drew) (by simp))).mono ?_
      rintro e w3 ⟨lv, rfl, hlv, f3⟩
      have f3' : Fr [] wo w3 := (Fr.refl [] wo).drew.trans f3
      have T3 := T.fr0 f3'
      have G3 := f3'.heap G (by simp)
      have hPl : PwAt w3 lv (batch o.pages o.byte) := ownsRow_low hlv (Nat.zero_le _)
      have hS : w3.cell? ⟨W, 1, none⟩ = some (Pp pl) ∧ w3.cell? ⟨ab, off + m * 5, none⟩ = some (.int .i64 o.kind) ∧ w3.cell? ⟨ab, off + m * 5 + 1, none⟩ = some pv ∧ w3.cell? ⟨ab, off + m * 5 + 2, none⟩ = some (.int .u8 o.byte.toNat) ∧ w3.cell? ⟨ab, off + m * 5 + 3, none⟩ = some (.int .i64 o.n) ∧ w3.cell? ⟨ab, off + m * 5 + 4, none⟩ = some kv := ⟨cell_fr f3' cP (by simp), cell_fr f3' c0 (by simp), cell_fr f3' c1 (by simp), cell_fr f3' c2 (by simp), cell_fr f3' c3 (by simp), cell_fr f3' c4 (by simp)⟩
      have hbl := batch_length o.pages o.byte
      have hbd := batch_data (pages := o.pages) (b := o.byte)
      generalize batch o.pages o.byte = l at hPl hbl hbd
      have HB := Lib.hid hbl
      clear hbl
      have hbd' : ∀ x ∈ l, x.2.length ≤ 1000 := fun x hx => by have := hbd x hx; omega
      obtain ⟨hp1, hp2, hp3, hp4, hp5⟩ := HP.out
      obtain ⟨t', R, q1, q2, q3, q4, q5, q6⟩ := give_plain hp5 (by omega) hp1 hp2 l
      have hw := T3.write hPl hbd' (by have := HB.out; omega)
      have HQ := Lib.hid (And.intro q2 (And.intro q5 q6))
      clear q2 q5 q6 hp1 hp2 T
      try dsimp only
      refine hK _ _ (fun _ => hS) ?_
      clear hK K
      try simp only [Act.put, List.setIfInBounds_toArray, List.set_cons_zero, List.set_cons_succ]
      refine keepReady (rs := [7]) (by kernel_rfl) (by simp) ?_
      refine AllK.cons rfl (fun K hK => ?_) AllK.nil
      go_simp
      refine hw.mono ?_
      rintro e w4 ⟨rfl, T4, f4⟩
      rw [HQ.out.1] at T4
      have G4 := f4.heap G3 (by simp only [List.mem_cons, not_or]; exact ⟨fun e => hW7.2 (by simp [PL.all, e]), hW7.1⟩)
      try dsimp only
      refine hK _ _ (fun h => absurd rfl h) ?_
      clear hK K
      try simp only [Act.put, List.setIfInBounds_toArray, List.set_cons_zero, List.set_cons_succ]
      refine keepDone (by kernel_rfl) ?_ _
      have HQ' := HQ.out
      generalize give (rest im) p l = g at T4 HQ'
      have HQ2 := Lib.hid HQ'
      clear HQ HQ' hw hS c0 c1 c2 c3 c4 cP hpI hkI
      go_wp2_with fail
      go_roundg (gk - 1)
      case measure => have := hk.out; omega
      case rel =>
        exact ⟨m + 1, t', R, g.2.2, by go_num, by omega, by have := hk.out; unfold Hid; omega, T4, ⟨HQ2.out.2.1, HQ2.out.2.2, by omega, by rw [q3, hp4], q4⟩, G4⟩
    · obtain rfl : m = before.length := by omega
      have hlt' : decide ((before.length : Int) < (before.length : Int)) = false := by simp
      have cP : wo.cell? ⟨W, 1, none⟩ = some (Pp pl) := blk_cell G 1 rfl
      obtain ⟨hp1, hp2, hp3, hp4, hp5⟩ := HP.out
      have hcl := conts_length im
      have hcon := lContents_calls T.D T.P (conts im) (by unfold Disk.len; rw [rest_len, hcl]; have := hp5.len; omega) (fun i s hs => by
        obtain ⟨hi, rfl⟩ := List.getElem?_eq_some_iff.1 hs
        exact read_rest hp5 hp2 i hi) (by rw [hcl]; omega)
      clear hp1 hp2
      go_wp2_with fail
      refine hcon.mono ?_
      rintro e w3 ⟨ov, rfl, hov, f3⟩
      have T3 := T.fr0 f3
      have G3 := f3.heap G (by simp)
      have hLs := T.D.lt
      have hPs := T.P.lt
      have hWs := lt_of_heap G
      have hos : ∀ k, ov.ownBlock = some k → k ∉ L.all ∧ k ∉ pl.all ∧ k ≠ W ∧ w.heap.size ≤ k := fun k hk => by
        have := (hov.lt k hk).1
        exact ⟨fun h => by have := hLs k h; omega, fun h => by have := hPs k h; omega, by omega, by have := T.fr.size; omega⟩
      have hov := ownsRow_low hov (Nat.zero_le _)
      have HI : Hid (t ≤ 6 ∧ im.length = n.toNat ∧ Inv t im ∧ p.number = t ∧ p.closed = false) := ⟨by omega, hp4, hp5, HP.out.1, HP.out.2.1⟩
      clear hcon T G hp3 hp4 hp5 hLs hPs hWs HP cP
      go_wp2_with fail
      have f2 := hW7.2
      go_loopg [10, 12] cuts.length (fun kq rv i w' => ∃ (m t : Nat) (im : List Bytes) (p : M.Pages) (pl : PL), i = .int .i64 m ∧ m ≤ cuts.length ∧ Hid (kq + m = cuts.length) ∧ St w L pl (rest im) p w' ∧ Hid (t ≤ 6 + m ∧ im.length = n.toNat ∧ Inv t im ∧ p.number = t ∧ p.closed = false) ∧
        w'.heap[W]? = some (.cells #[Dp L, Pp pl, Rp LR, .pointer (some ⟨ql.b, 0, none⟩)] 28 (0, 0)) ∧ w'.ownsRow 0 9 1 rv (conts im).length (strs (conts im)) ∧ (∀ k, rv.ownBlock = some k → k ∉ L.all ∧ k ∉ pl.all ∧ k ≠ W ∧ w.heap.size ≤ k) ∧ W ∉ pl.all)
      case atStart => exact ⟨0, t, im, p, pl, rfl, by omega, by simp [Hid], T3, ⟨by have := HI.out.1; omega, HI.out.2⟩, G3, hov, hos, hW7.2⟩
      case round =>
        clear T3 G3 hov hos HI f3 f2
        rename World => wo
        obtain ⟨m, t, im, p, pl, rfl, hm, hk, T, HI, G, hov, hos, hWp⟩ := hrel
        by_cases hlt : m < cuts.length
        · have hlt' : (m : Int) < (cuts.length : Int) := by omega
          obtain ⟨o, hob⟩ : ∃ o, cuts[m]? = some o := ⟨cuts[m], List.getElem?_eq_getElem hlt⟩
          have hok := okc o (List.mem_of_getElem? hob)
          obtain ⟨ab, off, pv, kv, rfl, hab, hal, ⟨c0, c1, c2, c3, c4⟩, hpI, hkI⟩ := (hc.fr T.fr (by simp)).cells hob
          have habN := hN ab hab
          have hLs := T.D.lt
          have hPs := T.P.lt
          have hWs := lt_of_heap G
          have hwo := T.fr.size
          have hLn : ∀ k ∈ L.all, ¬ N k := fun k hk hNk => by have := T.nL k hk; have := hN k hNk; omega
          have hPn : ∀ k ∈ pl.b :: L.all, ¬ N k := fun k hk hNk => by
            have := hN k hNk
            rcases List.mem_cons.1 hk with rfl | hk
            · have := (T.nP pl.b (by simp [PL.all])).1; omega
            · have := T.nL k hk; omega
          go_wp2_with fail
          refine (rBatch_calls o.byte o.kind o.n hpI).mono ?_
          rintro e w3 ⟨lv, rfl, hlv, f3⟩
          have T3 := T.fr0 f3
          have G3 := f3.heap G (by simp)
          have R3 := ownsRow_fr' hov f3 (by simp)
          have hls : ∀ k, lv.ownBlock = some k → k ∉ L.all ∧ k ∉ pl.all ∧ k < w3.heap.size := fun k hk => by
            have := hlv.lt k hk
            exact ⟨fun h => by have := hLs k h; omega, fun h => by have := hPs k h; omega, this.2⟩
          have hPl : PwAt w3 lv (batch o.pages o.byte) := ownsRow_low hlv (Nat.zero_le _)
          have hbl := batch_length o.pages o.byte
          have hbd := batch_data (pages := o.pages) (b := o.byte)
          have hbw : ∀ x ∈ batch o.pages o.byte, -9223372036854775808 ≤ x.1 ∧ x.1 ≤ 9223372036854775807 := fun x hx => hok.2 _ (batch_page x hx)
          generalize batch o.pages o.byte = l at hPl hbl hbd hbw
          have HB := Lib.hid hbl
          clear hbl hlv hov
          have hbd' : ∀ x ∈ l, x.2.length ≤ 1000 := fun x hx => by have := hbd x hx; omega
          have cD : w3.cell? ⟨W, 0, none⟩ = some (Dp L) := blk_cell G3 0 rfl
          have c3 := cell_fr f3 c3 (by simp)
          have hcut := cut_open HI.out.2.2.1 (by have := HI.out.1; omega) HI.out.2.2.2.1 (max 0 o.n) l o.picks
          have hnn : max 0 o.n ≤ 9223372036854775807 := by have := hok.1; omega
          have f3d : Fr [] w3 w3.drew := (Fr.refl [] w3).drew
          have htr := (T3.fr0 f3d).trip (max 0 o.n) hnn
          have HX := Lib.hid hcut
          clear hcut hnn
          go_wp2_with fail
          refine wp_region_still_tail 8 (by kernel_rfl) (by kernel_rfl) ?_
          simp only [List.take_succ_cons, List.take_zero, List.drop_succ_cons, List.drop_zero]
          iterate 8 still_step
          refine wpStill_nil ?_
          go_wp2_with fail
          refine htr.mono ?_
          rintro e w5 ⟨rfl, T5, f5⟩
          clear htr
          have f5 : Fr L.all w3 w5 := f3d.any.trans f5
          have G5 := f5.heap G3 hW7.1
          have R5 := ownsRow_fr' R3 f5 (fun k hk => (hos k hk).1)
          have hPl := hPl.fr f5 (fun k hk => (hls k hk).1)
          have cP : w5.cell? ⟨W, 1, none⟩ = some (Pp pl) := blk_cell G5 1 rfl
          have hwr := T5.write hPl hbd' (by have := HB.out; omega)
          clear cD c3 G3 R3
          go_wp2_with fail
          refine hwr.mono ?_
          rintro e w6 ⟨rfl, T6, f6⟩
          clear hwr cP
          have hWS : W ∉ pl.b :: L.all := by simp only [List.mem_cons, not_or]; exact ⟨fun e => hWp (by simp [PL.all, e]), hW7.1⟩
          have hbS : ∀ k, k ∉ L.all → k ∉ pl.all → k ∉ pl.b :: L.all := fun k h1 h2 => by simp only [List.mem_cons, not_or]; exact ⟨fun e => h2 (by simp [PL.all, e]), h1⟩
          have G6 := f6.heap G5 hWS
          have R6 := ownsRow_fr' R5 f6 (fun k hk => hbS k (hos k hk).1 (hos k hk).2.1)
          have hPl := hPl.fr f6 (fun k hk => hbS k (hls k hk).1 (hls k hk).2.1)
          have F6 : Fr (pl.b :: L.all) wo w6 := (f3.any.trans (f5.mono (by simp +contextual))).trans f6
          have habS : ab ∉ pl.b :: L.all := fun h => hPn ab h hab
          have c4 := cell_fr F6 c4 habS
          have cD : w6.cell? ⟨W, 0, none⟩ = some (Dp L) := blk_cell G6 0 rfl
          have f6d : Fr [] w6 w6.drew := (Fr.refl [] w6).drew
          have hmt := (T6.fr0 f6d).mount ((hkI.fr F6 hPn).fr f6d (by simp)) hLn
          clear G5 R5 T5 T3 T hkI hpI c0 c1 c2
          go_wp2_with fail
          refine wp_region_still_tail 7 (by kernel_rfl) (by kernel_rfl) ?_
          simp only [List.take_succ_cons, List.take_zero, List.drop_succ_cons, List.drop_zero]
          iterate 7 still_step
          refine wpStill_nil ?_
          go_wp2_with fail
          refine hmt.mono ?_
          rintro e w7 ⟨rfl, T7, f7⟩
          clear hmt
          have f7 : Fr L.all w6 w7 := f6d.any.trans f7
          have G7 := f7.heap G6 hW7.1
          have R7 := ownsRow_fr' R6 f7 (fun k hk => (hos k hk).1)
          have hPl := hPl.fr f7 (fun k hk => (hls k hk).1)
          obtain ⟨x1, x2, x3, t', R, bs, y1, y2, y3, y4, y5, y6, y7⟩ := HX.out
          have hop := T7.reopen x1 x2 (by rw [x3]; exact HI.out.2.2.1.len)
          rw [y2] at hop
          have HY : Hid ((conts R = conts im ∨ conts R = l.foldl chg (conts im)) ∧ ((give ((rest im).setTrip (max 0 o.n)) p l).1 = 0 → conts R = l.foldl chg (conts im)) ∧ ((give ((rest im).setTrip (max 0 o.n)) p l).1 ≠ 0 → (give ((rest im).setTrip (max 0 o.n)) p l).1 ≠ 20 → conts R = conts im)) :=
            ⟨y5.imp id And.right, y6, y7⟩
          clear HX x1 x2 x3 y2 y5 y6 y7 T6 T7 G6 R6 f6 f7 F6 c4 cD f3 f5
          generalize (give ((rest im).setTrip (max 0 o.n)) p l).1 = E at HY ⊢
          have cD : w7.cell? ⟨W, 0, none⟩ = some (Dp L) := blk_cell G7 0 rfl
          go_wp2_with fail
          refine hop.mono ?_
          rintro e w8 ⟨pl', rfl, T8, f8, n8⟩
          change St w L pl' (rest R) ⟨t', bs, false⟩ w8 at T8
          have G8 := f8.heap G7 hW7.1
          have R8 := ownsRow_fr' R7 f8 (fun k hk => (hos k hk).1)
          have hPl := hPl.fr f8 (fun k hk => (hls k hk).1)
          have hWp' : W ∉ pl'.all := fun h => by have := n8 W h; have := lt_of_heap G7; omega
          have hcl := conts_length R
          have hlen18 := HI.out.2.2.1.len
          have hlenn := HI.out.2.1
          have hcon := lContents_calls T8.D T8.P (conts R) (by unfold Disk.len; rw [rest_len, hcl]; omega) (fun i s hs => by
            obtain ⟨hi, rfl⟩ := List.getElem?_eq_some_iff.1 hs
            exact read_rest y4 rfl i hi) (by rw [hcl]; omega)
          clear hop G7 R7 cD
          go_wp2_with fail
          refine hcon.mono ?_
          rintro e w9 ⟨nv, rfl, hnv, f9⟩
          clear hcon
          have hci := conts_length im
          have R9 := ownsRow_fr' R8 f9 (by simp)
          have hPl := hPl.fr f9 (by simp)
          have hL8 := T8.D.lt
          have hP8 := T8.P.lt
          have hW8 := lt_of_heap G8
          have hns : ∀ k, nv.ownBlock = some k → k ∉ L.all ∧ k ∉ pl'.all ∧ k ≠ W ∧ w.heap.size ≤ k := fun k hk => by
            have := (hnv.lt k hk).1
            exact ⟨fun h => by have := hL8 k h; omega, fun h => by have := hP8 k h; omega, by omega, by have := T8.fr.size; omega⟩
          have hchg := lChanged_calls R9 (by omega) (by omega) hPl (by have := HB.out; omega) hbw
          have HE : Hid ((conts im).length = (l.foldl chg (conts im)).length ∧ (conts R).length ≤ 100000) := ⟨(chgs_length l (conts im)).symm, by omega⟩
          clear hbw hbd hbd' hcl hlen18 hlenn hci hL8 hP8 hW8
          go_wp2_with fail
          refine hchg.mono ?_
          rintro e w10 ⟨xv, rfl, hxv, f10⟩
          clear hchg
          rw [HE.out.1] at hxv
          have N10 := ownsRow_fr' hnv f10 (by simp)
          have R10 := ownsRow_fr' R9 f10 (by simp)
          have hs1 := rSameTexts_calls N10 hxv HE.out.2
          go_wp2_with fail
          refine hs1.mono ?_
          rintro e w11 ⟨rfl, f11⟩
          have N11 := ownsRow_fr' N10 f11 (by simp)
          have R11 := ownsRow_fr' R10 f11 (by simp)
          have hs2 := rSameTexts_calls N11 R11 HE.out.2
          clear hs1
          go_wp2_with fail
          refine hs2.mono ?_
          rintro e w12 ⟨rfl, f12⟩
          clear hs2
          have f8' : Fr [] w8 w12 := ((f9.trans f10).trans f11).trans f12
          have T12 := T8.fr0 f8'
          have G12 := f8'.heap G8 (by simp)
          have N12 := ownsRow_low (ownsRow_fr' N11 f12 (by simp)) (Nat.zero_le _)
          have k1 : w12.cell? ⟨W, 1, none⟩ = some (Pp pl) := blk_cell G12 1 rfl
          have z1 := blk_free G12 1
          have fz : Fr [W] w12 (w12.setCell ⟨W, 1, none⟩ (Pp pl')) := (Fr.refl _ _).setCell (.inl (by simp)) _
          have Gz := heap_setCell_same' w12 W 1 _ _ (Pp pl') G12
          have HF : Hid (∃ (m' t : Nat) (im : List Bytes) (p : M.Pages) (pl : PL), Value.int .i64 ((m : Int) + 1) = .int .i64 m' ∧ m' ≤ cuts.length ∧ Hid (gk - 1 + m' = cuts.length) ∧ St w L pl (rest im) p (w12.setCell ⟨W, 1, none⟩ (Pp pl')) ∧ Hid (t ≤ 6 + m' ∧ im.length = n.toNat ∧ Inv t im ∧ p.number = t ∧ p.closed = false) ∧
              (w12.setCell ⟨W, 1, none⟩ (Pp pl')).heap[W]? = some (.cells #[Dp L, Pp pl, Rp LR, .pointer (some ⟨ql.b, 0, none⟩)] 28 (0, 0)) ∧ (w12.setCell ⟨W, 1, none⟩ (Pp pl')).ownsRow 0 9 1 nv (conts im).length (strs (conts im)) ∧ (∀ k, nv.ownBlock = some k → k ∉ L.all ∧ k ∉ pl.all ∧ k ≠ W ∧ w.heap.size ≤ k) ∧ W ∉ pl.all) := by
            refine ⟨m + 1, t', R, ⟨t', bs, false⟩, pl', by go_num, by omega, by have := hk.out; unfold Hid; omega, T12.frS fz ?_, ?_, ?_, ?_, hns, hWp'⟩
            · intro k hk
              obtain rfl : k = W := by simpa using hk
              exact ⟨hW7', hW7.1, hWp'⟩
            · exact ⟨by have := HI.out.1; omega, by rw [y3]; exact HI.out.2.1, y4, rfl, rfl⟩
            · simpa using Gz
            · exact ownsRow_fr' N12 fz (fun k hk => by simpa using (hns k hk).2.2.1)
          have hc5 : (E = 0 ∧ decide (conts R = l.foldl chg (conts im)) = true) ∨ (E = 20 ∧ (decide (conts R = l.foldl chg (conts im)) = true ∨ decide (conts R = conts im) = true)) ∨ (E ≠ 0 ∧ E ≠ 20 ∧ decide (conts R = conts im) = true) := by
            obtain ⟨z1, z2, z3⟩ := HY.out
            simp only [decide_eq_true_eq]
            by_cases e0 : E = 0
            · exact .inl ⟨e0, z2 e0⟩
            · by_cases e20 : E = 20
              · exact .inr (.inl ⟨e20, z1.symm⟩)
              · exact .inr (.inr ⟨e0, e20, z3 e0 e20⟩)
          clear HY HE N12 N11 N10 R10 R11 R9 R8 hPl hnv hxv T12 T8 G12 G8 Gz fz f8' f8 f9 f10 f11 f12 y1 y3 y4 n8
          generalize decide (conts R = l.foldl chg (conts im)) = is at hc5 ⊢
          generalize decide (conts R = conts im) = was at hc5 ⊢
          rcases hc5 with ⟨rfl, rfl⟩ | ⟨rfl, h5⟩ | ⟨e0, e20, rfl⟩
          · cases was with
            | true =>
              go_wp2_with fail
              go_roundg (gk - 1)
              case measure => have := hk.out; omega
              case rel => exact HF.out
            | false =>
              go_wp2_with fail
              go_roundg (gk - 1)
              case measure => have := hk.out; omega
              case rel => exact HF.out
          · cases is with
            | true =>
              clear h5
              cases was with
              | true =>
                go_wp2_with fail
                go_roundg (gk - 1)
                case measure => have := hk.out; omega
                case rel => exact HF.out
              | false =>
                go_wp2_with fail
                go_roundg (gk - 1)
                case measure => have := hk.out; omega
                case rel => exact HF.out
            | false =>
              obtain rfl : was = true := by simpa using h5
              clear h5
              go_wp2_with fail
              go_roundg (gk - 1)
              case measure => have := hk.out; omega
              case rel => exact HF.out
          · have e0' : (E == 0) = false := by simpa using e0
            have e0n : (E != 0) = true := by simpa using e0
            have e20n : (E != 20) = true := by simpa using e20
            clear e0 e20
            cases is with
            | true =>
              go_wp2_with fail
              go_roundg (gk - 1)
              case measure => have := hk.out; omega
              case rel => exact HF.out
            | false =>
              go_wp2_with fail
              go_roundg (gk - 1)
              case measure => have := hk.out; omega
              case rel => exact HF.out
        · obtain rfl : m = cuts.length := by omega
          have hlt' : decide ((cuts.length : Int) < (cuts.length : Int)) = false := by simp
          have FT := T.fr
          clear T HI G hov hos hWp
          go_wp2_with fail
          refine (lSanity_calls _).mono ?_
          rintro e w3 ⟨rfl, f3⟩
          have F3 := FT.trans f3
          go_wp2_with fail
          go_ret
          exact ⟨rfl, F3⟩
end
end Go.Proofs.Ytpoagpaglocpeaa
