/- Writing pages. -/
import Derived.Test.YtcnhlemenpgkbaaGreatDoorPages6
import Derived.Deep.CutRange
namespace Go.Proofs.YtcnhlemenpgkbaaGreatDoor
set_option linter.unusedSimpArgs false
set_option linter.unusedVariables false
set_option linter.unnecessarySimpa false
open Go.RowKit M

theorem fnInfo : (Tryz.prog.info? 78).map (fun i => (i.zero, i.size, i.bytes)) = some (some .nilFunc, 1, 8) := by kernel_rfl

section
variable {w : World} {L : DL} {d : Disk} {pl : PL} {p : M.Pages}

theorem take_snoc {α : Type} {l : List α} {n : Nat} {x : α} (h : l[n]? = some x) : l.take (n + 1) = l.take n ++ [x] := by
  obtain ⟨hlt, rfl⟩ := List.getElem?_eq_some_iff.1 h
  exact List.take_succ_eq_append_getElem hlt

theorem one_new {H : List Nat} {w : World} {L : DL} {v : Value} {s : Stp} (h : StpIn H w L v s) (hs : s.okay) : ∀ (j : Nat) a b, [v][j]? = some a → [s][j]? = some b → StpIn H w L a b ∧ b.okay := by
  intro j a b ha hb
  cases j with
  | zero =>
    obtain rfl : v = a := by simpa using ha
    obtain rfl : s = b := by simpa using hb
    exact ⟨h, hs⟩
  | succ j => simp at ha
theorem StpIn.one {H : List Nat} {w : World} {L : DL} {v : Value} {s : Stp} (h : StpIn H w L v s) : v.oneCell' = true := by
  cases s with
  | flush => rw [show v = _ from h]; rfl
  | put p s => obtain ⟨b1, b2, b3, rfl, _⟩ := h; rfl
theorem two_new {H : List Nat} {w : World} {L : DL} {v v' : Value} {s s' : Stp} (h : StpIn H w L v s) (hs : s.okay) (h' : StpIn H w L v' s') (hs' : s'.okay) : ∀ (j : Nat) a b, [v, v'][j]? = some a → [s, s'][j]? = some b → StpIn H w L a b ∧ b.okay := by
  intro j a b ha hb
  match j, ha, hb with
  | 0, ha, hb =>
    obtain rfl : v = a := by simpa using ha
    obtain rfl : s = b := by simpa using hb
    exact ⟨h, hs⟩
  | 1, ha, hb =>
    obtain rfl : v' = a := by simpa using ha
    obtain rfl : s' = b := by simpa using hb
    exact ⟨h', hs'⟩
  | j + 2, ha, hb => simp at ha
theorem natv_snoc (l : List Nat) (x : Nat) : natv (l ++ [x]) = natv l ++ [.int .i64 x] := by simp [natv]
def pgs (l : List PW) : List Nat := l.map fun x => x.1.toNat

set_option maxRecDepth 100000 in
set_option maxHeartbeats 2000000 in
theorem pWrite_calls (h : DiskAt w L d) (hp : PagesAt w pl L p) (hne : ∀ k ∈ pl.all, k ∉ L.all) {v : Value} {l : List PW} (hl : PwAt w v l) (hlen : ∀ x ∈ l, x.2.length ≤ 1000) (hfew : l.length ≤ 100000) : Calls Tryz.prog 50 #[Pp pl, v] w fun e w' =>
    e = .returned (.int .i64 (give d p l).1) ∧ DiskAt w' L (give d p l).2.1 ∧ PagesAt w' pl L (give d p l).2.2 ∧ Fr (pl.b :: L.all) w w' := by
  have hck := pCheck_calls h hp hl hlen hfew
  by_cases hc : check d p l = 0
  · obtain ⟨k1, k2, k3, k4, k5⟩ := check_ok hc
    have R : give d p l = if (runAll d (steps (p.number + 1) l)).1 ≠ 0 then ((runAll d (steps (p.number + 1) l)).1, (runAll d (steps (p.number + 1) l)).2, { p with closed := true }) else (0, (runAll d (steps (p.number + 1) l)).2, { p with number := p.number + 1 }) := by unfold give; rw [if_neg (by simp [hc])]
    generalize give d p l = G at R ⊢
    have HG := Lib.hid R
    clear R
    rw [hc] at hck
    have few := h.ok.few
    have f1 : 0 ≤ d.len := by unfold Disk.len; omega
    have f2 : d.len ≤ 4096 := by unfold Disk.len; omega
    have hmem := okFrom_mem k5
    have hlow := hp.low
    obtain ⟨vp, vc, rfl⟩ := ownsRow_len hl
    clear hc k5
    go_enter Tryz.func50, Tryz.ntmps50
    go_wp2_with fail
    refine hck.mono ?_
    rintro e w1 ⟨rfl, F1⟩
    have Pc1 := (hp.fr0 F1).c1
    go_wp2_with fail
    go_loopg [7, 8, 9, 27] l.length (fun kq v7 v8 v9 i w' => ∃ (n : Nat) (H : List Nat), i = .int .i64 n ∧ n ≤ l.length ∧ Hid (kq + n = l.length) ∧ Tri w.heap.size H w' L v7 (logs (p.number + 1) 1 (l.take n)) v8 (datas (p.number + 1) (l.take n)) v9 (natv (pgs (l.take n))) ∧ Fr [] w w')
    case atStart =>
      refine ⟨0, [], rfl, by omega, by simp [Hid], ⟨⟨⟨[], World.ownsRow_nil _ _ _ _, by simp⟩, by simp⟩, ⟨⟨[], World.ownsRow_nil _ _ _ _, by simp⟩, by simp⟩, World.ownsRow_nil _ _ _ _, by simp, ?_, ?_, ?_, by simp⟩, F1⟩ <;> (intro k hk; cases hk)
    case round =>
      obtain ⟨n, H, rfl, hn, hk, I, IF⟩ := hrel
      by_cases hlt : n < l.length
      · have hlt' : (n : Int) < (l.length : Int) := by omega
        have hlr := hl.fr IF (by simp)
        obtain ⟨x, hx⟩ : ∃ x, l[n]? = some x := ⟨l[n], List.getElem?_eq_getElem hlt⟩
        obtain ⟨g, rfl, hgl, hca, hcb⟩ := hlr.cells hx
        obtain ⟨m1, m2, m3⟩ := hmem x (List.mem_of_getElem? hx)
        have Pr := hp.fr0 IF
        have e1 : logs (p.number + 1) 1 (l.take (n + 1)) = logs (p.number + 1) 1 (l.take n) ++ [.put (1 + n) (sealed (p.number + 1) x.2)] := by
          rw [take_snoc hx, logs_snoc, List.length_take, Nat.min_eq_left hn]
        have e2 : datas (p.number + 1) (l.take (n + 1)) = datas (p.number + 1) (l.take n) ++ [.put (17 + x.1) (sealed (p.number + 1) x.2)] := by
          rw [take_snoc hx, datas_snoc]
        have e3 : natv (pgs (l.take (n + 1))) = natv (pgs (l.take n)) ++ [.int .i64 x.1] := by
          rw [take_snoc hx]
          simp [natv, pgs]
          omega
        have eS : (sealed (p.number + 1) x.2).length = 128 := sealed_length (by omega) (by omega) m3
        have q1 : (logs (p.number + 1) 1 (l.take n)).length ≤ 16 := by rw [logs_length, List.length_take]; omega
        have q2 : (datas (p.number + 1) (l.take n)).length ≤ 16 := by rw [datas_length, List.length_take]; omega
        have q3 : (natv (pgs (l.take n))).length ≤ 16 := by simp [natv, pgs]; omega
        generalize logs (p.number + 1) 1 (l.take n) = s7 at e1 I q1
        generalize datas (p.number + 1) (l.take n) = s8 at e2 I q2
        generalize natv (pgs (l.take n)) = x9 at e3 I q3
        have E1 := Lib.hid e1
        have E2 := Lib.hid e2
        have E3 := Lib.hid e3
        have HS := Lib.hid eS
        have hw17 : IntKind.i64.wrap (17 + x.1) = 17 + x.1 := by rw [IntKind.wrap_i64]; omega
        have HX := Lib.hid hx
        clear hx e1 e2 e3 eS
        go_wp2_with fail
        obtain ⟨N1, N2, N3, N4⟩ := new_two wr (.int .i64 x.1) (.string ⟨x.2.toArray⟩) 108 (Fr.refl [] wr)
        have Pa := Pr.c0
        generalize wr.alloc (.cells #[.int .i64 x.1, .string ⟨x.2.toArray⟩] 108) = wa at N1 N2 N3 N4 ⊢
        refine (pSeal_calls (p.number + 1) x.2 _).mono ?_
        rintro e w2 ⟨rfl, g2⟩
        have Pb := cell_fr (N4.trans g2) Pa (by simp)
        have M1 := cell_fr g2 N1 (by simp)
        go_wp2_with fail
        refine (pPut_calls L (1 + n) (sealed (p.number + 1) x.2) _).mono ?_
        rintro e w3 ⟨u, rfl, hst, hu1, g3⟩
        obtain ⟨N, hin, hN⟩ := hst.in_
        obtain ⟨b1, b2, b3, rfl, -⟩ := hst
        go_wp2_with (first | (with_reducible refine wpL_stop (o := ⟨_, .alloc 59, _, _, _, none⟩) ?_) | (with_reducible refine wpL_stop (o := ⟨_, .load 59 _, _, _, _, none⟩) ?_) | (with_reducible refine wpL_stop (o := ⟨_, .store 59 _ _, _, _, _, none⟩) ?_) | (with_reducible refine wpL_stop (o := ⟨_, .lookup _ _ _ _, _, _, _, none⟩) ?_) | (with_reducible refine wpL_stop (o := ⟨_, .box 59 _, _, _, _, none⟩) ?_) | (with_reducible refine wpL_stop (o := ⟨_, .next _ _, _, _, _, none⟩) ?_) | (with_reducible refine wpL_stop (o := ⟨_, .range _ _, _, _, _, none⟩) ?_) | (with_reducible refine wpL_stop (o := ⟨_, .mapUpdate _ _ _ _, _, _, _, none⟩) ?_) | (with_reducible refine wpL_stop (o := ⟨_, .convert 23 9 _, _, _, _, none⟩) ?_) | (with_reducible refine wpL_stop (o := ⟨_, .convert 9 23 _, _, _, _, none⟩) ?_) | (with_reducible refine wpL_stop (o := ⟨_, .call { callee := .builtin .copy, args := _, argTypes := _ }, _, _, _, none⟩) ?_) | (with_reducible refine wpL_stop (o := ⟨_, .call { callee := .builtin .append, args := _, argTypes := _ }, _, _, _, none⟩) ?_) | (with_reducible refine wpL_stop (o := ⟨_, .call { callee := .builtin .clear, args := _, argTypes := _ }, _, _, _, none⟩) ?_) | (with_reducible refine wpL_stop (o := ⟨_, .makeSlice _ _ _, _, _, _, none⟩) ?_) | (with_reducible refine wpL_stop (o := ⟨_, .makeMap _ _, _, _, _, none⟩) ?_) | (with_reducible refine wpL_stop (o := ⟨_, .entry _, _, _, _, none⟩) ?_) | (with_reducible refine wpL_stop (o := ⟨_, .call { callee := .builtin .max, args := _, argTypes := _ }, _, _, _, none⟩) ?_) | (with_reducible refine wpL_stop (o := ⟨_, .call { callee := .builtin .min, args := _, argTypes := _ }, _, _, _, none⟩) ?_) | (with_reducible refine wpL_stop (o := ⟨_, .slice 59 _ none (some _) none, _, _, _, none⟩) ?_) | (with_reducible refine wpL_stop (o := ⟨_, .binOp .add 9 _ _ _, _, _, _, none⟩) ?_) | (with_reducible refine wpL_stop (o := ⟨_, .slice 9 _ _ _ _, _, _, _, none⟩) ?_))
        have I4 := ((I.fr0 (N4.trans g2)).more g3 (by have := IF.size; have := (N4.trans g2).size; omega) hN).fr0 ((Fr.refl [] w3).alloc (.cells #[.func (.func 58) #[] #[.pointer (some ⟨b1, 0, none⟩), .pointer (some ⟨b2, 0, none⟩), .pointer (some ⟨b3, 0, none⟩)]] 78))
        have hg4 := heap_alloc_new w3 (.cells #[.func (.func 58) #[] #[.pointer (some ⟨b1, 0, none⟩), .pointer (some ⟨b2, 0, none⟩), .pointer (some ⟨b3, 0, none⟩)]] 78)
        have hin4 := hin.fr (H' := H ++ N) ((Fr.refl [] w3).alloc (.cells #[.func (.func 58) #[] #[.pointer (some ⟨b1, 0, none⟩), .pointer (some ⟨b2, 0, none⟩), .pointer (some ⟨b3, 0, none⟩)]] 78)) (by simp) (fun k hk => List.mem_append_right _ hk)
        have f4 : Fr [] wr (w3.alloc (.cells #[.func (.func 58) #[] #[.pointer (some ⟨b1, 0, none⟩), .pointer (some ⟨b2, 0, none⟩), .pointer (some ⟨b3, 0, none⟩)]] 78)) := ((N4.trans g2).trans g3).alloc _
        have M4 := cell_fr (g3.alloc (.cells #[.func (.func 58) #[] #[.pointer (some ⟨b1, 0, none⟩), .pointer (some ⟨b2, 0, none⟩), .pointer (some ⟨b3, 0, none⟩)]] 78)) (cell_fr g2 N1 (by simp)) (by simp)
        generalize w3.alloc (.cells #[.func (.func 58) #[] #[.pointer (some ⟨b1, 0, none⟩), .pointer (some ⟨b2, 0, none⟩), .pointer (some ⟨b3, 0, none⟩)]] 78) = w4 at I4 hg4 f4 M4 hin4 ⊢
        obtain ⟨x7, r7, st7⟩ := I4.a7.at_
        refine unhold (wpL_append_at rfl _ _ 76 rfl w.heap.size 78 _ 8 Tryz.underlying76 fnInfo rfl (by decide) u7 s7.length x7 rfl r7 w3.heap.size 1 [.func (.func 58) #[] #[.pointer (some ⟨b1, 0, none⟩), .pointer (some ⟨b2, 0, none⟩), .pointer (some ⟨b3, 0, none⟩)]] rfl _ _ _ hg4 (by intro j u hj; simpa using hj) (by simp [Value.oneCell']) (by simp; omega) (by have := IF.size; have := f4.size; omega) ?_)
        intro v7 w5 hown7 hgr7 hat7
        have I5 := I4.app7 hgr7 hat7 (ns := [.put (1 + n) (sealed (p.number + 1) x.2)]) rfl r7 st7 hown7 (one_new hin4 HS.out)
        clear hown7 st7 r7 I4 hin4
        have f5 : Fr [] w w5 := (IF.trans f4).grown hgr7 (fun k hk => .inr (I.a7.lt k hk).1)
        have M5 : w5.cell? ⟨wr.heap.size, 0, none⟩ = some (.int .i64 x.1) := by
          rw [World.cell?_of_block (hgr7.block _ (World.block_lt_of_cell? _ _ M4) (fun e => Nat.lt_irrefl wr.heap.size (I.a7.lt _ e.symm).2))]
          exact M4
        have P5 := (hp.fr0 f5).c0
        have sz5 := hgr7.size
        have sz4 := f4.size
        have sz0 := IF.size
        clear M4 hgr7 hat7 Pb M1 hg4 N1 N2
        have hB5 : w.heap.size ≤ (w5.drew).heap.size := f5.size
        go_wp2_with fail
        go_region_held3 (fun w' => w'.cell? ⟨pl.b, 0, none⟩ = some (Dp L) ∧ w'.cell? ⟨wr.heap.size, 0, none⟩ = some (.int .i64 x.1)) (first | exact ⟨P5, M5⟩ | exact ⟨P6, M6⟩ | exact ⟨P6a, M6a⟩ | exact ⟨P7, M7⟩)
          (first
            | (go_at_call 34
               refine (pPut_calls L (17 + x.1) (sealed (p.number + 1) x.2) _).mono ?_
               rintro e w6 ⟨u, rfl, hst2, -, g6⟩
               obtain ⟨N2, hin2, hN2⟩ := hst2.in_
               obtain ⟨c1, c2, c3, rfl, -⟩ := hst2
               have P6 := cell_fr ((Fr.refl [] w5).drew.trans g6) P5 (by simp)
               have M6 := cell_fr ((Fr.refl [] w5).drew.trans g6) M5 (by simp)
               have P6a := cell_fr ((Fr.refl [] w6).alloc (.cells #[(.func (.func 58) #[] #[.pointer (some ⟨c1, 0, none⟩), .pointer (some ⟨c2, 0, none⟩), .pointer (some ⟨c3, 0, none⟩)])] 78)) P6 (by simp)
               have M6a := cell_fr ((Fr.refl [] w6).alloc (.cells #[(.func (.func 58) #[] #[.pointer (some ⟨c1, 0, none⟩), .pointer (some ⟨c2, 0, none⟩), .pointer (some ⟨c3, 0, none⟩)])] 78)) M6 (by simp))
            | (have I6 := ((I5.fr0 (Fr.refl [] w5).drew).more g6 hB5 hN2).fr0 ((Fr.refl [] w6).alloc (.cells #[(.func (.func 58) #[] #[.pointer (some ⟨c1, 0, none⟩), .pointer (some ⟨c2, 0, none⟩), .pointer (some ⟨c3, 0, none⟩)])] 78))
               have hin6 := hin2.fr (H' := H ++ N ++ N2) ((Fr.refl [] w6).alloc (.cells #[(.func (.func 58) #[] #[.pointer (some ⟨c1, 0, none⟩), .pointer (some ⟨c2, 0, none⟩), .pointer (some ⟨c3, 0, none⟩)])] 78)) (by simp) (fun k hk => List.mem_append_right _ hk)
               have hg6 := heap_alloc_new w6 (.cells #[(.func (.func 58) #[] #[.pointer (some ⟨c1, 0, none⟩), .pointer (some ⟨c2, 0, none⟩), .pointer (some ⟨c3, 0, none⟩)])] 78)
               have f6 := (f5.drew.trans g6).alloc (.cells #[(.func (.func 58) #[] #[.pointer (some ⟨c1, 0, none⟩), .pointer (some ⟨c2, 0, none⟩), .pointer (some ⟨c3, 0, none⟩)])] 78)
               have hB6 := f6.size
               obtain ⟨x8, r8, st8⟩ := I6.a8.at_
               refine step_append_at rfl _ _ 76 rfl w.heap.size 78 _ 8 Tryz.underlying76 fnInfo rfl (by decide) u8 s8.length x8 rfl r8 w6.heap.size 1 [(.func (.func 58) #[] #[.pointer (some ⟨c1, 0, none⟩), .pointer (some ⟨c2, 0, none⟩), .pointer (some ⟨c3, 0, none⟩)])] rfl _ _ _ hg6 (by intro j u hj; simpa using hj) (by simp [Value.oneCell']) (by simp; omega) hB6 ?_
               intro v8 w7 hown8 hgr8 hat8
               have I7 := (I6.swap.app7 hgr8 hat8 (ns := [.put (17 + x.1) (sealed (p.number + 1) x.2)]) rfl r8 st8 hown8 (one_new hin6 HS.out)).swap
               have f7 : Fr [] w w7 := f6.grown hgr8 (fun k hk => .inr (I.a8.lt k hk).1)
               have P7 := (hp.fr0 f7).c0
               have M7 : w7.cell? ⟨wr.heap.size, 0, none⟩ = some (.int .i64 x.1) := by
                 rw [World.cell?_of_block (hgr8.block _ (World.block_lt_of_cell? _ _ M6a) (fun e => Nat.lt_irrefl wr.heap.size (I.a8.lt _ e.symm).2))]
                 exact M6a
               clear I6 hin6 hg6 f6 hB6 r8 st8 hown8 hgr8 hat8))
        clear I5 hB5 hN2 hin2 g6 P6 M6 P6a M6a P5 M5
        go_wp2_with (first | (with_reducible refine wpL_stop (o := ⟨_, .alloc 59, _, _, _, none⟩) ?_) | (with_reducible refine wpL_stop (o := ⟨_, .load 59 _, _, _, _, none⟩) ?_) | (with_reducible refine wpL_stop (o := ⟨_, .store 59 _ _, _, _, _, none⟩) ?_) | (with_reducible refine wpL_stop (o := ⟨_, .lookup _ _ _ _, _, _, _, none⟩) ?_) | (with_reducible refine wpL_stop (o := ⟨_, .box 59 _, _, _, _, none⟩) ?_) | (with_reducible refine wpL_stop (o := ⟨_, .next _ _, _, _, _, none⟩) ?_) | (with_reducible refine wpL_stop (o := ⟨_, .range _ _, _, _, _, none⟩) ?_) | (with_reducible refine wpL_stop (o := ⟨_, .mapUpdate _ _ _ _, _, _, _, none⟩) ?_) | (with_reducible refine wpL_stop (o := ⟨_, .convert 23 9 _, _, _, _, none⟩) ?_) | (with_reducible refine wpL_stop (o := ⟨_, .convert 9 23 _, _, _, _, none⟩) ?_) | (with_reducible refine wpL_stop (o := ⟨_, .call { callee := .builtin .copy, args := _, argTypes := _ }, _, _, _, none⟩) ?_) | (with_reducible refine wpL_stop (o := ⟨_, .call { callee := .builtin .append, args := _, argTypes := _ }, _, _, _, none⟩) ?_) | (with_reducible refine wpL_stop (o := ⟨_, .call { callee := .builtin .clear, args := _, argTypes := _ }, _, _, _, none⟩) ?_) | (with_reducible refine wpL_stop (o := ⟨_, .makeSlice _ _ _, _, _, _, none⟩) ?_) | (with_reducible refine wpL_stop (o := ⟨_, .makeMap _ _, _, _, _, none⟩) ?_) | (with_reducible refine wpL_stop (o := ⟨_, .entry _, _, _, _, none⟩) ?_) | (with_reducible refine wpL_stop (o := ⟨_, .call { callee := .builtin .max, args := _, argTypes := _ }, _, _, _, none⟩) ?_) | (with_reducible refine wpL_stop (o := ⟨_, .call { callee := .builtin .min, args := _, argTypes := _ }, _, _, _, none⟩) ?_) | (with_reducible refine wpL_stop (o := ⟨_, .slice 59 _ none (some _) none, _, _, _, none⟩) ?_) | (with_reducible refine wpL_stop (o := ⟨_, .binOp .add 9 _ _ _, _, _, _, none⟩) ?_) | (with_reducible refine wpL_stop (o := ⟨_, .slice 9 _ _ _ _, _, _, _, none⟩) ?_))
        have I8 := I7.fr0 ((Fr.refl [] w7).alloc (.cells #[.int .i64 x.1] 3))
        have hg8 := heap_alloc_new w7 (.cells #[.int .i64 x.1] 3)
        have f8 := f7.alloc (.cells #[.int .i64 x.1] 3)
        have hB8 := f8.size
        generalize w7.alloc (.cells #[.int .i64 x.1] 3) = w8 at I8 hg8 f8 hB8 ⊢
        refine unhold (wpL_append_at rfl _ _ 24 rfl w.heap.size 3 _ 8 Tryz.underlying24 intInfo rfl (by decide) u9 x9.length x9 rfl I8.a9 w7.heap.size 1 [.int .i64 x.1] rfl _ _ _ hg8 (by intro j u hj; simpa using hj) (by simp [Value.oneCell']) (by simp; omega) hB8 ?_)
        intro v9 w9 hown9 hgr9 hat9
        have I9 := I8.app9 hgr9 hat9 hown9
        have f9 : Fr [] w w9 := f8.grown hgr9 (fun k hk => .inr (I8.a9.lt k hk).1)
        clear hg8 hB8 I7 I8 hown9 hgr9 hat9 f7 P7 M7 f8
        go_wp2_with (first | (with_reducible refine wpL_stop (o := ⟨_, .alloc 59, _, _, _, none⟩) ?_) | (with_reducible refine wpL_stop (o := ⟨_, .load 59 _, _, _, _, none⟩) ?_) | (with_reducible refine wpL_stop (o := ⟨_, .store 59 _ _, _, _, _, none⟩) ?_) | (with_reducible refine wpL_stop (o := ⟨_, .lookup _ _ _ _, _, _, _, none⟩) ?_) | (with_reducible refine wpL_stop (o := ⟨_, .box 59 _, _, _, _, none⟩) ?_) | (with_reducible refine wpL_stop (o := ⟨_, .next _ _, _, _, _, none⟩) ?_) | (with_reducible refine wpL_stop (o := ⟨_, .range _ _, _, _, _, none⟩) ?_) | (with_reducible refine wpL_stop (o := ⟨_, .mapUpdate _ _ _ _, _, _, _, none⟩) ?_) | (with_reducible refine wpL_stop (o := ⟨_, .convert 23 9 _, _, _, _, none⟩) ?_) | (with_reducible refine wpL_stop (o := ⟨_, .convert 9 23 _, _, _, _, none⟩) ?_) | (with_reducible refine wpL_stop (o := ⟨_, .call { callee := .builtin .copy, args := _, argTypes := _ }, _, _, _, none⟩) ?_) | (with_reducible refine wpL_stop (o := ⟨_, .call { callee := .builtin .append, args := _, argTypes := _ }, _, _, _, none⟩) ?_) | (with_reducible refine wpL_stop (o := ⟨_, .call { callee := .builtin .clear, args := _, argTypes := _ }, _, _, _, none⟩) ?_) | (with_reducible refine wpL_stop (o := ⟨_, .makeSlice _ _ _, _, _, _, none⟩) ?_) | (with_reducible refine wpL_stop (o := ⟨_, .makeMap _ _, _, _, _, none⟩) ?_) | (with_reducible refine wpL_stop (o := ⟨_, .entry _, _, _, _, none⟩) ?_) | (with_reducible refine wpL_stop (o := ⟨_, .call { callee := .builtin .max, args := _, argTypes := _ }, _, _, _, none⟩) ?_) | (with_reducible refine wpL_stop (o := ⟨_, .call { callee := .builtin .min, args := _, argTypes := _ }, _, _, _, none⟩) ?_) | (with_reducible refine wpL_stop (o := ⟨_, .slice 59 _ none (some _) none, _, _, _, none⟩) ?_) | (with_reducible refine wpL_stop (o := ⟨_, .binOp .add 9 _ _ _, _, _, _, none⟩) ?_) | (with_reducible refine wpL_stop (o := ⟨_, .slice 9 _ _ _ _, _, _, _, none⟩) ?_))
        go_roundg (gk - 1)
        case measure => have := hk.out; omega
        case rel =>
          refine ⟨n + 1, H ++ N ++ N2, by go_num, by omega, by have := hk.out; unfold Hid; omega, ?_, f9⟩
          rw [E1.out, E2.out, E3.out]
          exact I9
      · obtain rfl : n = l.length := by omega
        have hlt' : decide ((l.length : Int) < (l.length : Int)) = false := by simp
        rw [List.take_length] at I
        have P0 := (hp.fr0 IF).c0
        have hB0 := IF.size
        have eR : (sealed (p.number + 1) (record (pgs l))).length = 128 := sealed_length (by omega) (by omega) (record_length _ (by simp [pgs]; omega))
        have HSR := Lib.hid eR
        have q1 : (logs (p.number + 1) 1 l).length ≤ 16 := by rw [logs_length]; omega
        have q2 : (datas (p.number + 1) l).length ≤ 16 := by rw [datas_length]; omega
        have q4 : 0 < (datas (p.number + 1) l).length := by rw [datas_length]; exact List.length_pos_iff.2 k4
        have hrun : steps (p.number + 1) l = (logs (p.number + 1) 1 l ++ [.put 0 (sealed (p.number + 1) (record (pgs l))), .flush]) ++ datas (p.number + 1) l ++ [.flush] := rfl
        generalize hsts : steps (p.number + 1) l = sts at hrun
        have HST := Lib.hid hsts
        clear hsts
        have HR := Lib.hid hrun
        generalize logs (p.number + 1) 1 l = s7 at I q1 HR
        generalize datas (p.number + 1) l = s8 at I q2 q4 HR
        clear hrun eR
        go_wp2_with fail
        go_cut [7] from 65 to 81 (fun s wx => ∃ N, Tri w.heap.size (H ++ N) wx L s (s7 ++ [.put 0 (sealed (p.number + 1) (record (pgs l))), .flush]) u8 s8 u9 (natv (pgs l)) ∧ Fr [] w wx)
        case first =>
          go_region_held3 (fun w' => w'.cell? ⟨pl.b, 0, none⟩ = some (Dp L)) (first | exact P0 | exact P2 | exact P3 | exact P4 | exact P4a | exact P5)
            (first
              | (go_at_call 57
                 refine (pRecord_calls (l := pgs l) (base := w.heap.size) (by simpa [natv] using (I.fr0 (Fr.refl [] wr).drew).a9) (by simp [pgs]; omega)).mono ?_
                 rintro e w2 ⟨rfl, g2⟩
                 have P2 := cell_fr ((Fr.refl [] wr).drew.trans g2) P0 (by simp))
              | (go_at_call 61
                 refine (pSeal_calls (p.number + 1) (record (pgs l)) _).mono ?_
                 rintro e w3 ⟨rfl, g3⟩
                 have P3 := cell_fr g3 P2 (by simp))
              | (go_at_call 34
                 refine (pPut_calls L 0 (sealed (p.number + 1) (record (pgs l))) _).mono ?_
                 rintro e w4 ⟨u, rfl, hst, -, g4⟩
                 obtain ⟨N, hin, hN⟩ := hst.in_
                 obtain ⟨c1, c2, c3, rfl, -⟩ := hst
                 have P4 := cell_fr g4 P3 (by simp)
                 have P4a := cell_fr ((Fr.refl [] w4).alloc (.cells #[(.func (.func 58) #[] #[.pointer (some ⟨c1, 0, none⟩), .pointer (some ⟨c2, 0, none⟩), .pointer (some ⟨c3, 0, none⟩)]), (.func (.func 35) #[Dp L] #[])] 78)) P4 (by simp))
              | (have I4 := ((I.fr0 (((Fr.refl [] wr).drew.trans g2).trans g3)).more g4 (by have := g2.size; have := g3.size; simp only [World.drew] at *; omega) hN).fr0 ((Fr.refl [] w4).alloc (.cells #[(.func (.func 58) #[] #[.pointer (some ⟨c1, 0, none⟩), .pointer (some ⟨c2, 0, none⟩), .pointer (some ⟨c3, 0, none⟩)]), (.func (.func 35) #[Dp L] #[])] 78))
                 have hin4 := hin.fr (H' := H ++ N) ((Fr.refl [] w4).alloc (.cells #[(.func (.func 58) #[] #[.pointer (some ⟨c1, 0, none⟩), .pointer (some ⟨c2, 0, none⟩), .pointer (some ⟨c3, 0, none⟩)]), (.func (.func 35) #[Dp L] #[])] 78)) (by simp) (fun k hk => List.mem_append_right _ hk)
                 have hg4 := heap_alloc_new w4 (.cells #[(.func (.func 58) #[] #[.pointer (some ⟨c1, 0, none⟩), .pointer (some ⟨c2, 0, none⟩), .pointer (some ⟨c3, 0, none⟩)]), (.func (.func 35) #[Dp L] #[])] 78)
                 have f4 := (((IF.drew.trans g2).trans g3).trans g4).alloc (.cells #[(.func (.func 58) #[] #[.pointer (some ⟨c1, 0, none⟩), .pointer (some ⟨c2, 0, none⟩), .pointer (some ⟨c3, 0, none⟩)]), (.func (.func 35) #[Dp L] #[])] 78)
                 have hB4 := f4.size
                 obtain ⟨x7, r7, st7⟩ := I4.a7.at_
                 refine step_append_at rfl _ _ 76 rfl w.heap.size 78 _ 8 Tryz.underlying76 fnInfo rfl (by decide) u7 s7.length x7 rfl r7 w4.heap.size 2 [(.func (.func 58) #[] #[.pointer (some ⟨c1, 0, none⟩), .pointer (some ⟨c2, 0, none⟩), .pointer (some ⟨c3, 0, none⟩)]), (.func (.func 35) #[Dp L] #[])] rfl _ _ _ hg4 (by intro j u hj; simpa using hj) (by simp [Value.oneCell']) (by simp; omega) hB4 ?_
                 intro v7 w5 hown7 hgr7 hat7
                 have I5 := I4.app7 hgr7 hat7 (ns := [.put 0 (sealed (p.number + 1) (record (pgs l))), .flush]) rfl r7 st7 hown7 (two_new hin4 HSR.out (s' := .flush) (H := H ++ N) rfl trivial)
                 have f5 : Fr [] w w5 := f4.grown hgr7 (fun k hk => .inr (I.a7.lt k hk).1)
                 have P5 := (hp.fr0 f5).c0
                 clear I4 hin4 hg4 f4 hB4 r7 st7 hown7 hgr7 hat7))
          all_goals
            go_wp2_with fail
            go_meet
            exact ⟨N, I5, f5⟩
        case rest =>
          obtain ⟨N, I5, f5⟩ := hcut
          go_wp2_with fail
          have D5 := h.fr0 f5
          obtain ⟨x8, r8, st8⟩ := I5.a8.at_
          obtain ⟨g8, cap8, cur8, rfl, hg8, hcur8⟩ : ∃ g8 cap8 cur8, u8 = .slice (some ⟨g8, 0, none⟩) s8.length cap8 ∧ wc.heap[g8]? = some (.cells cur8 78 (0, 0)) ∧ cur8.toList.take s8.length = x8 := by
            rcases r8.2 with ⟨_, h0⟩ | ⟨g, cap, cur, hv, _, hg, _, _, _, ht⟩
            · omega
            · exact ⟨g, cap, cur, hv, hg, by simpa using ht⟩
          have hx8 : x8.length = s8.length := by have := r8.1; omega
          have hn8 : ∀ (j : Nat) u, x8[j]? = some u → cur8[j]? = some u := by
            intro j u hj
            rw [← hcur8] at hj
            rw [List.getElem?_take] at hj
            split at hj
            · simpa using hj
            · cases hj
          have h18 : ∀ u ∈ x8, u.oneCell' = true := by
            intro u hu
            obtain ⟨j, hj⟩ := List.getElem?_of_mem hu
            have hlt8 : j < s8.length := by have := (List.getElem?_eq_some_iff.1 hj).1; omega
            exact StpIn.one (st8 j u s8[j] hj (by simp [hlt8])).1
          have P0 := (hp.fr0 f5).c0
          have hB0 := f5.size
          have N8 := Lib.hid hx8
          clear hx8 hcur8 r8
          have q5 : (s7 ++ [Stp.put 0 (sealed (p.number + 1) (record (pgs l))), Stp.flush]).length ≤ 18 := by simp; omega
          generalize hs9 : s7 ++ [Stp.put 0 (sealed (p.number + 1) (record (pgs l))), Stp.flush] = s9 at I5 q5
          have HE : Hid (sts = s9 ++ s8 ++ [.flush]) := by unfold Hid; rw [HR.out, hs9]
          have q6 : sts.length ≤ 40 := by rw [HE.out]; simp; omega
          have hLB : ∀ k ∈ L.all, k < w.heap.size := h.lt
          clear hs9
          go_cut [13] from 82 to 92 (fun s wx => s = .int .i64 (runAll d sts).1 ∧ DiskAt wx L (runAll d sts).2 ∧ Fr L.all w wx)
          case first =>
            go_region_held3 (fun w' => w'.cell? ⟨pl.b, 0, none⟩ = some (Dp L)) (first | exact P0 | exact (hp.fr0 (f5.drew.alloc (.cells #[(.func (.func 35) #[Dp L] #[])] 78))).c0 | exact P6 | exact P6a | exact P7 | exact P9)
              (first
                | (have I5d := I5.fr0 (Fr.refl [] wc).drew
                   have hg8d := (Fr.refl [] wc).drew.heap hg8 (by simp)
                   have f5d := f5.drew
                   obtain ⟨x7, r7, st7⟩ := I5d.a7.at_
                   refine step_append_at rfl _ _ 76 rfl w.heap.size 78 _ 8 Tryz.underlying76 fnInfo rfl (by decide) u7 s9.length x7 rfl r7 g8 cap8 x8 (by rw [N8.out]; rfl) _ _ _ hg8d hn8 h18 (by rw [N8.out]; omega) f5d.size ?_
                   intro v7 w6 hown7 hgr7 hat7
                   have I6 := I5d.app7 hgr7 hat7 (ns := s8) N8.out r7 st7 hown7 (fun j a b ha hb => ⟨(st8 j a b ha hb).1.fr (Fr.refl [] wc).drew (by simp) (fun _ h => h), (st8 j a b ha hb).2⟩)
                   have f6 : Fr [] w w6 := f5d.grown hgr7 (fun k hk => .inr (I5.a7.lt k hk).1)
                   have P6 := (hp.fr0 f6).c0
                   have P6a := (hp.fr0 (f6.alloc (.cells #[(.func (.func 35) #[Dp L] #[])] 78))).c0
                   clear I5d hg8d r7 st7 hown7 hgr7 hat7 f5d)
                | (have I6a := I6.fr0 ((Fr.refl [] w6).alloc (.cells #[(.func (.func 35) #[Dp L] #[])] 78))
                   have f6a := f6.alloc (.cells #[(.func (.func 35) #[Dp L] #[])] 78)
                   have hg6 := heap_alloc_new w6 (.cells #[(.func (.func 35) #[Dp L] #[])] 78)
                   obtain ⟨x7, r7, st7⟩ := I6a.a7.at_
                   refine step_append_at rfl _ _ 76 rfl w.heap.size 78 _ 8 Tryz.underlying76 fnInfo rfl (by decide) v7 (s9 ++ s8).length x7 rfl r7 w6.heap.size 1 [(.func (.func 35) #[Dp L] #[])] rfl _ _ _ hg6 (by intro j u hj; simpa using hj) (by simp [Value.oneCell']) (by simp; omega) f6a.size ?_
                   intro v77 w7 hown7 hgr7 hat7
                   have I7 := I6a.app7 hgr7 hat7 (ns := [.flush]) rfl r7 st7 hown7 (one_new (s := .flush) rfl trivial)
                   have f7 : Fr [] w w7 := f6a.grown hgr7 (fun k hk => .inr (I6.a7.lt k hk).1)
                   have P7 := (hp.fr0 f7).c0
                   clear I6a f6a hg6 r7 st7 hown7 hgr7 hat7)
                | (obtain ⟨x7, r7, st7⟩ := I6.a7.at_
                   refine step_append_at rfl _ _ 76 rfl w.heap.size 78 _ 8 Tryz.underlying76 fnInfo rfl (by decide) v7 (s9 ++ s8).length x7 rfl r7 wc.heap.size 1 [(.func (.func 35) #[Dp L] #[])] rfl _ _ _ hgF (by intro j u hj; simpa using hj) (by simp [Value.oneCell']) (by simp; omega) f6.size ?_
                   intro v77 w7 hown7 hgr7 hat7
                   have I7 := I6.app7 hgr7 hat7 (ns := [.flush]) rfl r7 st7 hown7 (one_new (s := .flush) rfl trivial)
                   have f7 : Fr [] w w7 := f6.grown hgr7 (fun k hk => .inr (I6.a7.lt k hk).1)
                   have P7 := (hp.fr0 f7).c0
                   clear r7 st7 hown7 hgr7 hat7)
                | (go_at_call 36
                   obtain ⟨x7, r7, st7⟩ := I7.a7.at_
                   refine (pRun_calls (base := w.heap.size) (B := w.heap.size) (h.fr0 f7) sts x7 (by rw [HE.out]; exact r7) (fun j a b ha hb => ⟨(st7 j a b ha (by rw [← HE.out]; exact hb)).1.at_ (fun k hk => (I7.hH k hk).1), (st7 j a b ha (by rw [← HE.out]; exact hb)).2⟩) hLB hLB (by omega)).mono ?_
                   rintro e w9 ⟨rfl, D9, f9⟩
                   have f9' : Fr L.all w w9 := f7.any.trans f9
                   have P9 := (hp.fr f9' hne).c0
                   clear r7 st7 f9)
                | (have I5d := (I5.fr0 (Fr.refl [] wc).drew).fr0 ((Fr.refl [] wc.drew).alloc (.cells #[(.func (.func 35) #[Dp L] #[])] 78))
                   have hg8d := ((Fr.refl [] wc).drew.alloc (.cells #[(.func (.func 35) #[Dp L] #[])] 78)).heap hg8 (by simp)
                   have f5d := f5.drew.alloc (.cells #[(.func (.func 35) #[Dp L] #[])] 78)
                   have hgF0 := heap_alloc_new wc.drew (.cells #[(.func (.func 35) #[Dp L] #[])] 78)
                   obtain ⟨x7, r7, st7⟩ := I5d.a7.at_
                   refine step_append_at rfl _ _ 76 rfl w.heap.size 78 _ 8 Tryz.underlying76 fnInfo rfl (by decide) u7 s9.length x7 rfl r7 g8 cap8 x8 (by rw [N8.out]; rfl) _ _ _ hg8d hn8 h18 (by rw [N8.out]; omega) f5d.size ?_
                   intro v7 w6 hown7 hgr7 hat7
                   have I6 := I5d.app7 hgr7 hat7 (ns := s8) N8.out r7 st7 hown7 (fun j a b ha hb => ⟨(st8 j a b ha hb).1.fr ((Fr.refl [] wc).drew.alloc (.cells #[(.func (.func 35) #[Dp L] #[])] 78)) (by simp) (fun _ h => h), (st8 j a b ha hb).2⟩)
                   have f6 : Fr [] w w6 := f5d.grown hgr7 (fun k hk => .inr (I5.a7.lt k hk).1)
                   have P6 := (hp.fr0 f6).c0
                   have hgF : w6.heap[wc.heap.size]? = some (.cells #[(.func (.func 35) #[Dp L] #[])] 78) := by
                     rw [hgr7.block wc.heap.size (by show wc.heap.size < (wc.alloc (.cells #[(.func (.func 35) #[Dp L] #[])] 78)).heap.size; rw [World.size_alloc]; exact Nat.lt_succ_self _) (fun e => Nat.lt_irrefl wc.heap.size (I5.a7.lt _ e.symm).2)]
                     exact hgF0
                   clear I5d hg8d r7 st7 hown7 hgr7 hat7 f5d hgF0))
            all_goals
              go_wp2_with fail
              go_meet
              exact ⟨rfl, D9, f9'⟩
          case rest =>
            obtain ⟨rfl, D9, f9⟩ := hcut
            clear I5 st8 N8 hn8 h18 hg8 HE q5 q6
            have Pz := hp.fr f9 hne
            have hpl := Pz.lt pl.b (by simp [PL.all])
            have hfz := Pz.f 3
            have hf1 := Pz.f 1
            have pc3 := Pz.c3
            have pc1 := Pz.c1
            have pc0 := Pz.c0
            have hg := HG.out
            rw [HST.out] at hg
            have HGG := Lib.hid hg
            clear hg HG
            generalize runAll d sts = x at D9 HGG ⊢
            by_cases hz : x.1 = 0
            · have hz' : (x.1 != 0) = false := by simpa using hz
              have hG := HGG.out
              rw [if_neg (by simpa using hz)] at hG
              subst hG
              go_wp2_with fail
              go_ret
              obtain ⟨q1, q2⟩ := Pz.setNumber D9 hne (p.number + 1) (by omega) (by omega)
              exact ⟨rfl, q1, by simpa [k1] using q2, (f9.mono (fun k hk => by simp [hk])).setCell (.inl (by simp)) _⟩
            · have hz' : (x.1 != 0) = true := by simpa using hz
              have hG := HGG.out
              rw [if_pos (by simpa using hz)] at hG
              subst hG
              go_wp2_with fail
              go_ret
              obtain ⟨q1, q2⟩ := Pz.setClosed D9 hne true
              exact ⟨rfl, q1, q2, (f9.mono (fun k hk => by simp [hk])).setCell (.inl (by simp)) _⟩
  · have R : give d p l = (check d p l, d, p) := by unfold give; rw [if_pos hc]
    rw [R]
    generalize check d p l = e0 at hck hc ⊢
    have hc' : (e0 != 0) = true := by simpa using hc
    clear R hc
    go_enter Tryz.func50, Tryz.ntmps50
    go_wp2_with fail
    refine hck.mono ?_
    rintro e w1 ⟨rfl, F1⟩
    go_wp2
    go_ret
    exact ⟨rfl, h.fr0 F1, hp.fr0 F1, F1.any⟩
end
end Go.Proofs.YtcnhlemenpgkbaaGreatDoor
