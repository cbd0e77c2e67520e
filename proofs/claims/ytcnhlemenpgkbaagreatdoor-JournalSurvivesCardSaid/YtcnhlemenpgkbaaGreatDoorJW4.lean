/- The pages of a stream, one after the other. -/
import Derived.Test.YtcnhlemenpgkbaaGreatDoorJW3
import Derived.Test.YtcnhlemenpgkbaaGreatDoorPages10
namespace Go.Proofs.YtcnhlemenpgkbaaGreatDoor
set_option linter.unusedSimpArgs false
set_option linter.unusedVariables false
set_option linter.unnecessarySimpa false
open Go.RowKit M

section
variable {F : Fence} {n : Nat} {P : Program} {ops : Array Oper} {Q : Exit → Act → World → Prop} {a : Act} {w : World} {rest : List Oper} {o : Oper}
theorem wpLI_val {v : Value} {w' : World} (hg : o.guard = none) (hc : o.about P w a.eval = none) (hd : ∀ c, o.op ≠ .defer c) (hrun : (execOp a.eval o).run P w = .ok (.value v) w') (h : wpListIn F n P ops Q rest (a.put o.dst v) w') : wpListIn F n P ops Q (o :: rest) a w := by
  refine wpListIn_plain hg fun K' hK' => ?_
  unfold Oper.wpIn
  refine ⟨fun f hf => (by rw [hc] at hf; cases hf), ?_⟩
  rw [Oper.semAt_plain F _ _ hd, hrun]
  exact hK' _ _ h
theorem wpLI_cat (hgd : o.guard = none) (x y : Operand) (T U : TypeId) (ho : o.op = .binOp .add T x y U) (s t : Bytes) (hx : a.eval x = .string ⟨s.toArray⟩) (hy : a.eval y = .string ⟨t.toArray⟩) (hl : s.length + t.length ≤ 1000000000)
    (h : wpListIn F n P ops Q rest (a.put o.dst (.string ⟨(s ++ t).toArray⟩)) w) : wpListIn F n P ops Q (o :: rest) a w := by
  refine wpLI_val hgd (by simp [Oper.about, ho]) (by rw [ho]; intro c hc; cases hc) ?_ h
  have h1 := run_string_add_sum (P := P) (w := w) ⟨s.toArray⟩ ⟨t.toArray⟩ (by show s.toArray.size + t.toArray.size ≤ _; simp; omega)
  rw [ByteArray.mk_append_mk] at h1
  have h2 : (eqGuard .add T x y (.string ⟨s.toArray⟩) (.string ⟨t.toArray⟩)).run P w = .ok () w := by simp [eqGuard]
  unfold execOp
  simp only [ho, hx, hy, Sem.run_bind, h2, Result.andThen_ok, binOp, h1, Sem.run_pure]
theorem wpLI_mid (hgd : o.guard = none) (T : TypeId) (x y z : Operand) (ho : o.op = .slice T x (some y) (some z) none) (hT : P.underlying T = some .string) (s : Bytes) (hx : a.eval x = .string ⟨s.toArray⟩) (m k : Nat) (hy : a.eval y = .int .i64 m) (hz : a.eval z = .int .i64 k) (hm : m ≤ k) (hn : k ≤ s.length)
    (h : wpListIn F n P ops Q rest (a.put o.dst (.string ⟨((s.take k).drop m).toArray⟩)) w) : wpListIn F n P ops Q (o :: rest) a w :=
  wpLI_val hgd (by simp [Oper.about, ho]) (by rw [ho]; intro c hc; cases hc) (run_strMid T x y z ho hT s hx m k hy hz hm hn) h
theorem wpLI_min (hgd : o.guard = none) (x y : Operand) (T U : TypeId) (ho : o.op = .call { callee := .builtin .min, args := #[x, y], argTypes := #[T, U] }) (m k : Nat) (hx : a.eval x = .int .i64 m) (hy : a.eval y = .int .i64 k)
    (h : wpListIn F n P ops Q rest (a.put o.dst (.int .i64 ((min m k : Nat) : Int))) w) : wpListIn F n P ops Q (o :: rest) a w := by
  refine wpLI_val hgd (by simp [Oper.about, ho, resolve, Target.leads, Sem.run_pure]) (by rw [ho]; intro c hc; cases hc) ?_ h
  have hrun : (Builtin.min_ #[T, U] o.type #[.int .i64 m, .int .i64 k]).run P w = .ok (.int .i64 ((min m k : Nat) : Int)) w := by
    have e : (if k < m then (k : Int) else (m : Int)) = ((min m k : Nat) : Int) := by split <;> omega
    simp [Builtin.min_, Builtin.min2, e]
  simp [execOp, ho, resolve, invoke, builtin, hx, hy, hrun, Result.andThen]
end

theorem repz_calls (z : Int) (h0 : 0 ≤ z) (h1 : z ≤ 1000) (w : World) : Calls Tryz.prog 52 #[.string ⟨#[0]⟩, .int .i64 z] w fun e w' => e = .returned (str (zeros z.toNat)) ∧ Fr [] w w' := by
  obtain ⟨m, rfl⟩ := Int.eq_ofNat_of_zero_le h0
  rw [Int.toNat_natCast]
  by_cases hm0 : m = 0
  · subst hm0
    refine (Tryz.strings_Repeat_zero ⟨#[0]⟩ w).mono ?_
    rintro e w' ⟨rfl, rfl⟩
    exact ⟨rfl, Fr.refl _ _⟩
  · by_cases hm1 : m = 1
    · subst hm1
      refine (Tryz.strings_Repeat_one ⟨#[0]⟩ w).mono ?_
      rintro e w' ⟨rfl, rfl⟩
      exact ⟨rfl, Fr.refl _ _⟩
    · have hsz : (ByteArray.mk #[0]).size = 1 := rfl
      refine (Tryz.strings_Repeat_main ⟨#[0]⟩ m w (by omega) (by omega) (by rw [hsz]; omega) (by rw [hsz]; omega)).mono ?_
      rintro e w' ⟨rfl, hb⟩
      refine ⟨?_, Fr.below hb⟩
      have : ∀ k, Lib.repeatL (ByteArray.mk #[0]).data.toList k = zeros k := by
        intro k
        induction k with
        | zero => rfl
        | succ k ih =>
          unfold Lib.repeatL
          rw [ih]
          rfl
      rw [this]

theorem zeros_len (n : Nat) : (zeros n).length = n := by simp [zeros]
theorem jPage_cell {w : World} {b : Nat} (half : Nat) (hh : half ≤ 4096) (c1 : w.cell? ⟨b, 1, none⟩ = some (.int .i64 half)) (bk k : Nat) (hb : bk ≤ 1) (hk : k ≤ 100000) : Calls Tryz.prog 42 #[.pointer (some ⟨b, 0, none⟩), .int .i64 bk, .int .i64 k] w fun e w' => e = .returned (.int .i64 ((1 + bk * half + k : Nat) : Int)) ∧ w' = w := by
  have hm : bk * half ≤ half := by
    rcases Nat.le_one_iff_eq_zero_or_eq_one.1 hb with rfl | rfl <;> omega
  have hm1 : (bk : Int) * (half : Int) = ((bk * half : Nat) : Int) := (Int.natCast_mul _ _).symm
  have hw : IntKind.i64.wrap ((bk : Int) * (half : Int)) = ((bk * half : Nat) : Int) := by rw [hm1]; exact IntWalk.i64_in _ (by omega)
  have HM := Lib.hid hm1
  clear hm1
  go_enter Tryz.func42, Tryz.ntmps42
  go_wp2
  go_ret
  exact ⟨ret_int (by omega), rfl⟩

theorem cut_mid (s : Bytes) (k : Nat) : (s.take (min s.length ((k + 1) * 116))).drop (k * 116) = J.cut s k := by
  unfold J.cut
  rw [List.drop_take]
  by_cases h : (k + 1) * 116 ≤ s.length
  · rw [Nat.min_eq_right h, show (k + 1) * 116 - k * 116 = 116 by omega]
  · rw [Nat.min_eq_left (by omega), List.take_of_length_le (by rw [List.length_drop]; omega), List.take_of_length_le (by rw [List.length_drop]; omega)]

/-- What a round of the loop keeps for the iterator. -/
def Kc (m b : Nat) (A B : World) : Prop := A.heap.size ≤ B.heap.size ∧ (∀ i, i < 4 → B.heap[m + i]? = A.heap[m + i]?) ∧ B.cell? ⟨b, 1, none⟩ = A.cell? ⟨b, 1, none⟩
theorem Kc.refl (m b : Nat) (A : World) : Kc m b A A := ⟨Nat.le_refl _, fun _ _ => rfl, rfl⟩
theorem Kc.trans {m b : Nat} {A B C : World} (h : Kc m b A B) (k : Kc m b B C) : Kc m b A C := ⟨Nat.le_trans h.1 k.1, fun i hi => (k.2.1 i hi).trans (h.2.1 i hi), k.2.2.trans h.2.2⟩
theorem Kc.fr {m b : Nat} {A B : World} {S : List Nat} (h : Fr S A B) (hm : m + 4 ≤ A.heap.size) (hb : b < A.heap.size) (hS : ∀ k ∈ S, (k < m ∨ m + 4 ≤ k) ∧ k ≠ b) : Kc m b A B :=
  ⟨h.size, fun i hi => h.block _ (by omega) (fun e => by have := (hS _ e).1; omega), World.cell?_of_block (h.block b hb (fun e => (hS _ e).2 rfl))⟩
theorem Kc.putObj {m b B : Nat} (hm : m + 4 ≤ B) (hb : b < B) (W : World) (l : Nat) (o o' : Obj) (hl : B ≤ l) (h : W.heap[l]? = some o) : Kc m b W (W.putObj l o') :=
  Kc.fr ((Fr.refl [l] W).putObj (.inl (by simp)) o') (by have := lt_of_heap' h; omega) (by have := lt_of_heap' h; omega) (fun k hk => by
    have e : k = l := by simpa using hk
    subst e
    exact ⟨by omega, by omega⟩)

def encP (x : PW) : Array Value := #[.agg #[.int .i64 x.1, str x.2]]
abbrev PW116 := { x : PW // x.2.length = 116 }
def encW (x : PW116) : Array Value := encP x.1
theorem pw116 : ∀ l : List PW, (∀ x ∈ l, x.2.length = 116) → ∃ xs : List PW116, xs.map (·.1) = l := fun l h =>
  ⟨l.attach.map fun x => ⟨x.1, h x.1 x.2⟩, by rw [List.map_map]; exact List.attach_map_subtype_val _⟩

section
variable {w : World} {jl : JL}

theorem jChanged_calls (bk a : Nat) (s : Bytes) (w : World) : Calls Tryz.prog 51 #[Jp jl, .int .i64 bk, str s, .int .i64 a] w fun e w' =>
    e = .returned (.func (.func 73) #[] #[.pointer (some ⟨w.heap.size + 3, 0, none⟩), .pointer (some ⟨w.heap.size + 2, 0, none⟩), .pointer (some ⟨w.heap.size, 0, none⟩), .pointer (some ⟨w.heap.size + 1, 0, none⟩)]) ∧
    w' = (((w.alloc (.cells #[Jp jl] 27)).alloc (.cells #[.int .i64 bk] 3)).alloc (.cells #[str s] 9)).alloc (.cells #[.int .i64 a] 3) := by
  go_enter Tryz.func51, Tryz.ntmps51
  go_wp2
  go_ret
  exact ⟨rfl, rfl⟩

set_option maxRecDepth 100000 in
set_option maxHeartbeats 1000000 in
theorem jChanged1_in (n : Nat) (hn : 1 ≤ n) (l m b : Nat) (half bk a : Nat) (s : Bytes) (hh : half ≤ 4096) (hbk : bk ≤ 1) (hs : s.length ≤ 500000) (ha : a ≤ 500000) (xs : List PW116) (hxs : xs.map (·.1) = J.writes half bk s a) (J' Jx : List PW116 → World → Prop) (W : World) (hJ : AbidesFrom W.heap.size J')
    (hY : ∀ pre x W1, J' pre W1 → pre.length < xs.length → YieldAt Fence.wide (n - 1) Tryz.prog l (encW x) W1 fun e W' =>
      (e = .returned (.bool true) ∧ J' (pre ++ [x]) W' ∧ Kc m b W1 W') ∨ (e = .returned (.bool false) ∧ Jx (pre ++ [x]) W'))
    (h1 : W.cell? ⟨m, 0, none⟩ = some (.pointer (some ⟨b, 0, none⟩))) (h2 : W.cell? ⟨m + 1, 0, none⟩ = some (.int .i64 bk)) (h3 : W.cell? ⟨m + 2, 0, none⟩ = some (str s)) (h4 : W.cell? ⟨m + 3, 0, none⟩ = some (.int .i64 a))
    (h5 : W.cell? ⟨b, 1, none⟩ = some (.int .i64 half)) (h0 : J' [] W) :
    CallsIn Fence.wide n Tryz.prog 73 #[.func (.yield l) #[] #[], .pointer (some ⟨m + 3, 0, none⟩), .pointer (some ⟨m + 2, 0, none⟩), .pointer (some ⟨m, 0, none⟩), .pointer (some ⟨m + 1, 0, none⟩)] W fun e W' => (∃ v, e = .returned v) ∧
      ((∃ ys, ys = xs ∧ J' ys W') ∨ (∃ pre, pre <+: xs ∧ Jx pre W')) := by
  have hlen : xs.length = J.pages s.length - a / 116 := by
    have h1 := congrArg List.length hxs
    rw [List.length_map, J.writes_length] at h1
    exact h1
  have hget : ∀ i (x : PW116), xs[i]? = some x → x.1 = (((1 + bk * half + (a / 116 + i) : Nat) : Int), J.chunk s (a / 116 + i)) ∧ (a / 116 + i) * 116 < s.length := fun i x hx => J.writes_get (by rw [← hxs, List.getElem?_map, hx]; rfl)
  have HX := Lib.hid hxs
  clear hxs
  refine callsIn_of_wp Tryz.func73 rfl trivial ?_ rfl
  simp only [Tryz.ntmps73, List.size_toArray, List.length_cons, List.length_nil, Nat.reduceAdd, Nat.reduceSub, Array.replicate_succ, Array.replicate_zero, List.push_toArray, List.append_toArray, List.nil_append, List.cons_append]
  gi_wp2_with fail
  gi_loopg [6] xs.length (fun kq i w' => ∃ k : Nat, i = .int .i64 ((a / 116 + k : Nat) : Int) ∧ k ≤ xs.length ∧ Hid (kq + k = xs.length) ∧ J' (xs.take k) w' ∧ Kc m b W w')
  case atStart => exact ⟨0, by simp, by omega, by simp [Hid], h0, Kc.refl _ _ _⟩
  case round =>
    obtain ⟨i, rfl, hi, hkq, hJs, hBl⟩ := hrel
    have r1 : wr.cell? ⟨m, 0, none⟩ = some (.pointer (some ⟨b, 0, none⟩)) := (World.cell?_of_block (hBl.2.1 0 (by omega))).trans h1
    have r2 : wr.cell? ⟨m + 1, 0, none⟩ = some (.int .i64 bk) := (World.cell?_of_block (hBl.2.1 1 (by omega))).trans h2
    have r3 : wr.cell? ⟨m + 2, 0, none⟩ = some (str s) := (World.cell?_of_block (hBl.2.1 2 (by omega))).trans h3
    have r5 : wr.cell? ⟨b, 1, none⟩ = some (.int .i64 half) := hBl.2.2.trans h5
    have hm4 : wr.cell? ⟨m + 3, 0, none⟩ = some (.int .i64 a) := (World.cell?_of_block (hBl.2.1 3 (by omega))).trans h4
    obtain ⟨k, hk⟩ : ∃ k, a / 116 + i = k := ⟨_, rfl⟩
    by_cases hlt : i < xs.length
    · have hx : xs[i]? = some xs[i] := List.getElem?_eq_getElem hlt
      obtain ⟨hx1, hx2⟩ := hget i _ hx
      rw [hk] at hx1 hx2 ⊢
      have hts := take_snoc hx
      generalize xs[i] = x at hx1 hx hts
      have hlk : (xs.take i).length < xs.length := by rw [List.length_take]; omega
      have hkk : k ≤ 100000 := by omega
      have hcl : (J.cut s k).length ≤ 116 := J.cut_length s k
      have hz := repz_calls (116 - ((J.cut s k).length : Int)) (by omega) (by omega)
      have hch : J.cut s k ++ zeros (116 - (J.cut s k).length) = J.chunk s k := rfl
      have hcm := cut_mid s k
      have hlt' : (k : Int) * 116 < (s.length : Int) := by omega
      have HT := Lib.hid hts
      have HXS := Lib.hid hx
      have HX1 : Hid (x.1 = (((1 + bk * half + k : Nat) : Int), J.chunk s k)) := hx1
      have HC := Lib.hid hch
      have HM := Lib.hid hcm
      clear hx hx1 hts hch hcm hget
      gi_wp2_with (first | (with_reducible refine wpLI_stop (o := ⟨_, .call { callee := .builtin .min, args := _, argTypes := _ }, _, _, _, none⟩) ?_) | (with_reducible refine wpLI_stop (o := ⟨_, .slice 9 _ _ _ _, _, _, _, none⟩) ?_) | (with_reducible refine wpLI_stop (o := ⟨_, .binOp .add 9 _ _ _, _, _, _, none⟩) ?_))
      refine unhold (wpLI_min rfl _ _ _ _ rfl s.length ((k + 1) * 116) rfl (by go_num) ?_)
      have hmn : k * 116 ≤ min s.length ((k + 1) * 116) := by omega
      have HMN : Hid (min s.length ((k + 1) * 116) ≤ s.length) := by unfold Hid; omega
      generalize min s.length ((k + 1) * 116) = mn at HM hmn HMN ⊢
      gi_wp2_with (first | (with_reducible refine wpLI_stop (o := ⟨_, .slice 9 _ _ _ _, _, _, _, none⟩) ?_))
      refine unhold (wpLI_mid rfl _ _ _ _ rfl Tryz.underlying9 s rfl (k * 116) mn (by go_num) rfl hmn (by have := HMN.out; omega) ?_)
      rw [HM.out]
      generalize J.cut s k = c at hcl hz HC
      gi_wp2_with (first | (with_reducible refine wpLI_stop (o := ⟨_, .binOp .add 9 _ _ _, _, _, _, none⟩) ?_) | (refine ⟨trivial, ?_⟩; gi_at_call 52; refine (callsIn_wide.2 (hz _)).mono ?_; rintro e w2 ⟨rfl, f2⟩))
      refine unhold (wpLI_cat rfl _ _ _ _ rfl c (zeros (116 - c.length)) rfl rfl (by have := zeros_len (116 - c.length); omega) ?_)
      rw [HC.out]
      have hcb : ∀ {x y : Nat} {v : Value}, wr.cell? ⟨x, y, none⟩ = some v → w2.cell? ⟨x, y, none⟩ = some v := fun h => (World.cell?_of_block (f2.block _ (World.block_lt_of_cell? _ _ h) (by simp))).trans h
      have s1 := hcb r1
      have s2 := hcb r2
      have s5 := hcb r5
      have hpg := jPage_cell half hh s5 bk k hbk (by omega)
      have hBl2 : Kc m b W w2 := hBl.trans ⟨f2.size, fun i hi => f2.block _ (by have := World.block_lt_of_cell? _ _ hm4; simp only at this; omega) (by simp), World.cell?_of_block (f2.block _ (World.block_lt_of_cell? _ _ r5) (by simp))⟩
      have hJ2 : J' (xs.take i) w2 := hJ _ _ _ none hJs f2.grown0 (fun r e => by cases e)
      obtain ⟨fn, tmps, assign, body, hy, hR⟩ := hY (xs.take i) x w2 hJ2 hlk
      have hx3 := HX1.out
      unfold encW at hy
      rw [hx3] at hy
      dsimp only [encP] at hy
      have HX3 := Lib.hid hx3
      clear hx3 HX1
      generalize J.chunk s k = ck at hy HX3 ⊢
      generalize 1 + bk * half + k = pg at hpg hy HX3
      gi_wp2_with (refine ⟨trivial, ?_⟩; gi_at_call 42; refine (callsIn_wide.2 hpg).mono ?_; rintro e w3 ⟨rfl, rfl⟩)
      refine hR.mono ?_
      rintro e W3 (⟨rfl, hJ3, hk3⟩ | ⟨rfl, hJx3⟩)
      · gi_wp2
        gi_roundg (gk - 1)
        case measure => have := hkq.out; omega
        case rel =>
          refine ⟨i + 1, by go_num, by omega, by have := hkq.out; unfold Hid; omega, ?_, hBl2.trans hk3⟩
          rw [HT.out]
          exact hJ3
      · gi_wp2
        refine bodyPost_ret (results_none rfl _ _ _) rfl ?_
        refine ⟨⟨_, rfl⟩, .inr ⟨xs.take i ++ [x], ?_, hJx3⟩⟩
        rw [← HT.out]
        exact List.take_prefix _ _
    · obtain rfl : i = xs.length := by omega
      rw [List.take_length] at hJs
      rw [hk]
      have hpg : J.pages s.length ≤ k := by omega
      have hkk : k ≤ 100000 := by
        have : xs.length ≤ J.pages s.length := by omega
        unfold J.pages at this
        omega
      unfold J.pages at hpg
      have hlt' : decide ((k : Int) * 116 < (s.length : Int)) = false := by simp; omega
      have hltN : decide (k * 116 < s.length) = false := by simp; omega
      gi_wp2
      go_end0
      exact ⟨⟨_, rfl⟩, .inl ⟨xs, rfl, hJs⟩⟩

theorem jChanged_stops (n : Nat) (hn : 1 ≤ n) (m b : Nat) (half bk a : Nat) (s : Bytes) (hh : half ≤ 4096) (hbk : bk ≤ 1) (hs : s.length ≤ 500000) (ha : a ≤ 500000) (xs : List PW116) (hxs : xs.map (·.1) = J.writes half bk s a)
    (h1 : w.cell? ⟨m, 0, none⟩ = some (.pointer (some ⟨b, 0, none⟩))) (h2 : w.cell? ⟨m + 1, 0, none⟩ = some (.int .i64 bk)) (h3 : w.cell? ⟨m + 2, 0, none⟩ = some (str s)) (h4 : w.cell? ⟨m + 3, 0, none⟩ = some (.int .i64 a))
    (h5 : w.cell? ⟨b, 1, none⟩ = some (.int .i64 half)) :
    SeqStopsK Fence.wide n Tryz.prog 73 #[.pointer (some ⟨m + 3, 0, none⟩), .pointer (some ⟨m + 2, 0, none⟩), .pointer (some ⟨m, 0, none⟩), .pointer (some ⟨m + 1, 0, none⟩)] encW (Kc m b) (fun ys => ys = xs) (fun pre => pre <+: xs) xs.length w := fun l J' Jx W hW hJ _ hY h0 =>
  have hc : ∀ {x y : Nat} {v : Value}, w.cell? ⟨x, y, none⟩ = some v → W.cell? ⟨x, y, none⟩ = some v := fun h => (hW.cell (World.block_lt_of_cell? _ _ h)).trans h
  jChanged1_in n hn l m b half bk a s hh hbk hs ha xs hxs J' Jx W hJ hY (hc h1) (hc h2) (hc h3) (hc h4) (hc h5) h0
end
end Go.Proofs.YtcnhlemenpgkbaaGreatDoor
