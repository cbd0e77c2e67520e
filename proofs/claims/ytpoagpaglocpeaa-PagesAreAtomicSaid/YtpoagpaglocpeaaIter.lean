/- Going over a map: each step hands out some entry that has not come yet, or ends when all have come. -/
import Derived.Test.YtpoagpaglocpeaaLaws2
namespace Go.Proofs.Ytpoagpaglocpeaa
set_option linter.unusedSimpArgs false
set_option linter.unusedVariables false
set_option linter.unnecessarySimpa false
open Go.RowKit M

section
variable {P : Program} {ops : Array Oper} {Q : Exit → Act → World → Prop} {a : Act} {w : World} {rest : List Oper} {o : Oper}

theorem run_choose_any (n : Nat) (hn : 0 < n) : ∃ k w1, k < n ∧ (w1 = w ∨ w1 = w.drew) ∧ (choose (.mapNext n)).run P w = .ok k w1 := by
  by_cases h : n ≤ 1
  · refine ⟨0, w, hn, .inl rfl, ?_⟩
    simp [choose, Sem.run, Question.forced, h]
  · refine ⟨w.tape w.drawn (.mapNext n) % n, w.drew, Nat.mod_lt _ hn, .inr rfl, ?_⟩
    simp [choose, Sem.run, Question.forced, Question.cut, h]

theorem run_getObj_iter {r : Nat} {m : Option Nat} {s : Nat} {seen : Array Nat} {c : Nat} (h : w.heap[r]? = some (.mapIter m s seen c)) : (getObj r).run P w = .ok (.mapIter m s seen c) w := by
  simp [getObj, Sem.run, h]
theorem run_setObj_iter {r : Nat} {m : Option Nat} {s : Nat} {seen : Array Nat} {c : Nat} (h : w.heap[r]? = some (.mapIter m s seen c)) (o' : Obj) : (setObj r o').run P w = .ok () (w.putObj r o') := by
  simp [setObj, Sem.run, h, World.putObj]

theorem run_next_map {es : List MapEntry} {c m r : Nat} {done : List Nat} (T : TypeId) (hm : w.heap[m]? = some (.map es.toArray c)) (hit : w.heap[r]? = some (.mapIter (some m) c done.toArray c)) (hy : ∀ e ∈ es, e.born < c) :
    ((∀ e ∈ es, e.born ∈ done) ∧ (Instr.next (.pointer (some ⟨r, 0, none⟩)) false T).run P w = .ok (.tuple #[.bool false]) w) ∨
    (∃ e w1, e ∈ es ∧ e.born ∉ done ∧ (w1 = w ∨ w1 = w.drew) ∧
      (Instr.next (.pointer (some ⟨r, 0, none⟩)) false T).run P w = .ok (.tuple #[.bool true, e.key, e.val]) (w1.putObj r (.mapIter (some m) c (done ++ [e.born]).toArray c))) := by
  have hg : (!(done.toArray).isEmpty && !(es.toArray).isEmpty && es.toArray.all fun x => decide (x.born ≥ c)) = false := by
    cases es with
    | nil => simp
    | cons e es =>
      have := hy e (by simp)
      simp only [List.all_toArray, List.all_cons, Bool.and_eq_false_iff, decide_eq_false_iff_not]
      exact .inr (.inl (by omega))
  let left := es.filter fun e => !done.contains e.born
  have hleft : (es.toArray.filter fun e => !(done.toArray).contains e.born) = left.toArray := by simp [left]
  have hly : ∀ e ∈ left, e.born < c := fun e he => hy e ((List.mem_filter.1 he).1)
  have hold : left.toArray.filter (fun e => decide (e.born < c)) = left.toArray := by
    rw [List.filter_toArray, List.filter_eq_self.2 (fun e he => by simpa using hly e he)]
  have hnew : left.toArray.filter (fun e => decide (e.born ≥ c)) = #[] := by
    rw [List.filter_toArray, List.filter_eq_nil_iff.2 (fun e he => by have := hly e he; simpa using this)]
  cases hl : left with
  | nil =>
    refine .inl ⟨fun e he => ?_, ?_⟩
    · have := List.filter_eq_nil_iff.1 hl e he
      simpa using this
    · rw [hl] at hleft hold hnew
      simp only [Instr.next, Sem.run_bind, run_getObj_iter hit, run_getObj_map hm, Result.andThen_ok, hg, hleft, hold, hnew]
      simp [choose, Sem.run, Question.forced, Sem.run_bind]
  | cons x xs =>
    have hpos : 0 < left.length := by rw [hl]; simp
    obtain ⟨k, w1, hk, hw1, hch⟩ := run_choose_any (P := P) (w := w) left.length hpos
    refine .inr ⟨left[k], w1, (List.mem_filter.1 (List.getElem_mem hk)).1, ?_, hw1, ?_⟩
    · have := (List.mem_filter.1 (List.getElem_mem hk)).2
      simpa using this
    · have hempty : left.toArray.isEmpty = false := by rw [hl]; rfl
      have hcand : ((if left.toArray.isEmpty = true then #[(none : Option MapEntry)] else #[]) ++ (left.toArray ++ #[]).map some) = (left.map some).toArray := by
        rw [hempty]; simp
      have hit1 : w1.heap[r]? = some (.mapIter (some m) c done.toArray c) := by rcases hw1 with rfl | rfl <;> exact hit
      simp only [Instr.next, Sem.run_bind, run_getObj_iter hit, run_getObj_map hm, Result.andThen_ok, hg, hleft, hold, hnew, hcand]
      have hsz : (left.map some).toArray.size = left.length := by simp
      rw [hsz]
      simp only [Bool.false_eq_true, if_false, Sem.run_bind, Result.andThen_ok, hch]
      have hget : (left.map some).toArray[k]? = some (some left[k]) := by simp [hk]
      rw [hget]
      simp [run_setObj_iter hit1]

theorem find_born {e : MapEntry} : ∀ {es : List MapEntry}, e ∈ es → (es.map (·.born)).Nodup → es.find? (fun x => x.born == e.born) = some e
  | [], he, _ => by simp at he
  | y :: ys, he, hn => by
    simp only [List.map_cons, List.nodup_cons] at hn
    rw [List.find?_cons]
    rcases List.mem_cons.1 he with rfl | he'
    · simp
    · have : y.born ≠ e.born := fun e' => hn.1 (e' ▸ List.mem_map_of_mem (f := fun x : MapEntry => x.born) he')
      have h2 : (y.born == e.born) = false := by simpa using this
      rw [h2]
      exact find_born he' hn.2

theorem run_entry_map {es : List MapEntry} {c m r : Nat} {done : List Nat} {e : MapEntry} (hm : w.heap[m]? = some (.map es.toArray c)) (hit : w.heap[r]? = some (.mapIter (some m) c (done ++ [e.born]).toArray c))
    (he : e ∈ es) (hn : (es.map (·.born)).Nodup) : (Instr.entry (.pointer (some ⟨r, 0, none⟩))).run P w = .ok (.tuple #[e.key, e.val]) w := by
  have hf : es.toArray.find? (fun x => x.born == e.born) = some e := by
    rw [List.find?_toArray]
    exact find_born he hn
  have hb : (done ++ [e.born]).toArray.back? = some e.born := by simp
  simp only [Instr.entry, Sem.run_bind, run_getObj_iter hit, Result.andThen_ok, hb, run_getObj_map hm]
  simp [hf]

theorem wpL_range (hgd : o.guard = none) (T : TypeId) (x : Operand) (ho : o.op = .range T x) (K E : TypeId) (hT : P.underlying T = some (.map K E)) (m : Nat) (hx : a.eval x = .map (some m)) (es : Array MapEntry) (c : Nat)
    (hm : w.heap[m]? = some (.map es c))
    (h : ∀ w', w'.heap[w.heap.size]? = some (.mapIter (some m) c #[] c) → Fr [] w w' → w'.heap.size = w.heap.size + 1 → wpList P ops Q rest (a.put o.dst (.pointer (some ⟨w.heap.size, 0, none⟩))) w') : wpList P ops Q (o :: rest) a w := by
  refine wpL_val hgd (w' := w.alloc (.mapIter (some m) c #[] c)) ?_ (h _ (heap_alloc_new _ _) ((Fr.refl _ _).alloc _) (by simp))
  unfold execOp
  simp only [ho, hx, Instr.range, Sem.run_bind, run_underlying hT, Result.andThen_ok, run_getObj_map hm, Sem.run_pure]
  rfl

theorem wpL_next (hgd : o.guard = none) (x : Operand) (ho : o.op = .next x false) (r m : Nat) (hx : a.eval x = .pointer (some ⟨r, 0, none⟩)) (es : List MapEntry) (c : Nat) (done : List Nat)
    (hm : w.heap[m]? = some (.map es.toArray c)) (hit : w.heap[r]? = some (.mapIter (some m) c done.toArray c)) (hy : ∀ e ∈ es, e.born < c)
    (h0 : (∀ e ∈ es, e.born ∈ done) → wpList P ops Q rest (a.put o.dst (.tuple #[.bool false])) w)
    (h1 : ∀ e w', e ∈ es → e.born ∉ done → w'.heap[r]? = some (.mapIter (some m) c (done ++ [e.born]).toArray c) → Fr [r] w w' → w'.heap.size = w.heap.size → wpList P ops Q rest (a.put o.dst (.tuple #[.bool true, e.key, e.val])) w') :
    wpList P ops Q (o :: rest) a w := by
  rcases run_next_map (P := P) (w := w) o.type hm hit hy with ⟨hall, hrun⟩ | ⟨e, w1, he, hne, hw1, hrun⟩
  · refine wpL_val hgd ?_ (h0 hall)
    unfold execOp
    simp only [ho, hx, Sem.run_bind, hrun, Result.andThen_ok, Sem.run_pure]
  · refine wpL_val hgd (v := .tuple #[.bool true, e.key, e.val]) (w' := w1.putObj r (.mapIter (some m) c (done ++ [e.born]).toArray c)) ?_ ?_
    · unfold execOp
      simp only [ho, hx, Sem.run_bind, hrun, Result.andThen_ok, Sem.run_pure]
    · have hsz : w1.heap.size = w.heap.size := by rcases hw1 with rfl | rfl <;> rfl
      have hf : Fr [r] w w1 := by
        rcases hw1 with rfl | rfl
        · exact Fr.refl _ _
        · exact (Fr.refl _ _).drew
      exact h1 e _ he hne (World.putObj_heap_same (by rw [hsz]; exact lt_of_heap hit)) (hf.putObj (.inl (by simp)) _) (by simp [hsz])

theorem wpL_entry (hgd : o.guard = none) (x : Operand) (ho : o.op = .entry x) (r m : Nat) (hx : a.eval x = .pointer (some ⟨r, 0, none⟩)) (es : List MapEntry) (c : Nat) (done : List Nat) (e : MapEntry)
    (hm : w.heap[m]? = some (.map es.toArray c)) (hit : w.heap[r]? = some (.mapIter (some m) c (done ++ [e.born]).toArray c)) (he : e ∈ es) (hn : (es.map (·.born)).Nodup)
    (h : wpList P ops Q rest (a.put o.dst (.tuple #[e.key, e.val])) w) : wpList P ops Q (o :: rest) a w := by
  refine wpL_val hgd ?_ h
  unfold execOp
  simp only [ho, hx, Sem.run_bind, run_entry_map hm hit he hn, Result.andThen_ok, Sem.run_pure]

theorem wpL_clear_map (hgd : o.guard = none) (x : Operand) (T : TypeId) (ho : o.op = .call { callee := .builtin .clear, args := #[x], argTypes := #[T] }) (hdst : o.dst = none) (K E : TypeId) (hT : P.underlying T = some (.map K E)) (m : Nat) (hx : a.eval x = .map (some m)) (es : Array MapEntry) (c : Nat)
    (hm : w.heap[m]? = some (.map es c))
    (h : ∀ w', w'.heap[m]? = some (.map #[] c) → Fr [m] w w' → w'.heap.size = w.heap.size → wpList P ops Q rest a w') : wpList P ops Q (o :: rest) a w := by
  refine wpL_val hgd (v := .tuple #[]) (w' := w.putObj m (.map #[] c)) ?_ ?_
  · have hrun : (Builtin.clear_ #[T] o.type #[.map (some m)]).run P w = .ok (.tuple #[]) (w.putObj m (.map #[] c)) := by
      simp [Builtin.clear_, Sem.run_bind, run_underlying hT, run_getObj_map hm, run_setObj_map hm]
    simp [execOp, ho, resolve, invoke, builtin, hx, hrun, Result.andThen]
  · rw [hdst]
    exact h _ (World.putObj_heap_same (lt_of_heap hm)) ((Fr.refl _ _).putObj (.inl (by simp)) _) (by simp)

end

/-- How many are still to come. -/
def leftN : List Nat → List Nat → Nat
  | [], _ => 0
  | b :: bs, done => (if b ∈ done then 0 else 1) + leftN bs done
theorem leftN_le (x : Nat) : ∀ (bs done : List Nat), leftN bs (done ++ [x]) ≤ leftN bs done
  | [], _ => Nat.le_refl _
  | b :: bs, done => by
    have ih := leftN_le x bs done
    unfold leftN
    by_cases h1 : b ∈ done
    · rw [if_pos h1, if_pos (by simp [h1])]; omega
    · rw [if_neg h1]; split <;> omega
theorem leftN_lt : ∀ {bs done : List Nat} {b : Nat}, b ∈ bs → b ∉ done → leftN bs (done ++ [b]) < leftN bs done
  | [], _, _, h, _ => by simp at h
  | x :: bs, done, b, h, hn => by
    have hle := leftN_le b bs done
    unfold leftN
    by_cases hx : x = b
    · subst hx
      rw [if_neg hn, if_pos (by simp)]; omega
    · have hb : b ∈ bs := by simpa [Ne.symm hx] using h
      have ih := leftN_lt hb hn
      by_cases h1 : x ∈ done
      · rw [if_pos h1, if_pos (by simp [h1])]; omega
      · rw [if_neg h1, if_neg (by simp [h1, hx])]; omega

end Go.Proofs.Ytpoagpaglocpeaa
