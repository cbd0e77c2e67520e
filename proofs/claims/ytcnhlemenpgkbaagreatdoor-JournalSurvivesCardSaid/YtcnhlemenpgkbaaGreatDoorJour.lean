/- Plain law of the journal: its stream on the pages of a bank, its head. -/
import Derived.Test.YtcnhlemenpgkbaaGreatDoorAtom
namespace Go.Proofs.YtcnhlemenpgkbaaGreatDoor
set_option linter.unusedSimpArgs false
set_option linter.unusedVariables false
set_option linter.unnecessarySimpa false
open M
namespace J

def piece (r : Bytes) : Bytes := le 2 r.length ++ r
def stream (l : List Bytes) : Bytes := l.flatMap piece
def head (bank used count : Nat) : Bytes := (le 1 bank ++ (le 4 used ++ le 4 count)) ++ zeros 107
def cut (s : Bytes) (k : Nat) : Bytes := (s.drop (k * 116)).take 116
def chunk (s : Bytes) (k : Nat) : Bytes := cut s k ++ zeros (116 - (cut s k).length)
/-- How many pages some bytes take. -/
def pages (n : Nat) : Nat := (n + 115) / 116
def writes (half bank : Nat) (s : Bytes) (a : Nat) : List PW := ((List.range (pages s.length)).drop (a / 116)).map fun k => (((1 + bank * half + k : Nat) : Int), chunk s k)

theorem cut_length (s : Bytes) (k : Nat) : (cut s k).length ≤ 116 := by simp [cut]; omega
theorem chunk_length (s : Bytes) (k : Nat) : (chunk s k).length = 116 := by
  have := cut_length s k
  simp [chunk, zeros]
  omega
theorem head_length (b u c : Nat) : (head b u c).length = 116 := by simp [head, le_length, zeros]
theorem stream_nil : stream [] = [] := rfl
theorem stream_cons (r : Bytes) (l : List Bytes) : stream (r :: l) = piece r ++ stream l := rfl
theorem stream_snoc (l : List Bytes) (r : Bytes) : stream (l ++ [r]) = stream l ++ piece r := by simp [stream]
theorem stream_count : ∀ l : List Bytes, 2 * l.length ≤ (stream l).length
  | [] => by simp
  | r :: l => by
    have := stream_count l
    simp only [stream_cons, List.length_append, piece, le_length, List.length_cons]
    omega

/-- The records lie on the pages. -/
structure Lies (c : List Bytes) (half bank : Nat) (l : List Bytes) : Prop where
  len : 2 * half + 1 ≤ c.length
  size : ∀ s ∈ c, s.length = 116
  bk : bank ≤ 1
  fits : (stream l).length ≤ half * 116
  recs : ∀ r ∈ l, r.length ≤ 8000
  h : c[0]? = some (head bank (stream l).length l.length)
  pg : ∀ k, k * 116 < (stream l).length → ∃ s, c[1 + bank * half + k]? = some s ∧ s.take ((stream l).length - k * 116) = cut (stream l) k

/-- The bytes of some pages of a bank, one behind the other. -/
def cat (c : List Bytes) (half bank : Nat) (m : Nat) : Bytes := (List.range m).flatMap fun k => c.getD (1 + bank * half + k) []
theorem cat_succ (c : List Bytes) (half bank m : Nat) : cat c half bank (m + 1) = cat c half bank m ++ c.getD (1 + bank * half + m) [] := by simp [cat, List.range_succ]

theorem Lies.cat_full {c : List Bytes} {half bank : Nat} {l : List Bytes} (h : Lies c half bank l) : ∀ m, m * 116 ≤ (stream l).length → cat c half bank m = (stream l).take (m * 116)
  | 0, _ => by simp [cat]
  | m + 1, hm => by
    obtain ⟨s, hs, ht⟩ := h.pg m (by omega)
    have h116 := h.size s (List.mem_of_getElem? hs)
    rw [List.take_of_length_le (by omega)] at ht
    rw [cat_succ, h.cat_full m (by omega), getD_some hs, ht]
    unfold cut
    rw [show (m + 1) * 116 = m * 116 + 116 by omega, List.take_add]
theorem Lies.cat_all {c : List Bytes} {half bank : Nat} {l : List Bytes} (h : Lies c half bank l) : (cat c half bank (pages (stream l).length)).take (stream l).length = stream l := by
  by_cases hz : (stream l).length % 116 = 0
  · have e : pages (stream l).length * 116 = (stream l).length := by unfold pages; omega
    rw [h.cat_full _ (by omega), e, List.take_take, Nat.min_self, List.take_length]
  · obtain ⟨m, hm⟩ : ∃ m, (stream l).length / 116 = m := ⟨_, rfl⟩
    have e : pages (stream l).length = m + 1 := by unfold pages; omega
    obtain ⟨s, hs, ht⟩ := h.pg m (by omega)
    rw [e, cat_succ, h.cat_full m (by omega), getD_some hs, List.take_append, List.take_take, List.length_take, Nat.min_eq_left (show m * 116 ≤ (stream l).length by omega), ht]
    unfold cut
    rw [Nat.min_eq_right (by omega), List.take_of_length_le (show ((stream l).drop (m * 116)).length ≤ 116 by rw [List.length_drop]; omega), List.take_append_drop]
theorem Lies.cat_length {c : List Bytes} {half bank : Nat} {l : List Bytes} (h : Lies c half bank l) : (stream l).length ≤ (cat c half bank (pages (stream l).length)).length := by
  have := congrArg List.length h.cat_all
  rw [List.length_take] at this
  omega

/-- The next record of a stream. -/
theorem next_num (r s : Bytes) (h : r.length ≤ 8000) : num ((piece r ++ s).take 2) = r.length ∧ (piece r ++ s).drop 2 = r ++ s := by
  unfold piece
  rw [List.append_assoc, List.take_left' (le_length 2 _), List.drop_left' (le_length 2 _)]
  exact ⟨num_le 2 _ (by omega), rfl⟩

/-- The page writes of a stream: what they are. -/
theorem writes_get {half bank : Nat} {s : Bytes} {a : Nat} {i : Nat} {x : PW} (h : (writes half bank s a)[i]? = some x) : x = (((1 + bank * half + (a / 116 + i) : Nat) : Int), chunk s (a / 116 + i)) ∧ (a / 116 + i) * 116 < s.length := by
  unfold writes at h
  rw [List.getElem?_map, List.getElem?_drop] at h
  by_cases hi : a / 116 + i < pages s.length
  · rw [List.getElem?_range hi] at h
    exact ⟨(Option.some.inj h).symm, by unfold pages at hi; omega⟩
  · rw [List.getElem?_eq_none (by simpa using hi)] at h
    cases h
theorem writes_some {half bank : Nat} {s : Bytes} {a : Nat} {k : Nat} (h1 : a / 116 ≤ k) (h2 : k * 116 < s.length) : (writes half bank s a)[k - a / 116]? = some (((1 + bank * half + k : Nat) : Int), chunk s k) := by
  unfold writes
  rw [List.getElem?_map, List.getElem?_drop, show a / 116 + (k - a / 116) = k by omega, List.getElem?_range (by unfold pages; omega)]
  rfl
theorem writes_length (half bank : Nat) (s : Bytes) (a : Nat) : (writes half bank s a).length = pages s.length - a / 116 := by simp [writes]

/-- What is written fits the records that lie there. -/
structure Fits (half bank bank' : Nat) (l : List Bytes) (s' : Bytes) (a : Nat) : Prop where
  b' : bank' ≤ 1
  fits : s'.length ≤ half * 116
  case : (bank' = bank ∧ a = (stream l).length ∧ s'.take (stream l).length = stream l) ∨ (bank' ≠ bank ∧ a = 0)

theorem Fits.page {half bank bank' : Nat} {l : List Bytes} {s' : Bytes} {a : Nat} (h : Fits half bank bank' l s' a) {i : Nat} {x : PW} (hx : (writes half bank' s' a)[i]? = some x) : 1 ≤ x.1 ∧ x.1 < 2 * half + 1 ∧ x.2.length = 116 := by
  obtain ⟨rfl, hk⟩ := writes_get hx
  refine ⟨by simp only; omega, ?_, chunk_length _ _⟩
  have h1 := h.fits
  have h2 := h.b'
  have : bank' * half ≤ half := by
    rcases Nat.le_one_iff_eq_zero_or_eq_one.1 h2 with rfl | rfl <;> omega
  simp only
  omega
theorem Fits.inc {half bank bank' : Nat} {l : List Bytes} {s' : Bytes} {a : Nat} (_h : Fits half bank bank' l s' a) : (writes half bank' s' a).Pairwise fun x y => x.1 < y.1 := by
  rw [List.pairwise_iff_getElem]
  intro i j hi hj hij
  have e1 := (writes_get (List.getElem?_eq_getElem hi)).1
  have e2 := (writes_get (List.getElem?_eq_getElem hj)).1
  rw [e1, e2]
  simp only
  omega

theorem changed_size {c : List Bytes} (hc : ∀ s ∈ c, s.length = 116) : ∀ (b : List PW) , (∀ x ∈ b, x.2.length = 116) → ∀ s ∈ changed c b, s.length = 116
  | [], _ => hc
  | x :: b, hb => by
    show ∀ s ∈ changed (if 0 ≤ x.1 ∧ x.1 < (c.length : Int) then c.set x.1.toNat x.2 else c) b, s.length = 116
    refine changed_size (c := if 0 ≤ x.1 ∧ x.1 < (c.length : Int) then c.set x.1.toNat x.2 else c) ?_ b (fun y hy => hb y (by simp [hy]))
    intro s hs
    split at hs
    · rcases List.mem_or_eq_of_mem_set hs with hs | rfl
      · exact hc s hs
      · exact hb x (by simp)
    · exact hc s hs
/-- A page behind a batch. -/
theorem changed_get {c : List Bytes} {b : List PW} (hp : b.Pairwise fun x y => x.1 < y.1) (h0 : ∀ x ∈ b, 0 ≤ x.1 ∧ x.1 < (c.length : Int)) (i : Nat) : (∃ x ∈ b, x.1 = (i : Int) ∧ (changed c b)[i]? = some x.2) ∨ ((∀ x ∈ b, x.1 ≠ (i : Int)) ∧ (changed c b)[i]? = c[i]?) := by
  by_cases h : ∃ x ∈ b, x.1 = (i : Int)
  · obtain ⟨x, hx, e⟩ := h
    have := changed_new b c x hp hx (h0 x hx).1 (h0 x hx).2
    rw [show x.1.toNat = i by omega] at this
    exact .inl ⟨x, hx, e, this⟩
  · have h' : ∀ x ∈ b, x.1 ≠ (i : Int) := fun x hx e => h ⟨x, hx, e⟩
    exact .inr ⟨h', changed_other b c i h'⟩

theorem chunk_take (s : Bytes) (k n : Nat) (h : n ≤ (cut s k).length) : (chunk s k).take n = (cut s k).take n := by
  unfold chunk
  rw [List.take_append_of_le_length h]

/-- So far: the old records still lie there, and the first m of the new pages stand. -/
structure Prog (c : List Bytes) (half bank : Nat) (l : List Bytes) (ws : List PW) (m : Nat) : Prop where
  old : Lies c half bank l
  new : ∀ i x, i < m → ws[i]? = some x → c[x.1.toNat]? = some x.2

theorem Prog.start {c : List Bytes} {half bank : Nat} {l : List Bytes} (h : Lies c half bank l) (ws : List PW) : Prog c half bank l ws 0 := ⟨h, fun i x hi => by omega⟩

/-- A portion of the new pages is written. -/
theorem Prog.put {c : List Bytes} {half bank bank' : Nat} {l : List Bytes} {s' : Bytes} {a m n : Nat} (h : Prog c half bank l (writes half bank' s' a) m) (hf : Fits half bank bank' l s' a) (hmn : m ≤ n) :
    Prog (changed c (((writes half bank' s' a).take n).drop m)) half bank l (writes half bank' s' a) n := by
  generalize hb : ((writes half bank' s' a).take n).drop m = b
  have hmem : ∀ x ∈ b, ∃ i, m ≤ i ∧ i < n ∧ (writes half bank' s' a)[i]? = some x := by
    intro x hx
    subst hb
    obtain ⟨i, hi⟩ := List.getElem?_of_mem hx
    rw [List.getElem?_drop] at hi
    have := (List.getElem?_eq_some_iff.1 hi).1
    rw [List.length_take] at this
    rw [List.getElem?_take, if_pos (by omega)] at hi
    exact ⟨m + i, by omega, by omega, hi⟩
  have hinc : b.Pairwise fun x y => x.1 < y.1 := by subst hb; exact (hf.inc.sublist (List.take_sublist _ _)).sublist (List.drop_sublist _ _)
  have hlen := h.old.len
  have hin : ∀ x ∈ b, 0 ≤ x.1 ∧ x.1 < (c.length : Int) := by
    intro x hx
    obtain ⟨i, _, _, hi⟩ := hmem x hx
    have := hf.page hi
    omega
  have hsz : ∀ x ∈ b, x.2.length = 116 := fun x hx => by obtain ⟨i, _, _, hi⟩ := hmem x hx; exact (hf.page hi).2.2
  have hget := changed_get hinc hin
  refine ⟨⟨by rw [changed_length]; exact hlen, changed_size h.old.size b hsz, h.old.bk, h.old.fits, h.old.recs, ?_, ?_⟩, ?_⟩
  · rcases hget 0 with ⟨x, hx, e, _⟩ | ⟨_, e⟩
    · obtain ⟨i, _, _, hi⟩ := hmem x hx
      have := hf.page hi
      omega
    · rw [e]; exact h.old.h
  · intro k hk
    rcases hget (1 + bank * half + k) with ⟨x, hx, e, hc⟩ | ⟨_, hc⟩
    · refine ⟨x.2, hc, ?_⟩
      obtain ⟨i, _, _, hi⟩ := hmem x hx
      obtain ⟨rfl, hi2⟩ := writes_get hi
      simp only at e ⊢
      have hfo := h.old.fits
      have hkh : k < half := by omega
      rcases hf.case with ⟨rfl, rfl, hpre⟩ | ⟨hne, rfl⟩
      · have hik : (stream l).length / 116 + i = k := by omega
        rw [hik] at hi2 ⊢
        have hr : (stream l).length - k * 116 < 116 := by omega
        have hsl : (stream l).length ≤ s'.length := by
          have := congrArg List.length hpre
          rw [List.length_take] at this
          omega
        have hcl : (stream l).length - k * 116 ≤ (cut s' k).length := by unfold cut; rw [List.length_take, List.length_drop]; omega
        rw [chunk_take s' k _ hcl]
        unfold cut
        rw [List.take_take, Nat.min_eq_left (by omega)]
        have e2 : (stream l).drop (k * 116) = (s'.drop (k * 116)).take ((stream l).length - k * 116) := by
          rw [← List.drop_take]
          rw [hpre]
        rw [← e2, List.take_of_length_le (by rw [List.length_drop]; omega)]
      · exfalso
        have hb1 := hf.b'
        have hb2 := h.old.bk
        have hf1 := hf.fits
        rcases Nat.le_one_iff_eq_zero_or_eq_one.1 hb1 with rfl | rfl <;> rcases Nat.le_one_iff_eq_zero_or_eq_one.1 hb2 with rfl | rfl
        · exact hne rfl
        · omega
        · omega
        · exact hne rfl
    · rw [hc]; exact h.old.pg k hk
  · intro i x hi hx
    rcases hget x.1.toNat with ⟨y, hy, e, hc⟩ | ⟨hno, hc⟩
    · obtain ⟨j, _, _, hj⟩ := hmem y hy
      have h1 := (writes_get hx).1
      have h2 := (writes_get hj).1
      have hp := hf.page hx
      have : i = j := by
        rw [h2] at e
        rw [h1] at e
        simp only at e
        omega
      subst this
      rw [hx] at hj
      rw [hc, Option.some.inj hj]
    · rw [hc]
      by_cases him : i < m
      · exact h.new i x him hx
      · exfalso
        refine hno x ?_ (by have := hf.page hx; omega)
        subst hb
        refine List.mem_of_getElem? (i := i - m) ?_
        rw [List.getElem?_drop, List.getElem?_take, if_pos (by omega), show m + (i - m) = i by omega]
        exact hx

/-- The head and the last pages are written at once: the new records lie there. -/
theorem Prog.finish {c : List Bytes} {half bank bank' : Nat} {l l' : List Bytes} {a m : Nat} (h : Prog c half bank l (writes half bank' (stream l') a) m) (hf : Fits half bank bank' l (stream l') a) (hr : ∀ r ∈ l', r.length ≤ 8000) :
    Lies (changed c ((0, head bank' (stream l').length l'.length) :: (writes half bank' (stream l') a).drop m)) half bank' l' := by
  generalize hb : (0, head bank' (stream l').length l'.length) :: (writes half bank' (stream l') a).drop m = b
  have hlen := h.old.len
  have hmem : ∀ x ∈ b, x = (0, head bank' (stream l').length l'.length) ∨ ∃ i, m ≤ i ∧ (writes half bank' (stream l') a)[i]? = some x := by
    intro x hx
    subst hb
    rcases List.mem_cons.1 hx with e | hx
    · exact .inl e
    · obtain ⟨i, hi⟩ := List.getElem?_of_mem hx
      rw [List.getElem?_drop] at hi
      exact .inr ⟨m + i, by omega, hi⟩
  have hinc : b.Pairwise fun x y => x.1 < y.1 := by
    subst hb
    refine List.Pairwise.cons ?_ (hf.inc.sublist (List.drop_sublist _ _))
    intro y hy
    obtain ⟨i, hi⟩ := List.getElem?_of_mem hy
    rw [List.getElem?_drop] at hi
    have := hf.page hi
    simp only
    omega
  have hin : ∀ x ∈ b, 0 ≤ x.1 ∧ x.1 < (c.length : Int) := by
    intro x hx
    rcases hmem x hx with rfl | ⟨i, _, hi⟩
    · simp only; omega
    · have := hf.page hi; omega
  have hsz : ∀ x ∈ b, x.2.length = 116 := by
    intro x hx
    rcases hmem x hx with rfl | ⟨i, _, hi⟩
    · exact head_length _ _ _
    · exact (hf.page hi).2.2
  have hget := changed_get hinc hin
  refine ⟨by rw [changed_length]; exact hlen, changed_size h.old.size b hsz, hf.b', hf.fits, hr, ?_, ?_⟩
  · rcases hget 0 with ⟨x, hx, e, hc⟩ | ⟨hno, _⟩
    · rcases hmem x hx with rfl | ⟨i, _, hi⟩
      · exact hc
      · have := hf.page hi; omega
    · exfalso
      refine hno (0, head bank' (stream l').length l'.length) (by rw [← hb]; simp) rfl
  · intro k hk
    by_cases hka : a / 116 ≤ k
    · have hw := writes_some (half := half) (bank := bank') hka hk
      have hc : (changed c b)[1 + bank' * half + k]? = some (chunk (stream l') k) := by
        rcases hget (1 + bank' * half + k) with ⟨x, hx, e, hc⟩ | ⟨hno, hc⟩
        · rcases hmem x hx with rfl | ⟨i, _, hi⟩
          · simp only at e; omega
          · obtain ⟨rfl, _⟩ := writes_get hi
            simp only at e hc
            rw [hc, show a / 116 + i = k by omega]
        · rw [hc]
          by_cases him : k - a / 116 < m
          · exact h.new _ _ him hw
          · exfalso
            refine hno (((1 + bank' * half + k : Nat) : Int), chunk (stream l') k) ?_ rfl
            rw [← hb]
            refine List.mem_cons_of_mem _ (List.mem_of_getElem? (i := k - a / 116 - m) ?_)
            rw [List.getElem?_drop, show m + (k - a / 116 - m) = k - a / 116 by omega]
            exact hw
      refine ⟨_, hc, ?_⟩
      have hcl : (cut (stream l') k).length = min 116 ((stream l').length - k * 116) := by unfold cut; rw [List.length_take, List.length_drop]
      by_cases hfull : 116 ≤ (stream l').length - k * 116
      · rw [List.take_of_length_le (by rw [chunk_length]; exact hfull)]
        unfold chunk
        rw [show 116 - (cut (stream l') k).length = 0 by omega]
        simp [zeros]
      · rw [chunk_take _ _ _ (by omega), List.take_of_length_le (by omega)]
    · rcases hf.case with ⟨rfl, rfl, hpre⟩ | ⟨_, rfl⟩
      · have hk2 : k * 116 + 116 ≤ (stream l).length := by omega
        obtain ⟨s, hs, ht⟩ := h.old.pg k (by omega)
        have h116 := h.old.size s (List.mem_of_getElem? hs)
        rw [List.take_of_length_le (by omega)] at ht
        rcases hget (1 + bank' * half + k) with ⟨x, hx, e, hc⟩ | ⟨_, hc⟩
        · exfalso
          rcases hmem x hx with rfl | ⟨i, _, hi⟩
          · simp only at e; omega
          · obtain ⟨rfl, _⟩ := writes_get hi
            simp only at e
            omega
        · refine ⟨s, by rw [hc]; exact hs, ?_⟩
          have hsl : (stream l).length ≤ (stream l').length := by
            have := congrArg List.length hpre
            rw [List.length_take] at this
            omega
          rw [List.take_of_length_le (by omega), ht]
          unfold cut
          rw [← hpre, List.drop_take, List.take_take, Nat.min_eq_left (by omega)]
      · simp at hka
end J
end Go.Proofs.YtcnhlemenpgkbaaGreatDoor
