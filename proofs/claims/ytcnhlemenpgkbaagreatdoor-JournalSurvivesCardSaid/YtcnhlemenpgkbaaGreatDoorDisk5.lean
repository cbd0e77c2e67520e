/- The disk: the pending pages in order; mounting; a bit that rots. -/
import Derived.Test.YtcnhlemenpgkbaaGreatDoorDisk4
import Derived.Test.YtcnhlemenpgkbaaGreatDoorShelf
namespace Go.Proofs.YtcnhlemenpgkbaaGreatDoor
set_option linter.unusedSimpArgs false
set_option linter.unusedVariables false
set_option linter.unnecessarySimpa false
open Go.RowKit M Go.Sort

theorem intInfo : (Tryz.prog.info? 3).map (fun i => (i.zero, i.size, i.bytes)) = some (some (.int .i64 0), 1, 8) := by kernel_rfl

def intv (l : List Int) : List Value := l.map (.int .i64)

theorem fr_sorted {w : World} {g : Nat} {cur : Array Value} {t : TypeId} (hg : w.heap[g]? = some (.cells cur t (0, 0))) (zs : List Int) (n : Nat) (os : Array Obj) (hz : zs.length ≤ cur.size) :
    (grow (putRow (Value.int .i64) (Sort.ahead w n) g 0 zs.toArray) os).heap[g]? = some (.cells ((intv zs) ++ cur.toList.drop zs.length).toArray t (0, 0)) ∧ Fr [g] w (grow (putRow (Value.int .i64) (Sort.ahead w n) g 0 zs.toArray) os) := by
  have hlt := lt_of_heap hg
  have hput : putCells (Value.int .i64) 0 zs.toArray cur = ((intv zs) ++ cur.toList.drop zs.length).toArray := by
    apply Array.ext'
    apply List.ext_getElem?
    intro k
    simp only [putCells, Array.toList_mapIdx, List.getElem?_mapIdx, Nat.zero_add, List.size_toArray, Nat.sub_zero]
    by_cases hk : k < zs.length
    · have hkc : k < cur.size := by omega
      rw [List.getElem?_append_left (by simpa [intv] using hk)]
      simp [intv, hk, hkc]
    · rw [List.getElem?_append_right (by simp [intv]; omega)]
      have e : zs.length + (k - zs.length) = k := by omega
      simp [intv, hk, e]
  constructor
  · simp only [grow, putRow, mapBlock, Sort.ahead]
    rw [Array.getElem?_append_left (by simpa using hlt), Array.getElem?_modify, if_pos rfl, hg]
    simp [onCells, hput]
  · refine ⟨rfl, rfl, rfl, ?_, ?_⟩
    · simp [grow, putRow, mapBlock, Sort.ahead]
    · intro k hk hn
      simp only [grow, putRow, mapBlock, Sort.ahead]
      rw [Array.getElem?_append_left (by simpa using hk), Array.getElem?_modify, if_neg (by simpa [eq_comm] using hn)]

/-- The library's sort of numbers, on a slice of the call's own. -/
theorem sort_calls {w : World} {base : Nat} {v : Value} {zs : List Int} (hown : w.ownsRow base 3 1 v zs.length (intv zs)) (hb : zs.length ≤ 1000000) :
    Calls Tryz.prog 29 #[v] w fun e w' => e = .returned (.tuple #[]) ∧ w'.ownsRow base 3 1 v zs.length (intv (zs.mergeSort fun x y => decide (x ≤ y))) ∧ (∀ S w0, Fr S w0 w → w0.heap.size ≤ base → Fr S w0 w') := by
  have hlen : (zs.mergeSort fun x y => decide (x ≤ y)).length = zs.length := List.length_mergeSort _
  by_cases h0 : zs.length = 0
  · have hz : zs = [] := List.eq_nil_of_length_eq_zero h0
    subst hz
    obtain ⟨p, c, rfl⟩ : ∃ p c, v = .slice p 0 c := by
      rcases hown.2 with ⟨rfl, _⟩ | ⟨g, cap, cur, rfl, _⟩
      · exact ⟨_, _, rfl⟩
      · exact ⟨_, _, rfl⟩
    refine (Tryz.slices_Sort_int_none p c w).mono ?_
    rintro e w' ⟨rfl, rfl⟩
    exact ⟨rfl, by simpa [intv] using hown, fun S w0 h _ => h⟩
  · rcases hown.2 with ⟨_, h⟩ | ⟨g, cap, cur, rfl, hbg, hg, hcap, hmax, hsz, htk⟩
    · exact absurd h h0
    · have hcur : zs.length ≤ cur.size := by omega
      have hcell : ∀ j, j < zs.length → cur[j]? = some (.int .i64 (zs.toArray[j]!)) := by
        intro j hj
        have : (cur.toList.take (zs.length * 1))[j]? = (intv zs)[j]? := by rw [htk]
        rw [List.getElem?_take, if_pos (by omega)] at this
        rw [← Array.getElem?_toList, this]
        simp [intv, hj]
      have hH : Holds (Value.int .i64) w g 0 zs.toArray := by
        intro j hj
        have hj' : j < zs.length := by simpa using hj
        refine ⟨?_, blk_free hg _⟩
        rw [cell_of_row w g _ cur _ _ hg, Nat.zero_add]
        exact hcell j hj'
      refine (Tryz.slices_Sort_int g 0 cap zs w hH (lt_of_heap hg) (by omega)).mono ?_
      rintro e w' ⟨rfl, n, os, rfl⟩
      obtain ⟨h1, h2⟩ := fr_sorted hg (zs.mergeSort fun x y => decide (x ≤ y)) n os (by rw [hlen]; exact hcur)
      refine ⟨rfl, ⟨by simp [intv, hlen], .inr ⟨g, cap, _, rfl, hbg, h1, hcap, hmax, ?_, ?_⟩⟩, ?_⟩
      · simp [intv, hlen]; omega
      · simp [intv, hlen]
      · intro S w0 hf hb0
        exact hf.then h2 (fun i hi => .inr (by simp at hi; omega))

end Go.Proofs.YtcnhlemenpgkbaaGreatDoor
