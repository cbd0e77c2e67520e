/- Scripts in memory; the pages of a disk behind a round; the law on pages, walked. -/
import Derived.Test.YtpoagpaglocpeaaGreatLawS
namespace Go.Proofs.YtpoagpaglocpeaaGreat
set_option linter.unusedSimpArgs false
set_option linter.unusedVariables false
set_option linter.unnecessarySimpa false
open Go.RowKit M

/-- A step of a script. -/
structure OpM where
  kind : Int
  pages : List Int
  byte : UInt8
  n : Int
  picks : List Int

/-- A script that lies in memory. -/
def OpsAt (N : Nat → Prop) (w : World) (v : Value) (ops : List OpM) : Prop :=
  ∃ A c, v = .slice A ops.length c ∧ ∀ (i : Nat) o, ops[i]? = some o → ∃ b off pv kv, A = some ⟨b, off, none⟩ ∧ N b ∧ b < w.heap.size ∧
    (w.cell? ⟨b, off + i * 5, none⟩ = some (.int .i64 o.kind) ∧ w.cell? ⟨b, off + i * 5 + 1, none⟩ = some pv ∧ w.cell? ⟨b, off + i * 5 + 2, none⟩ = some (.int .u8 o.byte.toNat) ∧
      w.cell? ⟨b, off + i * 5 + 3, none⟩ = some (.int .i64 o.n) ∧ w.cell? ⟨b, off + i * 5 + 4, none⟩ = some kv) ∧ IntsAt N w pv o.pages ∧ IntsAt N w kv o.picks
def OpOk (o : OpM) : Prop := o.n ≤ 9223372036854775807 ∧ ∀ x ∈ o.pages, -9223372036854775808 ≤ x ∧ x ≤ 9223372036854775807

theorem OpsAt.fr {N : Nat → Prop} {w w' : World} {v : Value} {ops : List OpM} {S : List Nat} (h : OpsAt N w v ops) (hf : Fr S w w') (hS : ∀ k ∈ S, ¬ N k) : OpsAt N w' v ops := by
  obtain ⟨A, c, rfl, hc⟩ := h
  refine ⟨A, c, rfl, fun i o ho => ?_⟩
  obtain ⟨b, off, pv, kv, e, hN, hb, ⟨c0, c1, c2, c3, c4⟩, hp, hk⟩ := hc i o ho
  have hn : b ∉ S := fun hk => hS b hk hN
  exact ⟨b, off, pv, kv, e, hN, by have := hf.size; omega, ⟨cell_fr hf c0 hn, cell_fr hf c1 hn, cell_fr hf c2 hn, cell_fr hf c3 hn, cell_fr hf c4 hn⟩, hp.fr hf hS, hk.fr hf hS⟩

/-- The disk at rest between the rounds, and its pages. -/
structure Rest (w : World) (L : DL) (pl : PL) (im : List Bytes) (t : Nat) (A : World) : Prop where
  st : ∃ p : M.Pages, St w L pl (rest im) p A ∧ p.number = t ∧ p.closed = false
  inv : Inv t im

section
variable {w : World}
theorem OpsAt.cells {N : Nat → Prop} {w : World} {A : Option Addr} {l c : Nat} {ops : List OpM} (h : OpsAt N w (.slice A l c) ops) {i : Nat} {o : OpM} (ho : ops[i]? = some o) : ∃ b off pv kv, A = some ⟨b, off, none⟩ ∧ N b ∧ b < w.heap.size ∧
    (w.cell? ⟨b, off + i * 5, none⟩ = some (.int .i64 o.kind) ∧ w.cell? ⟨b, off + i * 5 + 1, none⟩ = some pv ∧ w.cell? ⟨b, off + i * 5 + 2, none⟩ = some (.int .u8 o.byte.toNat) ∧
      w.cell? ⟨b, off + i * 5 + 3, none⟩ = some (.int .i64 o.n) ∧ w.cell? ⟨b, off + i * 5 + 4, none⟩ = some kv) ∧ IntsAt N w pv o.pages ∧ IntsAt N w kv o.picks := by
  obtain ⟨A', c', e, hc⟩ := h
  simp only [Value.slice.injEq] at e
  obtain ⟨rfl, _, _⟩ := e
  exact hc i o ho

theorem old_new {w A : World} {L : DL} {pl : PL} {d : Disk} {p : M.Pages} (h : St w L pl d p A) : ∀ k, k < w.heap.size → k ∉ L.all ∧ k ∉ pl.all :=
  fun k hk => ⟨fun hk' => by have := h.nL k hk'; omega, fun hk' => by have := (h.nP k hk').1; omega⟩

end
end Go.Proofs.YtpoagpaglocpeaaGreat
