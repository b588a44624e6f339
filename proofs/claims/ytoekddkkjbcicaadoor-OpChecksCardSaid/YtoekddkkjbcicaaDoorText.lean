import Derived.Test.YtoekddkkjbcicaaDoorProg
import Derived.Test.YtoekddkkjbcicaaDoorMem
set_option linter.unusedVariables false
set_option linter.unusedSimpArgs false
namespace Go.Proofs.YtoekddkkjbcicaaDoor
open Go.RowKit
/-- Behind k rounds of the folding loop. -/
def FoldRel (s : ByteArray) (B n : Nat) (k : Nat) (wr : World) : Prop :=
  ∃ D : Array Value, wr.heap[B]? = some (.cells D 5 (n, n + 1)) ∧ s.size ≤ n ∧ D.size = n ∧
    ∀ j (h : j < s.size), D[j]? = some (.int .u8 ((if j < k then Lx.lo s[j] else s[j]).toNat : Int))

theorem FoldRel.at_ {s : ByteArray} {B n k : Nat} {wr : World} (h : FoldRel s B n k wr) (hk : k < s.size) :
    wr.cell? ⟨B, k, none⟩ = some (.int .u8 (s[k].toNat : Int)) ∧ wr.frozen? ⟨B, k, none⟩ = false := by
  obtain ⟨D, h1, h2, h3, h4⟩ := h
  exact ⟨cell_of_heap h1 (by rw [h4 k hk]; simp), free_of_heap h1 (by simp; omega)⟩

theorem FoldRel.keep {s : ByteArray} {B n k : Nat} {wr : World} (h : FoldRel s B n k wr) (hk : k < s.size) (hn : Lx.lo s[k] = s[k]) : FoldRel s B n (k + 1) wr := by
  obtain ⟨D, h1, h2, h3, h4⟩ := h
  refine ⟨D, h1, h2, h3, fun j hj => ?_⟩
  rw [h4 j hj]
  by_cases e : j = k
  · subst e; simp [hn]
  · have : j < k ↔ j < k + 1 := by omega
    simp only [this]

theorem FoldRel.set_ {s : ByteArray} {B n k : Nat} {wr : World} (h : FoldRel s B n k wr) (hk : k < s.size) {v : Int} (hn : v = ((Lx.lo s[k]).toNat : Int)) :
    FoldRel s B n (k + 1) (wr.setCell ⟨B, k, none⟩ (.int .u8 v)) := by
  obtain ⟨D, h1, h2, h3, h4⟩ := h
  refine ⟨_, heap_set h1, h2, by simp [h3], fun j hj => ?_⟩
  by_cases e : j = k
  · subst e
    rw [Array.getElem?_setIfInBounds_self_of_lt (by omega)]
    simp [hn]
  · rw [Array.getElem?_setIfInBounds_ne (by omega), h4 j hj]
    have : j < k ↔ j < k + 1 := by omega
    simp only [this]

theorem FoldRel.drew {s : ByteArray} {B n k : Nat} {wr : World} (h : FoldRel s B n k wr) : FoldRel s B n k wr.drew := h

theorem FoldRel.back {s : ByteArray} {B n : Nat} {wr : World} {cap : Nat} (h : FoldRel s B n s.size wr) :
    (convert 62 9 (.slice (some ⟨B, 0, none⟩) s.size cap)).run Tryd.prog wr = .ok (.string (Lx.bs (Lx.fold (Lx.ls s)))) wr := by
  obtain ⟨D, h1, h2, h3, h4⟩ := h
  have := back_of (cap := cap) (l := Lx.fold (Lx.ls s)) Tryd.underlying62 Tryd.underlying5 Tryd.underlying9 h1 (fun j hj => by
    have hj' : j < s.size := by rw [Lx.fold_length] at hj; exact hj
    rw [h4 j hj', if_pos hj']
    simp only [Lx.fold, List.getElem_map]
    rfl)
  rw [Lx.fold_length] at this
  exact this

theorem lo_yes {c : UInt8} (h : 65 ≤ c.toNat) (h2 : c.toNat ≤ 90) : ((Lx.lo c).toNat : Int) = (c.toNat : Int) + 97 - 65 := by
  simp [Lx.lo, h, h2]; omega
theorem lo_no {c : UInt8} (h : c.toNat < 65 ∨ 90 < c.toNat) : Lx.lo c = c := by
  simp [Lx.lo]; omega

end Go.Proofs.YtoekddkkjbcicaaDoor
