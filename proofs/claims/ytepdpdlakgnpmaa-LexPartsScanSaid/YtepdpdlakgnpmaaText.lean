import Derived.Test.YtepdpdlakgnpmaaProg
import Derived.Test.YtepdpdlakgnpmaaMem
set_option linter.unusedVariables false
set_option linter.unusedSimpArgs false
namespace Go.Proofs.Ytepdpdlakgnpmaa
open Go.RowKit
/-- Behind k rounds of the folding loop. -/
def FoldRel (s : ByteArray) (B n : Nat) (k : Nat) (wr : World) : Prop :=
  ∃ D : Array Value, wr.heap[B]? = some (.cells D 5 (n, n + 1)) ∧ s.size ≤ n ∧ D.size = n ∧
    ∀ j (h : j < s.size), D[j]? = some (.int .u8 ((if j < k then Lx.lo s[j] else s[j]).toNat : Int))

theorem FoldRel.at_ {s : ByteArray} {B n k : Nat} {wr : World} (h : FoldRel s B n k wr) (hk : k < s.size) :
    wr.cell? ⟨B, k, none⟩ = some (.int .u8 (s[k].toNat : Int)) ∧ wr.frozen? ⟨B, k, none⟩ = false := by
  obtain ⟨D, h1, h2, h3, h4⟩ := h
  exact ⟨cell_of_heap h1 (by rw [h4 k hk]; simp), free_of_heap h1 (by simp; omega)⟩

theorem FoldRel.keep {s : ByteArray} {B n k : Nat} {wr : World} (h : FoldRel s B n k wr) (hk : k < s.size) (hn : Lx.lo s[k] = s[k]) : FoldRel s B n (k + 1) wr := by
  obtain ⟨D, h1, h2, h3, h4⟩ := h
  refine ⟨D, h1, h2, h3, fun j hj => ?_⟩
  rw [h4 j hj]
  by_cases e : j = k
  · subst e; simp [hn]
  · have : j < k ↔ j < k + 1 := by omega
    simp only [this]

theorem FoldRel.set_ {s : ByteArray} {B n k : Nat} {wr : World} (h : FoldRel s B n k wr) (hk : k < s.size) {v : Int} (hn : v = ((Lx.lo s[k]).toNat : Int)) :
    FoldRel s B n (k + 1) (wr.setCell ⟨B, k, none⟩ (.int .u8 v)) := by
  obtain ⟨D, h1, h2, h3, h4⟩ := h
  refine ⟨_, heap_set h1, h2, by simp [h3], fun j hj => ?_⟩
  by_cases e : j = k
  · subst e
    rw [Array.getElem?_setIfInBounds_self_of_lt (by omega)]
    simp [hn]
  · rw [Array.getElem?_setIfInBounds_ne (by omega), h4 j hj]
    have : j < k ↔ j < k + 1 := by omega
    simp only [this]

theorem FoldRel.drew {s : ByteArray} {B n k : Nat} {wr : World} (h : FoldRel s B n k wr) : FoldRel s B n k wr.drew := h

theorem FoldRel.back {s : ByteArray} {B n : Nat} {wr : World} {cap : Nat} (h : FoldRel s B n s.size wr) :
    (convert 36 9 (.slice (some ⟨B, 0, none⟩) s.size cap)).run Try.prog wr = .ok (.string (Lx.bs (Lx.fold (Lx.ls s)))) wr := by
  obtain ⟨D, h1, h2, h3, h4⟩ := h
  have := back_of (cap := cap) (l := Lx.fold (Lx.ls s)) Try.underlying36 Try.underlying5 Try.underlying9 h1 (fun j hj => by
    have hj' : j < s.size := by rw [Lx.fold_length] at hj; exact hj
    rw [h4 j hj', if_pos hj']
    simp only [Lx.fold, List.getElem_map]
    rfl)
  rw [Lx.fold_length] at this
  exact this

theorem lo_yes {c : UInt8} (h : 65 ≤ c.toNat) (h2 : c.toNat ≤ 90) : ((Lx.lo c).toNat : Int) = (c.toNat : Int) + 97 - 65 := by
  simp [Lx.lo, h, h2]; omega
theorem lo_no {c : UInt8} (h : c.toNat < 65 ∨ 90 < c.toNat) : Lx.lo c = c := by
  simp [Lx.lo]; omega

set_option maxHeartbeats 400000 in
theorem fold_any (s : ByteArray) (w : World) (hs : s.size ≤ 9223372036854775000) :
    Calls Try.prog 22 #[.string s] w fun e w' => e = .returned (.string (Lx.bs (Lx.fold (Lx.ls s)))) ∧ Below w.heap.size w w' := by
  obtain ⟨cap, hcap⟩ : ∃ cap, cap = grownCap w s.size 0 5 := ⟨_, rfl⟩
  have hconv := run_bytes_of_string (P := Try.prog) w 9 36 5 s Try.underlying9 Try.underlying36 Try.underlying5
  rw [← hcap] at hconv
  generalize hC : bytesRow s cap = C at hconv
  have h0 : FoldRel s w.heap.size C.size 0 (w.alloc (.cells C 5 (C.size, C.size + 1))).drew := by
    subst hC
    exact ⟨_, heap_alloc_new w _, bytesRow_size _ _, rfl, fun j hj => by rw [bytesRow_at hj]; simp⟩
  have b0 : Below w.heap.size w (w.alloc (.cells C 5 (C.size, C.size + 1))).drew := ((Below.refl _ _).alloc (Nat.le_refl _) _).drew
  clear hC hcap
  obtain ⟨B, hB⟩ : ∃ B, B = w.heap.size := ⟨_, rfl⟩
  go_enter Try.func22, Try.ntmps22
  go_wp2
  go_loopw [10] (fun i wr => ∃ k : Nat, k ≤ s.size ∧ i = .int .i64 k ∧ FoldRel s w.heap.size C.size k wr ∧ Below w.heap.size w wr) (fun i _ => s.size - (intOf i).toNat)
  case atStart => exact ⟨0, Nat.zero_le _, rfl, h0, b0⟩
  case round =>
    obtain ⟨k, hk, rfl, hF, hb⟩ := hrel
    by_cases hlt : k < s.size
    · obtain ⟨hc, hz⟩ := hF.at_ hlt
      go_wp2
      · go_roundw
        case rel => exact ⟨k + 1, by omega, by go_num, hF.set_ hlt (by rw [lo_yes (by omega) (by omega)]), hb.setCell (Nat.le_refl _) _⟩
        case measure => simp [intOf]; omega
      · go_roundw
        case rel => exact ⟨k + 1, by omega, by go_num, hF.keep hlt (lo_no (by omega)), hb⟩
        case measure => simp [intOf]; omega
      · go_roundw
        case rel => exact ⟨k + 1, by omega, by go_num, hF.keep hlt (lo_no (by omega)), hb⟩
        case measure => simp [intOf]; omega
    · obtain rfl : k = s.size := by omega
      have hback := hF.back (cap := cap)
      go_wp2
      go_ret
      exact ⟨rfl, hb⟩
end Go.Proofs.Ytepdpdlakgnpmaa
