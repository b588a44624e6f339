import Derived.Test.YtepdpdlakgnpmaaLexJ
import Derived.Test.YtepdpdlakgnpmaaSame
set_option linter.unusedVariables false
set_option linter.unusedSimpArgs false
namespace Go.Proofs.Ytepdpdlakgnpmaa
open Go.RowKit
theorem ex1 (w : World) : Calls Try.prog 9 #[.string ⟨#[97, 60, 62, 39, 98, 39, 39, 99, 39, 32, 45, 45, 32, 100]⟩] w fun e w' => ∃ v, e = .returned (.tuple #[v, .int .i64 0, .int .i64 0]) ∧ w'.ownsRow w.heap.size 33 6 v 4 [.int .i64 1, .string ⟨#[97]⟩, .int .i64 0, .int .i64 0, .string ⟨#[]⟩, .int .i64 0, .int .i64 4, .string ⟨#[60, 62]⟩, .int .i64 0, .int .i64 0, .string ⟨#[]⟩, .int .i64 1, .int .i64 3, .string ⟨#[39, 98, 39, 39, 99, 39]⟩, .int .i64 2, .int .i64 0, .string ⟨#[98, 39, 99]⟩, .int .i64 3, .int .i64 0, .string ⟨#[]⟩, .int .i64 0, .int .i64 0, .string ⟨#[]⟩, .int .i64 14] ∧ Below w.heap.size w w' := by
  have h : Lx.scan (Lx.ls ⟨#[97, 60, 62, 39, 98, 39, 39, 99, 39, 32, 45, 45, 32, 100]⟩) = ([(⟨1, [97], (0, 0, [])⟩, 0), (⟨4, [60, 62], (0, 0, [])⟩, 1), (⟨3, [39, 98, 39, 39, 99, 39], (2, 0, [98, 39, 99])⟩, 3), (⟨0, [], (0, 0, [])⟩, 14)], 0, 0) := by kernel_rfl
  refine (scan_any _ w (by decide)).mono ?_
  rintro e w1 ⟨v, he, hown, hb⟩
  rw [h] at he hown
  exact ⟨v, he, hown, hb⟩
theorem ex2 (w : World) : Calls Try.prog 9 #[.string ⟨#[49, 97]⟩] w fun e w' => ∃ v, e = .returned (.tuple #[v, .int .i64 0, .int .i64 8]) ∧ Below w.heap.size w w' := by
  have h : Lx.scan (Lx.ls ⟨#[49, 97]⟩) = ([], 0, 8) := by kernel_rfl
  refine (scan_any _ w (by decide)).mono ?_
  rintro e w1 ⟨v, he, hown, hb⟩
  rw [h] at he
  exact ⟨v, he, hb⟩
theorem ex3 (w : World) : Calls Try.prog 16 #[.string ⟨#[97, 59, 39, 59, 39, 59, 45, 45, 59]⟩] w fun e w' => ∃ v, e = .returned v ∧ w'.ownsRow w.heap.size 9 1 v 2 [.string ⟨#[97]⟩, .string ⟨#[39, 59, 39]⟩] ∧ Below w.heap.size w w' := by
  have h : Lx.partsOf (Lx.ls ⟨#[97, 59, 39, 59, 39, 59, 45, 45, 59]⟩) = [[97], [39, 59, 39]] := by kernel_rfl
  refine (parts_any _ w (by decide)).mono ?_
  rintro e w1 ⟨v, he, hown, hb⟩
  rw [h] at hown
  exact ⟨v, he, hown, hb⟩
theorem ex4 (w : World) : Calls Try.prog 12 #[.string ⟨#[83, 69, 76, 69, 67, 84]⟩] w fun e w' => e = .returned (.bool true) ∧ Below w.heap.size w w' := by
  have h : Lx.isW (Lx.ls ⟨#[83, 69, 76, 69, 67, 84]⟩) = true := by kernel_rfl
  refine (word_any _ w (by decide)).mono ?_
  rintro e w1 ⟨he, hb⟩
  rw [h] at he
  exact ⟨he, hb⟩
theorem own_some {w : World} {base e size n : Nat} {v : Value} {xs : List Value} (h : w.ownsRow base e size v (n + 1) xs) : ∃ g c, v = .slice (some ⟨g, 0, none⟩) (n + 1) c ∧ g < w.heap.size ∧ n + 1 ≤ c ∧ ∀ j u, xs[j]? = some u → w.cell? ⟨g, j, none⟩ = some u := by
  rcases h.2 with ⟨_, hn⟩ | ⟨g, cap, cur, rfl, hb, hh, hc, hm, hs, ht⟩
  · omega
  · refine ⟨g, cap, rfl, blk_lt hh, hc, fun j u hu => ?_⟩
    have h2 := h.cells (g := g) rfl j u hu
    rwa [add_zero_addr] at h2
set_option maxHeartbeats 2000000 in
theorem awake_any (w : World) : Calls Try.prog 8 #[] w fun e w' => e = .returned (.bool true) ∧ Below w.heap.size w w' := by
  go_enter Try.func8, Try.ntmps8
  go_wp2_with fail
  refine (ex1 w).mono ?_
  rintro e w1 ⟨v1, rfl, hown1, hb1⟩
  obtain ⟨g1, c1, rfl, hg1, hc1, hx1⟩ := own_some hown1
  clear hown1
  go_wp2_with fail
  refine (ex2 w1).mono ?_
  rintro e w2 ⟨v2, rfl, hb2⟩
  have hB2 := below_next (w := w) hb1 hb2
  go_wp2_with fail
  refine (ex3 w2).mono ?_
  rintro e w3 ⟨v3, rfl, hown3, hb3⟩
  have hB3 := below_next (w := w) hB2 hb3
  obtain ⟨g3, c3, rfl, hg3, hc3, hx3⟩ := own_some hown3
  clear hown3
  have hk : ∀ j u, ([.int .i64 1, .string ⟨#[97]⟩, .int .i64 0, .int .i64 0, .string ⟨#[]⟩, .int .i64 0, .int .i64 4, .string ⟨#[60, 62]⟩, .int .i64 0, .int .i64 0, .string ⟨#[]⟩, .int .i64 1, .int .i64 3, .string ⟨#[39, 98, 39, 39, 99, 39]⟩, .int .i64 2, .int .i64 0, .string ⟨#[98, 39, 99]⟩, .int .i64 3, .int .i64 0, .string ⟨#[]⟩, .int .i64 0, .int .i64 0, .string ⟨#[]⟩, .int .i64 14] : List Value)[j]? = some u → w3.cell? ⟨g1, j, none⟩ = some u := fun j u hu => (hb3.cell (p := ⟨g1, j, none⟩) (Nat.lt_of_lt_of_le hg1 hb2.size)).trans ((hb2.cell (p := ⟨g1, j, none⟩) hg1).trans (hx1 j u hu))
  have m7 : w3.cell? ⟨g1, 7, none⟩ = some (.string ⟨#[60, 62]⟩) := hk 7 _ rfl
  have m14 : w3.cell? ⟨g1, 14, none⟩ = some (.int .i64 2) := hk 14 _ rfl
  have m15 : w3.cell? ⟨g1, 15, none⟩ = some (.int .i64 0) := hk 15 _ rfl
  have m16 : w3.cell? ⟨g1, 16, none⟩ = some (.string ⟨#[98, 39, 99]⟩) := hk 16 _ rfl
  have m18 : w3.cell? ⟨g1, 18, none⟩ = some (.int .i64 0) := hk 18 _ rfl
  have m19 : w3.cell? ⟨g1, 19, none⟩ = some (.string ⟨#[]⟩) := hk 19 _ rfl
  have m20 : w3.cell? ⟨g1, 20, none⟩ = some (.int .i64 0) := hk 20 _ rfl
  have m21 : w3.cell? ⟨g1, 21, none⟩ = some (.int .i64 0) := hk 21 _ rfl
  have m22 : w3.cell? ⟨g1, 22, none⟩ = some (.string ⟨#[]⟩) := hk 22 _ rfl
  have m23 : w3.cell? ⟨g1, 23, none⟩ = some (.int .i64 14) := hk 23 _ rfl
  have p1 : w3.cell? ⟨g3, 1, none⟩ = some (.string ⟨#[39, 59, 39]⟩) := hx3 1 _ rfl
  clear hk hx1 hx3 hb1 hb2 hb3 hB2
  go_wp2_with fail
  refine (ex4 w3).mono ?_
  rintro e w4 ⟨rfl, hb4⟩
  have hB4 := below_next (w := w) hB3 hb4
  go_wp2
  go_ret
  exact ⟨rfl, hB4⟩
end Go.Proofs.Ytepdpdlakgnpmaa
