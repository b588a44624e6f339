import Derived.Test.YtepdpdlakgnpmaaRefLexB
import Derived.Test.YtepdpdlakgnpmaaRef3A
import Derived.Deep.RegionHeld3
import Derived.Deep.DeepCutAuto
set_option linter.unusedVariables false
set_option linter.unusedSimpArgs false
namespace Go.Proofs.Ytepdpdlakgnpmaa
open Go.RowKit
attribute [local simp] Lx.bs_size
def wordsC : Array Value := (Lx.wordsL.map fun m => Value.string (Lx.bs m)).toArray
set_option maxRecDepth 100000 in
theorem words_any (w : World) : Calls Try.prog 23 #[] w fun e w' => e = .returned (.slice (some ⟨w.heap.size, 0, none⟩) 49 49) ∧ w' = w.alloc (.cells wordsC 9) := by
  go_enter Try.func23, Try.ntmps23
  go_wp2
  go_ret
  exact ⟨rfl, rfl⟩
theorem wordsC_at {k : Nat} {m : List UInt8} (h : Lx.wordsL[k]? = some m) : wordsC[k]? = some (.string (Lx.bs m)) := by
  unfold wordsC
  rw [List.getElem?_toArray, List.getElem?_map, h]
  rfl
set_option maxHeartbeats 1000000 in
theorem rword_any (s : ByteArray) (w : World) (hs : s.size ≤ 1000000000) :
    Calls Try.prog 13 #[.string s] w fun e w' => e = .returned (.bool (Lx.isW (Lx.ls s))) ∧ Below w.heap.size w w' := by
  generalize hR : Lx.isW (Lx.ls s) = R
  have HR : Hid ((Lx.wordsL.drop 0).contains (Lx.fold (Lx.ls s)) = R) := Lib.hid hR
  clear hR
  have hw0 : (w.alloc (.cells wordsC 9)).heap[w.heap.size]? = some (.cells wordsC 9 (0, 0)) := heap_alloc_new w _
  have hb0 : Below w.heap.size w (w.alloc (.cells wordsC 9)) := by (repeat (first | with_reducible exact Below.refl _ _ | with_reducible assumption | with_reducible refine Below.drew ?_ | with_reducible refine below_drewN ?_ _ | with_reducible refine below_al ?_ _ | with_reducible refine Below.setCell ?_ ?_ _ | exact Nat.le_refl _ | omega | (simp; done) | (simp; omega)))
  go_enter Try.func13, Try.ntmps13
  go_wp2_with fail
  refine (words_any w).mono ?_
  rintro e w' ⟨rfl, rfl⟩
  go_wp2
  go_loopw [4] (fun i wr => ∃ k : Nat, k ≤ 49 ∧ i = .int .i64 k ∧ wr.heap[w.heap.size]? = some (.cells wordsC 9 (0, 0)) ∧ Below w.heap.size w wr ∧ Hid ((Lx.wordsL.drop k).contains (Lx.fold (Lx.ls s)) = R)) (fun i _ => 49 - (intOf i).toNat)
  case atStart => exact ⟨0, by omega, rfl, hw0, hb0, HR⟩
  case round =>
    obtain ⟨k, hk, rfl, hh, hb, HK⟩ := hrel
    clear hw0 hb0
    by_cases hlt : k < 49
    · obtain ⟨m, hm⟩ : ∃ m, Lx.wordsL[k]? = some m := ⟨_, List.getElem?_eq_getElem (by exact hlt)⟩
      have hc := cell_of_heap hh (wordsC_at hm)
      have HH := Lib.hid hh
      have HM := Lib.hid hm
      clear hh hm
      have i0 : (0 : Int) ≤ (k : Int) := by omega
      have i1 : (k : Int) < 49 := by omega
      have hsz := blk_lt HH.out
      have hq : ((Lx.bs (Lx.fold (Lx.ls s))).toList == (Lx.bs m).toList) = (Lx.fold (Lx.ls s) == m) := by rw [Lx.bs_toList, Lx.bs_toList]
      have hdrop : Lx.wordsL.drop k = m :: Lx.wordsL.drop (k + 1) := by
        obtain ⟨h1, h2⟩ := List.getElem?_eq_some_iff.1 HM.out
        rw [List.drop_eq_getElem_cons h1, h2]
      have HD := Lib.hid hdrop
      clear hdrop
      cases hp : (Lx.fold (Lx.ls s) == m) with
      | true =>
        rw [hp] at hq
        have hf : R = true := by rw [← HK.out, HD.out, List.contains_cons, hp, Bool.true_or]
        subst hf
        clear hp
        go_wp2
        go_region_held3 (fun w' => w'.cell? ⟨w.heap.size, k, none⟩ = some (.string (Lx.bs m))) (go_keep)
          ((go_at_call 15; refine (rfold_any s _ hs).mono ?_; rintro e w1 ⟨rfl, hb1⟩; have hcw : w1.cell? ⟨w.heap.size, k, none⟩ = some (.string (Lx.bs m)) := (hb1.cell (p := ⟨w.heap.size, k, none⟩) hsz).trans hc))
        go_wp2
        go_ret
        exact ⟨rfl, below_next (w := w) (Below.drew hb) hb1⟩
      | false =>
        rw [hp] at hq
        have HK' := Lib.hid (show (Lx.wordsL.drop (k + 1)).contains (Lx.fold (Lx.ls s)) = R from by rw [← HK.out, HD.out, List.contains_cons, hp, Bool.false_or])
        clear hp
        go_wp2
        go_region_held3 (fun w' => w'.cell? ⟨w.heap.size, k, none⟩ = some (.string (Lx.bs m))) (go_keep)
          ((go_at_call 15; refine (rfold_any s _ hs).mono ?_; rintro e w1 ⟨rfl, hb1⟩; have hcw : w1.cell? ⟨w.heap.size, k, none⟩ = some (.string (Lx.bs m)) := (hb1.cell (p := ⟨w.heap.size, k, none⟩) hsz).trans hc))
        go_wp2
        go_roundw
        case rel => exact ⟨k + 1, by omega, by go_num, blk_next (blk_drew HH.out) hb1, below_next (w := w) (Below.drew hb) hb1, HK'⟩
        case measure => simp [intOf]; omega
    · obtain rfl : k = 49 := by omega
      have hf : R = false := by rw [← HK.out]; rfl
      subst hf
      go_wp2
      go_ret
      exact ⟨rfl, hb⟩
end Go.Proofs.Ytepdpdlakgnpmaa
