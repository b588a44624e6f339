import Derived.Test.YtepdpdlakgnpmaaTextB
import Derived.Deep.RegionHeld3
set_option linter.unusedVariables false
set_option linter.unusedSimpArgs false
namespace Go.Proofs.Ytepdpdlakgnpmaa
open Go.RowKit
theorem uint8_info : (Try.prog.info? 5).map (fun i => (i.zero, i.size, i.bytes)) = some (some (.int .u8 0), 1, 1) := by kernel_rfl

/-- A text, or none: as the two functions hand it back. -/
def optE (r : Option (List UInt8)) : Ending := .returned (.tuple #[.string (Lx.bs (r.getD [])), .bool r.isSome])

def u8s (l : List UInt8) : List Value := l.map fun c => .int .u8 (c.toNat : Int)
theorem u8s_length (l : List UInt8) : (u8s l).length = l.length := by simp [u8s]
theorem u8s_snoc (l : List UInt8) (c : UInt8) : u8s (l ++ [c]) = u8s l ++ [.int .u8 (c.toNat : Int)] := by simp [u8s]

theorem single_any (s : ByteArray) (w : World) (hs : s.size ≤ 1000000000) :
    Calls Try.prog 50 #[.string s] w fun e w' => e = optE (Lx.single (Lx.ls s)) ∧ Below w.heap.size w w' := by
  generalize hR : Lx.single (Lx.ls s) = R
  have HR := Lib.hid hR
  clear hR
  obtain ⟨i0, hi, hz0, hz1, hz2⟩ := info_of uint8_info
  go_enter Try.func50, Try.ntmps50
  go_wp2_with (refine wpList_make_own _ rfl _ _ 36 rfl w.heap.size 5 i0 _ 1 Try.underlying36 hi hz0 hz1 _ _ _ s.size rfl rfl rfl (by rw [hz2]; omega) (by simp only [maxLen]; omega) (Nat.le_refl _) ?_; intro w1 hown hg)
  have hb1 : Below w.heap.size w w1 := (Below.refl _ _).grown hg (Nat.le_refl _) (by simp)
  go_loopw [4, 5] (fun v i wr => ∃ (k : Nat) (acc : List UInt8), k ≤ s.size ∧ acc.length ≤ k ∧ i = .int .i64 k ∧ wr.ownsRow w.heap.size 5 1 v acc.length (u8s acc) ∧ Below w.heap.size w wr ∧ Hid (Lx.onto acc (Lx.single (Lx.suf s k)) = R)) (fun _ i _ => s.size - (intOf i).toNat)
  case atStart => exact ⟨0, [], by omega, by simp, rfl, hown, hb1, Lib.hid (by rw [Lx.onto_nil, Lx.suf_zero]; exact HR.out)⟩
  case round =>
    obtain ⟨k, acc, hk, hak, rfl, hown, hb, HK⟩ := hrel
    clear hb1
    have q39 : (({ data := #[39] } : ByteArray)[0]'(by decide)).toNat = 39 := rfl
    by_cases hlt : k < s.size
    · by_cases h39 : s[k].toNat = 39
      · have d1 : ((s[k].toNat : Int) == 39) = true := by simp; omega
        by_cases hlt2 : k + 1 < s.size
        · have d2 : ((k : Int) + 1 == (s.size : Int)) = false := by simp; omega
          have hi1 : (0 : Int) ≤ (k : Int) + 1 := by omega
          have hi2 : (k : Int) + 1 < (s.size : Int) := by omega
          have hi3 : ((k : Int) + 1).toNat = k + 1 := by omega
          by_cases h392 : s[k + 1].toNat = 39
          · have d3 : ((s[k + 1].toNat : Int) == 39) = true := by simp; omega
            have d4 : ((s[k + 1].toNat : Int) != 39) = false := by simp; omega
            have HK' := Lib.hid (Eq.trans (Lx.single_pair hlt2 h39 h392 acc).symm HK.out)
            have H392 := Lib.hid h392
            have H39 := Lib.hid h39
            clear h39 h392
            go_wp2
            go_quiet (fail)
            go_wp2
            go_quiet (fail)
            go_wp2_with (at_builtin; refine wpList_app1 rfl (.tmp 33) (.tmp 37) 36 5 rfl Try.underlying36 uint8_info rfl (by decide) _ _ rfl (by intro u hu; simp at hu; subst hu; rfl) w.heap.size _ _ _ rfl (own_drewN hown _) rfl (by simp only [maxLen]; omega) (by omega) hb.size w.heap.size (Nat.le_refl _) ?_; intro v1 w1 hown1 hb1)
            go_roundw
            case rel => exact ⟨k + 2, acc ++ [s[k + 1]], by omega, by simp; omega, by go_num, by simpa [u8s_snoc] using hown1, (below_drewN hb _).trans hb1, HK'⟩
            case measure => simp [intOf]; omega
          · have d3 : ((s[k + 1].toNat : Int) == 39) = false := by simp; omega
            have d4 : ((s[k + 1].toNat : Int) != 39) = true := by simp; omega
            have hf := Lx.single_bad hlt h39 (fun _ => h392) acc
            rw [HK.out] at hf
            subst hf
            have H39 := Lib.hid h39
            clear h39 h392
            go_wp2
            go_quiet (fail)
            go_wp2
            go_quiet (fail)
            go_wp2
            go_ret2
            exact ⟨rfl, by (repeat (first | with_reducible exact Below.refl _ _ | with_reducible assumption | with_reducible refine Below.drew ?_ | with_reducible refine below_drewN ?_ _ | with_reducible refine below_al ?_ _ | with_reducible refine Below.setCell ?_ ?_ _ | exact Nat.le_refl _ | omega | (simp; done) | (simp; omega)))⟩
        · have d2 : ((k : Int) + 1 == (s.size : Int)) = true := by simp; omega
          have hf := Lx.single_bad hlt h39 (fun h => absurd h hlt2) acc
          rw [HK.out] at hf
          subst hf
          have H39 := Lib.hid h39
          clear h39
          go_wp2
          go_quiet (fail)
          go_wp2
          go_quiet (fail)
          go_wp2
          go_ret2
          exact ⟨rfl, by (repeat (first | with_reducible exact Below.refl _ _ | with_reducible assumption | with_reducible refine Below.drew ?_ | with_reducible refine below_drewN ?_ _ | with_reducible refine below_al ?_ _ | with_reducible refine Below.setCell ?_ ?_ _ | exact Nat.le_refl _ | omega | (simp; done) | (simp; omega)))⟩
      · have d1 : ((s[k].toNat : Int) == 39) = false := by simp; omega
        have HK' := Lib.hid (Eq.trans (Lx.single_plain hlt h39 acc).symm HK.out)
        go_wp2
        go_quiet (fail)
        go_wp2_with (at_builtin; refine wpList_app1 rfl (.tmp 33) (.tmp 37) 36 5 rfl Try.underlying36 uint8_info rfl (by decide) _ _ rfl (by intro u hu; simp at hu; subst hu; rfl) w.heap.size _ _ _ rfl (own_drewN hown _) rfl (by simp only [maxLen]; omega) (by omega) hb.size w.heap.size (Nat.le_refl _) ?_; intro v1 w1 hown1 hb1)
        go_roundw
        case rel => exact ⟨k + 1, acc ++ [s[k]], by omega, by simp; omega, by go_num, by simpa [u8s_snoc] using hown1, (below_drewN hb _).trans hb1, HK'⟩
        case measure => simp [intOf]; omega
    · obtain rfl : k = s.size := by omega
      have hf : R = some acc := by rw [← HK.out, Lx.single_end (Nat.le_refl _)]
      subst hf
      have hback := back_own (P := Try.prog) Try.underlying36 Try.underlying5 Try.underlying9 hown
      go_wp2
      go_ret2
      exact ⟨rfl, hb⟩
end Go.Proofs.Ytepdpdlakgnpmaa
