import Derived.Test.YtoekddkkjbcicaaDoorOpC
import Derived.Deep.RegionLaw
set_option linter.unusedVariables false
set_option linter.unusedSimpArgs false
namespace Go.Proofs.YtoekddkkjbcicaaDoor
open Go.RowKit
attribute [local simp] Lx.bs_size
theorem hex_len : ∀ l : Ox.S, (Ox.hex l).length = 2 * l.length
  | [] => rfl
  | c :: r => by rw [Ox.hex]; simp [hex_len r]; omega
theorem hex_go {s : ByteArray} {k : Nat} (h : k < s.size) : Ox.hex (Lx.suf s k) = Ox.hexD (s[k].toNat / 16) :: Ox.hexD (s[k].toNat % 16) :: Ox.hex (Lx.suf s (k + 1)) := by rw [Lx.suf_cons h, Ox.hex]
theorem hex_end {s : ByteArray} {k : Nat} (h : s.size ≤ k) : Ox.hex (Lx.suf s k) = [] := by rw [Lx.suf_nil h]; rfl
theorem hex_lit : ∀ x : Fin 16, (⟨#[48, 49, 50, 51, 52, 53, 54, 55, 56, 57, 97, 98, 99, 100, 101, 102]⟩ : ByteArray)[x.val]'x.isLt = Ox.hexD x.val := by decide +kernel
theorem thex_any (s : ByteArray) (w : World) (hs : s.size ≤ 1000000000) :
    Calls Tryd.prog 55 #[.string s] w fun e w' => e = .returned (.string (Lx.bs (Ox.hex (Lx.ls s)))) ∧ Below w.heap.size w w' := by
  generalize hR : Ox.hex (Lx.ls s) = R
  have HR := Lib.hid hR
  clear hR
  obtain ⟨i0, hi, hz0, hz1, hz2⟩ := info_of uint8_info
  obtain ⟨H, hH⟩ : ∃ H : ByteArray, H = ⟨#[48, 49, 50, 51, 52, 53, 54, 55, 56, 57, 97, 98, 99, 100, 101, 102]⟩ := ⟨_, rfl⟩
  have hHs : H.size = 16 := by rw [hH]; rfl
  have hHd : ∀ x (h : x < H.size), H[x] = Ox.hexD x := by subst hH; intro x h; exact hex_lit ⟨x, h⟩
  have HHD := Lib.hid hHd
  have hH2 : 16 ≤ H.size := by omega
  clear hHd hHs
  go_enter Tryd.func55, Tryd.ntmps55
  rw [← hH]
  clear hH
  go_wp2_with (refine wpList_make_own _ rfl _ _ 62 rfl w.heap.size 5 i0 _ 1 Tryd.underlying62 hi hz0 hz1 _ _ _ (2 * s.size) rfl rfl (by simp) (by rw [hz2]; omega) (by simp only [maxLen]; omega) (Nat.le_refl _) ?_; intro w1 hown hg)
  have hb1 : Below w.heap.size w w1 := (Below.refl _ _).grown hg (Nat.le_refl _) (by simp)
  go_loopw [3, 11] (fun v i wr => ∃ (k : Nat) (acc : List UInt8), k ≤ s.size ∧ acc.length ≤ 2 * k ∧ i = .int .i64 k ∧ wr.ownsRow w.heap.size 5 1 v acc.length (u8s acc) ∧ Below w.heap.size w wr ∧ Hid (acc ++ Ox.hex (Lx.suf s k) = R)) (fun _ i _ => s.size - (intOf i).toNat)
  case atStart => exact ⟨0, [], by omega, by simp, rfl, hown, hb1, Lib.hid HR.out⟩
  case round =>
    obtain ⟨k, acc, hk, hak, rfl, hown, hb, HK⟩ := hrel
    clear hb1
    by_cases hlt : k < s.size
    · have hc := s[k].toNat_lt
      obtain ⟨x, hx⟩ : ∃ x, x = s[k].toNat / 16 := ⟨_, rfl⟩
      obtain ⟨y, hy⟩ : ∃ y, y = s[k].toNat % 16 := ⟨_, rfl⟩
      have hx16 : x < 16 := by omega
      have hy16 : y < 16 := by omega
      have hsh : Op.shift .shr .u8 (s[k].toNat : Int) .u64 4 = pure (.int .u8 (x : Int)) := by
        rw [shift_shr_u8 _ _ _ (by omega) (by omega)]
        have e : (2 : Int) ^ (4 : Int).toNat = 16 := rfl
        rw [e, hx]
        rfl
      have hand : bits .and .u8 (s[k].toNat : Int) 15 = (y : Int) := by rw [u8_and15 _ (by omega) (by omega)]; omega
      have HK' : Hid (acc ++ [Ox.hexD x, Ox.hexD y] ++ Ox.hex (Lx.suf s (k + 1)) = R) := by unfold Hid; rw [← HK.out, hex_go hlt, hx, hy]; simp
      have hxH : x < H.size := by omega
      have hyH : y < H.size := by omega
      clear hx hy
      go_wp2
      have hnews : [Value.int .u8 (H[x].toNat : Int), .int .u8 (H[y].toNat : Int)] = u8s [Ox.hexD x, Ox.hexD y] := by rw [HHD.out x hxH, HHD.out y hyH]; rfl
      have HNW := Lib.hid hnews
      clear hnews
      go_region_law (refine step_appC rfl (.tmp 14) (.tmp 25) 62 5 rfl Tryd.underlying62 uint8_info rfl (by decide) wr.drew #[.int .u8 (H[x].toNat : Int), .int .u8 (H[y].toNat : Int)] 2 rfl (by intro u hu; simp at hu; rcases hu with rfl | rfl <;> rfl) w.heap.size _ _ _ (by rfl) hown (by rfl) (by simp only [maxLen]; omega) (by omega) (by have := hb.size; simp; omega) w.heap.size (Nat.le_refl _) ?_; intro v1 w2 hown1 hb2)
      all_goals
        go_wp2
        go_roundw
        case rel =>
          have h2 : u8s (acc ++ [Ox.hexD x, Ox.hexD y]) = u8s acc ++ [Value.int .u8 (H[x].toNat : Int), .int .u8 (H[y].toNat : Int)] := by
            rw [HNW.out]; simp [u8s]
          exact ⟨k + 1, acc ++ [Ox.hexD x, Ox.hexD y], by omega, by simp; omega, by go_num, by rw [h2]; simpa using hown1, hb.drew.trans hb2, HK'⟩
        case measure => simp [intOf]; omega
    · obtain rfl : k = s.size := by omega
      have hf : R = acc := by rw [← HK.out, hex_end (Nat.le_refl _), List.append_nil]
      subst hf
      have hback := back_own (P := Tryd.prog) Tryd.underlying62 Tryd.underlying5 Tryd.underlying9 hown
      go_wp2
      go_ret
      exact ⟨rfl, hb⟩
end Go.Proofs.YtoekddkkjbcicaaDoor
