import Derived.Test.YtoekddkkjbcicaaDoorOpD
import Derived.Deep.RegionWith
set_option linter.unusedVariables false
set_option linter.unusedSimpArgs false
namespace Go.Proofs.YtoekddkkjbcicaaDoor
open Go.RowKit
attribute [local simp] Lx.bs_size
theorem hex_cut (H : ByteArray) (h : ∀ x (h : x < H.size), H[x] = Ox.hexD x) {x : Nat} (hx : x < H.size) : H.extract x (x + 1) = Lx.bs [Ox.hexD x] := by
  apply Lx.ls_inj
  rw [Lx.ls_bs, Lx.ls_extract, Nat.add_sub_cancel_left, ← Lx.suf_eq, Lx.suf_cons hx, h x hx]
  rfl
set_option maxHeartbeats 1000000 in
theorem rhex_any (s : ByteArray) (w : World) (hs : s.size ≤ 1000000000) :
    Calls Tryd.prog 40 #[.string s] w fun e w' => e = .returned (.string (Lx.bs (Ox.hex (Lx.ls s)))) ∧ Below w.heap.size w w' := by
  generalize hR : Ox.hex (Lx.ls s) = R
  have HR := Lib.hid hR
  clear hR
  obtain ⟨H, hH⟩ : ∃ H : ByteArray, H = ⟨#[48, 49, 50, 51, 52, 53, 54, 55, 56, 57, 97, 98, 99, 100, 101, 102]⟩ := ⟨_, rfl⟩
  have hHs : H.size = 16 := by rw [hH]; rfl
  have hHd : ∀ x (h : x < H.size), H[x] = Ox.hexD x := by subst hH; intro x h; exact hex_lit ⟨x, h⟩
  have HHD := Lib.hid hHd
  have hH2 : 16 ≤ H.size := by omega
  clear hHd hHs
  go_enter Tryd.func40, Tryd.ntmps40
  rw [← hH]
  clear hH
  go_wp2
  go_loopw [3, 4] (fun v i wr => ∃ (k : Nat) (acc : List UInt8), k ≤ s.size ∧ acc.length ≤ 2 * k ∧ i = .int .i64 k ∧ v = .string (Lx.bs acc) ∧ Below w.heap.size w wr ∧ Hid (acc ++ Ox.hex (Lx.suf s k) = R)) (fun _ i _ => s.size - (intOf i).toNat)
  case atStart => exact ⟨0, [], by omega, by simp, rfl, rfl, by (repeat (first | with_reducible exact Below.refl _ _ | with_reducible assumption | with_reducible refine Below.drew ?_ | with_reducible refine below_drewN ?_ _ | with_reducible refine below_al ?_ _ | with_reducible refine Below.setCell ?_ ?_ _ | exact Nat.le_refl _ | omega | (simp; done) | (simp; omega))), Lib.hid HR.out⟩
  case round =>
    obtain ⟨k, acc, hk, hak, rfl, rfl, hb, HK⟩ := hrel
    by_cases hlt : k < s.size
    · have hc := s[k].toNat_lt
      obtain ⟨x, hx⟩ : ∃ x, x = s[k].toNat / 16 := ⟨_, rfl⟩
      obtain ⟨y, hy⟩ : ∃ y, y = s[k].toNat % 16 := ⟨_, rfl⟩
      have hx16 : x < 16 := by omega
      have hy16 : y < 16 := by omega
      have hq : Int.tdiv (s[k].toNat : Int) 16 = (x : Int) := by rw [hx]; rfl
      have hm : Int.tmod (s[k].toNat : Int) 16 = (y : Int) := by rw [hy]; rfl
      have hq2 : (s[k].toNat : Int) / 16 = (x : Int) := by omega
      have hm2 : (s[k].toNat : Int) % 16 = (y : Int) := by omega
      have hxH : x < H.size := by omega
      have hyH : y < H.size := by omega
      have HX := Lib.hid (hex_cut H HHD.out hxH)
      have HY := Lib.hid (hex_cut H HHD.out hyH)
      have HK' : Hid (acc ++ [Ox.hexD x, Ox.hexD y] ++ Ox.hex (Lx.suf s (k + 1)) = R) := by unfold Hid; rw [← HK.out, hex_go hlt, hx, hy]; simp
      clear hx hy
      go_wp2
      go_quiet (fail)
      go_wp2
      go_roundw
      case rel => exact ⟨k + 1, acc ++ [Ox.hexD x, Ox.hexD y], by omega, by simp; omega, by go_num, by rw [HX.out, HY.out, Lx.bs_append, Lx.bs_append]; simp, by (repeat (first | with_reducible exact Below.refl _ _ | with_reducible assumption | with_reducible refine Below.drew ?_ | with_reducible refine below_drewN ?_ _ | with_reducible refine below_al ?_ _ | with_reducible refine Below.setCell ?_ ?_ _ | exact Nat.le_refl _ | omega | (simp; done) | (simp; omega))), HK'⟩
      case measure => simp [intOf]; omega
    · obtain rfl : k = s.size := by omega
      have hf : R = acc := by rw [← HK.out, hex_end (Nat.le_refl _), List.append_nil]
      subst hf
      go_wp2
      go_ret
      exact ⟨rfl, hb⟩
theorem conv_new {wr : World} {d : UInt8} {z : Int} (hz : z = (d.toNat : Int)) : (convert 62 9 (.slice (some ⟨wr.heap.size, 0, none⟩) 1 1)).run Tryd.prog (wr.alloc (.cells #[.int .u8 z] 5)) = .ok (.string (Lx.bs [d])) (wr.alloc (.cells #[.int .u8 z] 5)) := by
  rw [hz]; exact one_conv wr d
theorem conv_old {wr w1 : World} {d : UInt8} {z : Int} (hz : z = (d.toNat : Int)) (hb : Below (wr.alloc (.cells #[.int .u8 z] 5)).heap.size (wr.alloc (.cells #[.int .u8 z] 5)) w1) :
    (convert 62 9 (.slice (some ⟨wr.heap.size, 0, none⟩) 1 1)).run Tryd.prog w1 = .ok (.string (Lx.bs [d])) w1 := by
  have h1 : w1.heap[wr.heap.size]? = some (.cells #[.int .u8 z] 5) := blk_next (heap_alloc_new wr _) hb
  exact back_of (l := [d]) Tryd.underlying62 Tryd.underlying5 Tryd.underlying9 h1 (fun j hj => by
    have : j = 0 := by simp at hj; omega
    subst this; rw [hz]; rfl)
theorem numN_len : ∀ (k m : Nat), m < 10 ^ (k + 1) → (Ox.numN m).length ≤ k + 1
  | 0, m, h => by rw [Ox.numN, if_pos (by simpa using h)]; simp
  | k + 1, m, h => by
    rw [Ox.numN.eq_def]
    split
    · simp
    · have := numN_len k (m / 10) (by rw [Nat.pow_succ] at h; omega)
      simp; omega
theorem numN_20 {m : Nat} (h : m ≤ 9223372036854775808) : (Ox.numN m).length ≤ 20 := numN_len 19 m (by have : (10 : Nat) ^ (19 + 1) = 100000000000000000000 := rfl; omega)
theorem num_21 {n : Int} (h : -9223372036854775808 ≤ n) (h2 : n ≤ 9223372036854775807) : (Ox.num n).length ≤ 21 := by
  rw [Ox.num]
  have := numN_20 (m := n.natAbs) (by omega)
  split
  · simp; omega
  · omega
set_option maxRecDepth 100000 in
set_option maxHeartbeats 1000000 in
theorem rnum_pos : ∀ (m : Nat) (x : Int) (w : World), x = (m : Int) → m ≤ 9223372036854775807 →
    Calls Tryd.prog 26 #[.int .i64 x] w fun e w' => e = .returned (.string (Lx.bs (Ox.numN m))) ∧ Below w.heap.size w w' := by
  intro m
  induction m using Nat.strongRecOn with
  | _ m ih =>
    intro x w hx hm
    subst hx
    have IH := Lib.hid ih
    clear ih
    have d0 : decide ((m : Int) < 0) = false := decide_eq_false (by omega)
    by_cases h10 : m < 10
    · have d1 : decide ((m : Int) < 10) = true := decide_eq_true (by omega)
      obtain ⟨d, hd⟩ : ∃ d, d = UInt8.ofNat (48 + m) := ⟨_, rfl⟩
      have hr : Ox.numN m = [d] := by rw [Ox.numN, if_pos h10, hd]
      have hc := fun wr => conv_new (wr := wr) (d := d) (z := 48 + (m : Int)) (by rw [hd]; simp; omega)
      rw [hr]
      clear hr hd
      go_enter Tryd.func26, Tryd.ntmps26
      go_wp2
      go_ret
      exact ⟨rfl, by (repeat (first | with_reducible exact Below.refl _ _ | with_reducible assumption | with_reducible refine Below.drew ?_ | with_reducible refine below_drewN ?_ _ | with_reducible refine below_al ?_ _ | with_reducible refine Below.setCell ?_ ?_ _ | exact Nat.le_refl _ | omega | (simp; done) | (simp; omega)))⟩
    · have d1 : decide ((m : Int) < 10) = false := decide_eq_false (by omega)
      have hr : Ox.numN m = Ox.numN (m / 10) ++ [UInt8.ofNat (48 + m % 10)] := by rw [Ox.numN.eq_def, if_neg h10]
      rw [hr]
      clear hr
      obtain ⟨q, hq⟩ : ∃ q, q = m / 10 := ⟨_, rfl⟩
      obtain ⟨y, hy⟩ : ∃ y, y = m % 10 := ⟨_, rfl⟩
      have hq2 : (m : Int) / 10 = (q : Int) := by omega
      have hy2 : (m : Int) % 10 = (y : Int) := by omega
      have hq3 : Int.tdiv (m : Int) 10 = (q : Int) := by rw [hq]; rfl
      have hy3 : Int.tmod (m : Int) 10 = (y : Int) := by rw [hy]; rfl
      have hqm : q < m := by omega
      have hy10 : y < 10 := by omega
      rw [← hq, ← hy]
      obtain ⟨d, hd⟩ : ∃ d, d = UInt8.ofNat (48 + y) := ⟨_, rfl⟩
      have HZ := Lib.hid (show 48 + (y : Int) = (d.toNat : Int) by rw [hd]; simp; omega)
      rw [← hd]
      have hc := fun wr => conv_new (wr := wr) (d := d) (z := 48 + (y : Int)) HZ.out
      have hcd : (convert 62 9 (.slice (some ⟨w.heap.size, 0, none⟩) 1 1)).run Tryd.prog (w.alloc (.cells #[.int .u8 (48 + (y : Int))] 5)).drew = .ok (.string (Lx.bs [d])) (w.alloc (.cells #[.int .u8 (48 + (y : Int))] 5)).drew := conv_new (wr := w.drew) HZ.out
      have hql := numN_20 (m := q) (by omega)
      have hw1 : IntKind.i64.wrap (q : Int) = (q : Int) := by unfold IntKind.wrap; simp [IntKind.bits, IntKind.signed]; omega
      have hw2 : IntKind.i64.wrap (48 + (y : Int)) = 48 + (y : Int) := by unfold IntKind.wrap; simp [IntKind.bits, IntKind.signed]; omega
      have hw3 : IntKind.u8.wrap (48 + (y : Int)) = 48 + (y : Int) := by unfold IntKind.wrap; simp [IntKind.bits, IntKind.signed]; omega
      clear hq hy hd
      go_enter Tryd.func26, Tryd.ntmps26
      go_wp2
      go_region_with (go_at_call 26; refine (IH.out q hqm _ _ (by first | with_reducible rfl | exact hq3 | exact hq2 | omega) (by omega)).mono ?_; rintro e w1 ⟨rfl, hb1⟩; try (have hc9 : (convert 62 9 (.slice (some ⟨w.heap.size, 0, none⟩) 1 1)).run Tryd.prog w1 = .ok (.string (Lx.bs [d])) w1 := conv_old (wr := w.drew) HZ.out hb1))
      all_goals
        go_wp2
        go_ret
        refine ⟨by rw [← Lx.bs_append]; rfl, ?_⟩
        first
          | exact below_al (below_next (w := w) ((Below.refl _ _).drew) hb1) _
          | exact below_next (w := w) (below_al ((Below.refl _ _).drew) _) hb1
theorem tmod_neg (m : Nat) : Int.tmod (-(m : Int)) 10 = -((m % 10 : Nat) : Int) := by rw [Int.neg_tmod]; rfl
theorem tdiv_neg (m : Nat) : Int.tdiv (-(m : Int)) 10 = -((m / 10 : Nat) : Int) := by rw [Int.neg_tdiv]; rfl
set_option maxRecDepth 100000 in
set_option maxHeartbeats 1000000 in
theorem rnum_neg : ∀ (m : Nat) (x : Int) (w : World), x = -(m : Int) → 0 < m → m ≤ 9223372036854775808 →
    Calls Tryd.prog 26 #[.int .i64 x] w fun e w' => e = .returned (.string (Lx.bs (45 :: Ox.numN m))) ∧ Below w.heap.size w w' := by
  intro m
  induction m using Nat.strongRecOn with
  | _ m ih =>
    intro x w hx h0 hm
    subst hx
    have IH := Lib.hid ih
    clear ih
    have d0 : decide (-(m : Int) < 0) = true := decide_eq_true (by omega)
    by_cases h10 : m < 10
    · have d1 : decide (-10 < -(m : Int)) = true := decide_eq_true (by omega)
      obtain ⟨d, hd⟩ : ∃ d, d = UInt8.ofNat (48 + m) := ⟨_, rfl⟩
      have hr : Ox.numN m = [d] := by rw [Ox.numN, if_pos h10, hd]
      have hz : 48 + (m : Int) = (d.toNat : Int) := by rw [hd]; simp; omega
      have hc := fun wr => conv_new (wr := wr) (d := d) (z := 48 + (m : Int)) hz
      have hc2 := fun wr => conv_new (wr := wr) (d := d) (z := 48 - -(m : Int)) (by omega)
      rw [hr]
      clear hr hd hz
      go_enter Tryd.func26, Tryd.ntmps26
      go_wp2
      go_ret
      exact ⟨rfl, by (repeat (first | with_reducible exact Below.refl _ _ | with_reducible assumption | with_reducible refine Below.drew ?_ | with_reducible refine below_drewN ?_ _ | with_reducible refine below_al ?_ _ | with_reducible refine Below.setCell ?_ ?_ _ | exact Nat.le_refl _ | omega | (simp; done) | (simp; omega)))⟩
    · have d1 : decide (-10 < -(m : Int)) = false := decide_eq_false (by omega)
      have hr : Ox.numN m = Ox.numN (m / 10) ++ [UInt8.ofNat (48 + m % 10)] := by rw [Ox.numN.eq_def, if_neg h10]
      rw [hr]
      clear hr
      have hq3 := tdiv_neg m
      have hy3 := tmod_neg m
      obtain ⟨q, hq⟩ : ∃ q, q = m / 10 := ⟨_, rfl⟩
      obtain ⟨y, hy⟩ : ∃ y, y = m % 10 := ⟨_, rfl⟩
      have hqm : q < m := by omega
      have hq0 : 0 < q := by omega
      have hy10 : y < 10 := by omega
      rw [← hq] at hq3
      rw [← hy] at hy3
      rw [← hq, ← hy]
      obtain ⟨d, hd⟩ : ∃ d, d = UInt8.ofNat (48 + y) := ⟨_, rfl⟩
      have hz : 48 + (y : Int) = (d.toNat : Int) := by rw [hd]; simp; omega
      have HZ := Lib.hid hz
      have HZ2 := Lib.hid (show 48 - -(y : Int) = (d.toNat : Int) by omega)
      rw [← hd]
      have hc := fun wr => conv_new (wr := wr) (d := d) (z := 48 + (y : Int)) HZ.out
      have hc2 := fun wr => conv_new (wr := wr) (d := d) (z := 48 - -(y : Int)) HZ2.out
      have hcd : (convert 62 9 (.slice (some ⟨w.heap.size, 0, none⟩) 1 1)).run Tryd.prog (w.alloc (.cells #[.int .u8 (48 + (y : Int))] 5)).drew = .ok (.string (Lx.bs [d])) (w.alloc (.cells #[.int .u8 (48 + (y : Int))] 5)).drew := conv_new (wr := w.drew) HZ.out
      have hql := numN_20 (m := q) (by omega)
      have hw1 : IntKind.i64.wrap (-(q : Int)) = -(q : Int) := by unfold IntKind.wrap; simp [IntKind.bits, IntKind.signed]; omega
      have hw2 : IntKind.i64.wrap (48 - -(y : Int)) = 48 + (y : Int) := by unfold IntKind.wrap; simp [IntKind.bits, IntKind.signed]; omega
      have hw4 : IntKind.i64.wrap (48 + (y : Int)) = 48 + (y : Int) := by unfold IntKind.wrap; simp [IntKind.bits, IntKind.signed]; omega
      have hw3 : IntKind.u8.wrap (48 + (y : Int)) = 48 + (y : Int) := by unfold IntKind.wrap; simp [IntKind.bits, IntKind.signed]; omega
      have hw5 : IntKind.i64.wrap (-(y : Int)) = -(y : Int) := by unfold IntKind.wrap; simp [IntKind.bits, IntKind.signed]; omega
      clear hq hy hd hz
      go_enter Tryd.func26, Tryd.ntmps26
      go_wp2
      go_region_with (go_at_call 26; refine (IH.out q hqm _ _ (by first | with_reducible rfl | exact hq3 | omega) hq0 (by omega)).mono ?_; rintro e w1 ⟨rfl, hb1⟩; try (have hc9 : (convert 62 9 (.slice (some ⟨w.heap.size, 0, none⟩) 1 1)).run Tryd.prog w1 = .ok (.string (Lx.bs [d])) w1 := conv_old (wr := w.drew) HZ.out hb1))
      all_goals
        go_wp2
        go_ret
        refine ⟨by rw [← List.cons_append, ← Lx.bs_append]; rfl, ?_⟩
        first
          | exact below_al (below_next (w := w) ((Below.refl _ _).drew) hb1) _
          | exact below_next (w := w) (below_al ((Below.refl _ _).drew) _) hb1
theorem rnum_any (n : Int) (w : World) (h0 : -9223372036854775808 ≤ n) (hm : n ≤ 9223372036854775807) :
    Calls Tryd.prog 26 #[.int .i64 n] w fun e w' => e = .returned (.string (Lx.bs (Ox.num n))) ∧ Below w.heap.size w w' := by
  by_cases h : 0 ≤ n
  · rw [Ox.num, if_neg (by omega)]
    exact rnum_pos n.natAbs n w (by omega) (by omega)
  · rw [Ox.num, if_pos (by omega)]
    exact rnum_neg n.natAbs n w (by omega) (by omega) (by omega)
end Go.Proofs.YtoekddkkjbcicaaDoor
