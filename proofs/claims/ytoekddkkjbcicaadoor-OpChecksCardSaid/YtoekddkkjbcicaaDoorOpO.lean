import Derived.Test.YtoekddkkjbcicaaDoorOpN
set_option linter.unusedVariables false
set_option linter.unusedSimpArgs false
namespace Go.Proofs.YtoekddkkjbcicaaDoor
open Go.RowKit
attribute [local simp] Lx.bs_size
theorem unhexP_bad {s : ByteArray} {k : Nat} (h : k + 1 < s.size) (hb : Lx.rnib s[k] = none ∨ Lx.rnib s[k + 1] = none) : Ox.unhexP (Lx.suf s k) = none := by
  rw [Lx.suf_cons (by omega), Lx.suf_cons (k := k + 1) h, Ox.unhexP]
  rcases hb with hb | hb
  · rw [hb]
  · rw [hb]; cases Lx.rnib s[k] <;> rfl
theorem unhexP_go {s : ByteArray} {k x y : Nat} (h : k + 1 < s.size) (hx : Lx.rnib s[k] = some x) (hy : Lx.rnib s[k + 1] = some y) (acc : Ox.S) :
    (Ox.unhexP (Lx.suf s k)).map (acc ++ ·) = (Ox.unhexP (Lx.suf s (k + 2))).map (acc ++ [UInt8.ofNat (16 * x + y)] ++ ·) := by
  rw [Lx.suf_cons (by omega), Lx.suf_cons (k := k + 1) h, Ox.unhexP, hx, hy]
  cases Ox.unhexP (Lx.suf s (k + 1 + 1)) <;> simp
theorem unhexP_end {s : ByteArray} {k : Nat} (h : s.size ≤ k + 1) : Ox.unhexP (Lx.suf s k) = some [] := by
  by_cases h1 : s.size ≤ k
  · rw [Lx.suf_nil h1]; rfl
  · rw [Lx.suf_cons (by omega), Lx.suf_nil h]; rfl
/-- Behind j signs of a pair: what they stand for. -/
def PairV (a b : UInt8) (j v : Nat) : Prop := (j = 0 ∧ v = 0) ∨ (j = 1 ∧ Lx.rnib a = some v) ∨ (j = 2 ∧ ∃ x y, Lx.rnib a = some x ∧ Lx.rnib b = some y ∧ v = 16 * x + y)
theorem rnib_16 {c : UInt8} {n : Nat} (h : Lx.rnib c = some n) : n < 16 := by
  unfold Lx.rnib at h
  split at h
  · rename_i h1; simp at h1 h; omega
  · split at h
    · rename_i h1; simp at h1 h; omega
    · cases h
theorem rnib_d {c : UInt8} (h : 48 ≤ c.toNat) (h2 : c.toNat ≤ 57) : Lx.rnib c = some (c.toNat - 48) := by simp [Lx.rnib, h, h2]
theorem rnib_a {c : UInt8} (h : 97 ≤ c.toNat) (h2 : c.toNat ≤ 102) : Lx.rnib c = some (c.toNat - 87) := by
  unfold Lx.rnib
  rw [if_neg (by simp; omega), if_pos (by simp; omega)]
theorem rnib_n {c : UInt8} (h : ¬ (48 ≤ c.toNat ∧ c.toNat ≤ 57)) (h2 : ¬ (97 ≤ c.toNat ∧ c.toNat ≤ 102)) : Lx.rnib c = none := by
  unfold Lx.rnib
  rw [if_neg (by simp; omega), if_neg (by simp; omega)]
def bytesE (n : Nat) (T : Option Ox.S) : Ending := match T with
  | none => .returned (.tuple #[.string ⟨#[]⟩, .bool false])
  | some t => .returned (.tuple #[.string (Lx.bs t), .bool (decide (n % 2 = 0))])
set_option maxHeartbeats 4000000 in
theorem bytes_any (s : ByteArray) (w : World) (hs : s.size ≤ 1000000000) :
    Calls Tryd.prog 57 #[.string s] w fun e w' => e = bytesE s.size (Ox.unhexP (Lx.ls s)) ∧ Below w.heap.size w w' := by
  generalize hT : Ox.unhexP (Lx.ls s) = T
  have HT : Hid ((Ox.unhexP (Lx.suf s 0)).map (([] : Ox.S) ++ ·) = T) := Lib.hid (by rw [Lx.suf_zero, hT]; cases T <;> simp)
  clear hT
  go_enter Tryd.func57, Tryd.ntmps57
  go_wp2
  go_loopw [4, 5] (fun v i wr => ∃ (k : Nat) (acc : Ox.S), k ≤ s.size + 1 ∧ acc.length ≤ k ∧ i = .int .i64 k ∧ wr.ownsRow w.heap.size 5 1 v acc.length (u8s acc) ∧ Below w.heap.size w wr ∧ Hid ((Ox.unhexP (Lx.suf s k)).map (acc ++ ·) = T)) (fun _ i _ => s.size + 2 - (intOf i).toNat)
  case atStart => exact ⟨0, [], by omega, by simp, rfl, World.ownsRow_nil _ _ _ _, Below.refl _ _, HT⟩
  case round =>
    obtain ⟨k, acc, hk, hak, rfl, hown, hb, HK⟩ := hrel
    by_cases hlt : k + 1 < s.size
    · have hk1 : k < s.size := by omega
      have d0 : decide ((k : Int) + 1 < (s.size : Int)) = true := decide_eq_true (by omega)
      have hi1 : (0 : Int) ≤ (k : Int) + 1 := by omega
      have hi2 : (k : Int) + 1 < (s.size : Int) := by omega
      have hi3 : ((k : Int) + 1).toNat = k + 1 := by omega
      obtain ⟨a, ha⟩ : ∃ a, a = s[k] := ⟨_, rfl⟩
      obtain ⟨b, hbb⟩ : ∃ b, b = s[k + 1] := ⟨_, rfl⟩
      have HA := Lib.hid ha
      have HBB := Lib.hid hbb
      have hga := a.toNat_lt
      have hgb := b.toNat_lt
      clear ha hbb
      have hsa : s[k] = a := HA.out.symm
      have hsb : s[k + 1] = b := HBB.out.symm
      go_wp2
      go_region
      all_goals
        have hba : Below w.heap.size w (wr.alloc (.cells #[.int .u8 (a.toNat : Int), .int .u8 (b.toNat : Int)] 5)).drew := (below_al hb _).drew
        have howna : (wr.alloc (.cells #[.int .u8 (a.toNat : Int), .int .u8 (b.toNat : Int)] 5)).drew.ownsRow w.heap.size 5 1 u4 acc.length (u8s acc) := hown.alloc _
        have hca : (wr.alloc (.cells #[.int .u8 (a.toNat : Int), .int .u8 (b.toNat : Int)] 5)).drew.cell? ⟨wr.heap.size, 0, none⟩ = some (.int .u8 (a.toNat : Int)) := cell_new wr _ _ 0
        have hcb : (wr.alloc (.cells #[.int .u8 (a.toNat : Int), .int .u8 (b.toNat : Int)] 5)).drew.cell? ⟨wr.heap.size, 1, none⟩ = some (.int .u8 (b.toNat : Int)) := cell_new wr _ _ 1
        generalize (wr.alloc (.cells #[.int .u8 (a.toNat : Int), .int .u8 (b.toNat : Int)] 5)).drew = W1 at hba howna hca hcb ⊢
        go_wp2
        go_loop [6, 8, 25, 29, 42] (fun vv _ i _ _ => ∃ (j v : Nat), j ≤ 2 ∧ i = .int .i64 j ∧ vv = .int .i64 v ∧ v < 256 ∧ Hid (PairV a b j v)) (fun _ _ i _ _ => 2 - (intOf i).toNat)
        case atStart => exact ⟨0, 0, by omega, rfl, rfl, by omega, Lib.hid (.inl ⟨rfl, rfl⟩)⟩
        case round =>
          obtain ⟨j, v, hj, rfl, rfl, hv, HV⟩ := hrel
          by_cases hjl : j < 2
          · obtain ⟨ch, hch, hstep, hbad, hv16⟩ : ∃ ch : UInt8, W1.cell? ⟨wr.heap.size, j, none⟩ = some (.int .u8 (ch.toNat : Int)) ∧ (∀ x, Lx.rnib ch = some x → PairV a b (j + 1) (16 * v + x)) ∧ (Lx.rnib ch = none → T = none) ∧ v < 16 := by
              rcases HV.out with ⟨rfl, rfl⟩ | ⟨rfl, h1⟩ | ⟨rfl, _⟩
              · exact ⟨a, hca, fun x hx => .inr (.inl ⟨rfl, by simpa using hx⟩), fun hn => by rw [← HK.out, unhexP_bad hlt (.inl (by rw [← HA.out]; exact hn))]; rfl, by omega⟩
              · exact ⟨b, hcb, fun x hx => .inr (.inr ⟨rfl, v, x, h1, hx, rfl⟩), fun hn => by rw [← HK.out, unhexP_bad hlt (.inr (by rw [← HBB.out]; exact hn))]; rfl, rnib_16 h1⟩
              · omega
            have hc256 := ch.toNat_lt
            have djl : decide ((j : Int) < 2) = true := decide_eq_true (by omega)
            by_cases c1 : ch.toNat < 48
            · have f48 : decide ((48 : Int) ≤ (ch.toNat : Int)) = false := by simp; omega
              have f97 : decide ((97 : Int) ≤ (ch.toNat : Int)) = false := by simp; omega
              have hxr : Lx.rnib ch = none := rnib_n (c := ch) (by omega) (by omega)
              have hf := hbad hxr
              subst hf
              clear hstep hbad hxr c1
              go_wp2
              go_ret2
              exact ⟨rfl, by (repeat (first | with_reducible exact Below.refl _ _ | with_reducible assumption | with_reducible refine Below.drew ?_ | with_reducible refine below_drewN ?_ _ | with_reducible refine below_al ?_ _ | with_reducible refine Below.setCell ?_ ?_ _ | exact Nat.le_refl _ | omega | (simp; done) | (simp; omega)))⟩
            by_cases c2 : ch.toNat ≤ 57
            · have f48 : decide ((48 : Int) ≤ (ch.toNat : Int)) = true := by simp; omega
              have f57 : decide ((ch.toNat : Int) ≤ 57) = true := by simp; omega
              obtain ⟨x, hx⟩ : ∃ x, x = ch.toNat - 48 := ⟨_, rfl⟩
              have hx16 : x < 16 := by omega
              have hxa : (ch.toNat : Int) = (x : Int) + 48 := by omega
              have hxr : Lx.rnib ch = some x := by rw [hx]; exact rnib_d (c := ch) (by omega) (by omega)
              have HV' := Lib.hid (hstep x hxr)
              have HXA := Lib.hid hxa
              have hge : 48 ≤ ch.toNat := by omega
              have hge2 : (48 : Int) ≤ (ch.toNat : Int) := by omega
              clear hx hxr hstep hxa c1 c2
              go_wp2
              go_round
              case rel => exact ⟨j + 1, 16 * v + x, by omega, by go_num, congrArg _ (by have := HXA.out; first | omega | (unfold IntKind.wrap; simp [IntKind.bits, IntKind.signed]; omega)), by omega, HV'⟩
              case measure => simp [intOf]; omega
            by_cases c3 : ch.toNat < 97
            · have f48 : decide ((48 : Int) ≤ (ch.toNat : Int)) = true := by simp; omega
              have f57 : decide ((ch.toNat : Int) ≤ 57) = false := by simp; omega
              have f97 : decide ((97 : Int) ≤ (ch.toNat : Int)) = false := by simp; omega
              have hxr : Lx.rnib ch = none := rnib_n (c := ch) (by omega) (by omega)
              have hf := hbad hxr
              subst hf
              clear hstep hbad hxr c1 c2 c3
              go_wp2
              go_ret2
              exact ⟨rfl, by (repeat (first | with_reducible exact Below.refl _ _ | with_reducible assumption | with_reducible refine Below.drew ?_ | with_reducible refine below_drewN ?_ _ | with_reducible refine below_al ?_ _ | with_reducible refine Below.setCell ?_ ?_ _ | exact Nat.le_refl _ | omega | (simp; done) | (simp; omega)))⟩
            by_cases c4 : ch.toNat ≤ 102
            · have f48 : decide ((48 : Int) ≤ (ch.toNat : Int)) = true := by simp; omega
              have f57 : decide ((ch.toNat : Int) ≤ 57) = false := by simp; omega
              have f97 : decide ((97 : Int) ≤ (ch.toNat : Int)) = true := by simp; omega
              have f102 : decide ((ch.toNat : Int) ≤ 102) = true := by simp; omega
              obtain ⟨x, hx⟩ : ∃ x, x = ch.toNat - 87 := ⟨_, rfl⟩
              have hx16 : x < 16 := by omega
              have hxa : (ch.toNat : Int) = (x : Int) + 87 := by omega
              have hxr : Lx.rnib ch = some x := by rw [hx]; exact rnib_a (c := ch) (by omega) (by omega)
              have HV' := Lib.hid (hstep x hxr)
              have HXA := Lib.hid hxa
              have hge : 97 ≤ ch.toNat := by omega
              have hge2 : (97 : Int) ≤ (ch.toNat : Int) := by omega
              clear hx hxr hstep hxa c1 c2 c3 c4
              go_wp2
              go_round
              case rel => exact ⟨j + 1, 16 * v + x, by omega, by go_num, congrArg _ (by have := HXA.out; first | omega | (unfold IntKind.wrap; simp [IntKind.bits, IntKind.signed]; omega)), by omega, HV'⟩
              case measure => simp [intOf]; omega
            have f48 : decide ((48 : Int) ≤ (ch.toNat : Int)) = true := by simp; omega
            have f57 : decide ((ch.toNat : Int) ≤ 57) = false := by simp; omega
            have f97 : decide ((97 : Int) ≤ (ch.toNat : Int)) = true := by simp; omega
            have f102 : decide ((ch.toNat : Int) ≤ 102) = false := by simp; omega
            have hxr : Lx.rnib ch = none := rnib_n (c := ch) (by omega) (by omega)
            have hf := hbad hxr
            subst hf
            clear hstep hbad hxr c1 c2 c3 c4
            go_wp2
            go_ret2
            exact ⟨rfl, by (repeat (first | with_reducible exact Below.refl _ _ | with_reducible assumption | with_reducible refine Below.drew ?_ | with_reducible refine below_drewN ?_ _ | with_reducible refine below_al ?_ _ | with_reducible refine Below.setCell ?_ ?_ _ | exact Nat.le_refl _ | omega | (simp; done) | (simp; omega)))⟩
          · obtain rfl : j = 2 := by omega
            rcases HV.out with ⟨h0, _⟩ | ⟨h0, _⟩ | ⟨_, x, y, hx, hy, hvx⟩
            · omega
            · omega
            have hx16 := rnib_16 hx
            have hy16 := rnib_16 hy
            have HK' := Lib.hid ((unhexP_go hlt (by rw [← HA.out]; exact hx) (by rw [← HBB.out]; exact hy) acc).symm.trans HK.out)
            obtain ⟨d, hd⟩ : ∃ d, d = UInt8.ofNat (16 * x + y) := ⟨_, rfl⟩
            rw [← hd] at HK'
            have HDN := Lib.hid (show (v : Int) = (d.toNat : Int) by rw [hd, hvx]; simp; omega)
            clear hx hy hd hvx
            go_wp2_with (at_builtin; refine wpList_app1 rfl (.tmp 57) (.tmp 60) 62 5 rfl Tryd.underlying62 uint8_info rfl (by decide) _ _ rfl (by intro u hu; simp at hu; subst hu; rfl) w.heap.size _ _ _ rfl howna rfl (by simp only [maxLen]; omega) (by omega) hba.size w.heap.size (Nat.le_refl _) ?_; intro v1 w1 hown1 hb1)
            go_roundw
            case rel => exact ⟨k + 2, acc ++ [d], by omega, by simp; omega, by go_num, by simpa [u8s_snoc, HDN.out] using hown1, hba.trans hb1, HK'⟩
            case measure => simp [intOf]; omega
    · have d0 : decide ((k : Int) + 1 < (s.size : Int)) = false := decide_eq_false (by omega)
      have hf : T = some acc := by rw [← HK.out, unhexP_end (by omega)]; simp
      subst hf
      have hback := back_own (P := Tryd.prog) Tryd.underlying62 Tryd.underlying5 Tryd.underlying9 hown
      go_wp2
      go_ret2
      refine ⟨ret_2 rfl (congrArg Value.bool ?_), hb⟩
      rw [Bool.eq_iff_iff]
      simp
      omega
end Go.Proofs.YtoekddkkjbcicaaDoor
