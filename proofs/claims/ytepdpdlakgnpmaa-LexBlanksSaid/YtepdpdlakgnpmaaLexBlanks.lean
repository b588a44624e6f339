/- tomelaw24.LexBlanks returns true at every text and every row of gaps: the tokens of a text, set apart by blanks or comments, are its tokens again. No condition. -/
import Derived.Test.YtepdpdlakgnpmaaLexWords
import Derived.Test.YtepdpdlakgnpmaaLxI
import Derived.ChangeOld
import Derived.OpenShut
set_option linter.unusedVariables false
set_option linter.unusedSimpArgs false
namespace Go.Proofs.Ytepdpdlakgnpmaa
open Go.RowKit
open Go.ChangeShapes Go.WideShapes Go.ChangeAt Go.ChangeMaps
attribute [local simp] Lx.bs_size
/-- A row of bytes that came in. -/
def ByteRow (w : World) (a : Option Addr) (hl : List UInt8) : Prop :=
  hl = [] ∨ ∃ b off, a = some ⟨b, off, none⟩ ∧ b < w.heap.size ∧ ∀ i c, hl[i]? = some c → w.cell? ⟨b, off + i, none⟩ = some (.int .u8 (c.toNat : Int))
def IsRow (k : IntKind) (w : World) (a : Option Addr) (len cap : Nat) (zs : List Int) : Prop :=
  (a = none ∧ len = 0 ∧ cap = 0 ∧ zs = []) ∨
  ∃ x, a = some x ∧ len ≤ cap ∧ cap ≤ maxLen ∧ zs.length = cap ∧ (∀ i, i < zs.length → w.cell? (x.add i) = some (.int k (zs.getD i 0))) ∧ ∀ n ∈ zs, (Lit.int k n).wf = true
theorem cell_block {w : World} {p : Addr} {v : Value} (h : w.cell? p = some v) : p.block < w.heap.size := by
  rw [← Nat.not_le]
  intro h2
  unfold World.cell? at h
  simp [Array.getElem?_eq_none h2] at h
theorem byteRow_of {w : World} {a : Option Addr} {len cap : Nat} {zs : List Int} (h : IsRow .u8 w a len cap zs) :
    ∃ hl : List UInt8, hl.length = len ∧ ByteRow w a hl := by
  rcases h with ⟨rfl, rfl, rfl, rfl⟩ | ⟨x, rfl, hl, hm, hz, hc, hw⟩
  · exact ⟨[], rfl, .inl rfl⟩
  · refine ⟨(zs.take len).map fun z => UInt8.ofNat z.toNat, by simp; omega, ?_⟩
    by_cases h0 : len = 0
    · subst h0; exact .inl (by simp)
    · right
      obtain ⟨b, off, spot⟩ := x
      have hc0 := hc 0 (by omega)
      have hspot : spot = none := by simpa [Addr.add] using World.cell?_spot hc0
      subst hspot
      refine ⟨b, off, rfl, cell_block hc0, fun i c hi => ?_⟩
      rw [List.getElem?_map] at hi
      obtain ⟨z, hz1, hz2⟩ : ∃ z, (zs.take len)[i]? = some z ∧ UInt8.ofNat z.toNat = c := by
        cases e : (zs.take len)[i]? with
        | none => rw [e] at hi; cases hi
        | some z => rw [e] at hi; exact ⟨z, rfl, by simpa using hi⟩
      have hi2 : i < zs.length := by
        have := (List.getElem?_eq_some_iff.1 hz1).1
        simp at this; omega
      have hz3 : zs.getD i 0 = z := by
        have := (List.getElem?_eq_some_iff.1 hz1).2
        simp at this
        simp [List.getD, hi2, this]
      have hb := bounds_u8 (hw z (by rw [← hz3]; simp [List.getD, hi2]))
      have h2 := hc i hi2
      rw [hz3] at h2
      have hcz : (c.toNat : Int) = z := by
        rw [← hz2]
        simp
        omega
      rw [hcz]
      rw [add_plain] at h2
      exact h2
theorem byteRow_keep {W w1 : World} {a : Option Addr} {hl : List UInt8} (h : ByteRow W a hl) (hb : Below W.heap.size W w1) : ByteRow w1 a hl := by
  rcases h with h | ⟨b, off, h1, h2, h3⟩
  · exact .inl h
  · exact .inr ⟨b, off, h1, Nat.lt_of_lt_of_le h2 hb.size, fun i c hi => (hb.cell (p := ⟨b, off + i, none⟩) h2).trans (h3 i c hi)⟩
theorem Lx.bs_cat (a b : List UInt8) : Lx.bs (a ++ b) = Lx.bs a ++ Lx.bs b := (Lx.bs_append a b).symm
theorem lexBlanks_great (s : ByteArray) (a : Option Addr) (len cap : Nat) (w : World) (hs : 5000 < s.size ∨ 5000 < len) :
    Calls Try.prog 5 #[.string s, .slice a len cap] w fun e w' => e = .returned (.bool true) ∧ Below w.heap.size w w' := by
  by_cases h1 : 5000 < s.size
  · have d1 : decide (5000 < (s.size : Int)) = true := decide_eq_true (by omega)
    go_enter Try.func5, Try.ntmps5
    go_wp2_with fail
    refine (awake_any w).mono ?_
    rintro e w1 ⟨rfl, hb1⟩
    go_wp2_with fail
    refine (awake_any w1).mono ?_
    rintro e w2 ⟨rfl, hb2⟩
    go_wp2
    go_ret
    exact ⟨rfl, below_next hb1 hb2⟩
  · have d1 : decide (5000 < (s.size : Int)) = false := decide_eq_false (by omega)
    have d2 : decide (5000 < (len : Int)) = true := decide_eq_true (by omega)
    go_enter Try.func5, Try.ntmps5
    go_wp2_with fail
    refine (awake_any w).mono ?_
    rintro e w1 ⟨rfl, hb1⟩
    go_wp2_with fail
    refine (awake_any w1).mono ?_
    rintro e w2 ⟨rfl, hb2⟩
    go_wp2
    go_ret
    exact ⟨rfl, below_next hb1 hb2⟩
set_option maxHeartbeats 4000000 in
theorem lexBlanks_small (s : ByteArray) (a : Option Addr) (len cap : Nat) (hl : List UInt8) (w : World) (hs : ¬ 5000 < s.size) (hn : ¬ 5000 < len) (hll : hl.length = len) (hrow : ByteRow w a hl) :
    Calls Try.prog 5 #[.string s, .slice a len cap] w fun e w' => e = .returned (.bool true) ∧ Below w.heap.size w w' := by
  have d1 : decide (5000 < (s.size : Int)) = false := decide_eq_false (by omega)
  have d2 : decide (5000 < (len : Int)) = false := decide_eq_false (by omega)
  have HLL := Lib.hid hll
  clear hll
  obtain ⟨R, hR⟩ : ∃ R, R = Lx.scan (Lx.ls s) := ⟨_, rfl⟩
  obtain ⟨l, at_, er⟩ := R
  by_cases he : er = 0
  · subst he
    obtain ⟨ext, hlex, hle, hext, hrise, hsz⟩ := Lx.scan_lexed hR.symm
    have hrise2 := Lx.rise_end (Nat.zero_le _) hrise
    rw [← hle] at hrise2
    rw [Lx.ls_length] at hrise2 hle
    have hlen : l.length = ext.length + 1 := by rw [hle]; simp
    have htx : ∀ t ∈ l, t.1.text.length ≤ 5000 := by
      intro t ht
      rw [hle, List.mem_append] at ht
      rcases ht with ht | ht
      · have h2 := Lx.lexed_text hlex t.1 (List.mem_map_of_mem ht)
        have h3 : ((Lx.ls s).drop (Lx.skipN false (Lx.ls s))).length ≤ s.size := by rw [List.length_drop, Lx.ls_length]; omega
        omega
      · simp at ht
        rw [ht]
        exact Nat.zero_le _
    have hmap : l.map (·.1) = ext.map (·.1) ++ [Lx.endT] := by rw [hle]; simp
    have hok := Lx.lexed_ok hlex
    obtain ⟨F, hF⟩ : ∃ F, F = Lx.wove (Lx.gapOf hl) (l.map (·.1)) 0 := ⟨_, rfl⟩
    have hfin : F.length ≤ 65536 → ∃ m : List Lx.TA, Lx.scan F = (m, 0, 0) ∧ m.map (·.1) = l.map (·.1) := by
      intro h
      rw [hF, hmap] at h ⊢
      obtain ⟨e2, g1, g2⟩ := Lx.wove_scan (Lx.gapOf_mem hl) hok h (by simpa using hext)
      exact ⟨_, g1, by rw [List.map_append, g2]; rfl⟩
    have HFIN := Lib.hid hfin
    have HR := Lib.hid hR
    have HTX := Lib.hid htx
    have HF := Lib.hid hF
    have HRI := Lib.hid hrise2
    clear hR hfin htx hF hrise2 hrise hle hlex hok hmap hsz
    have hlen : l.length ≤ 4097 := by omega
    have hlen1 : 1 ≤ l.length := by omega
    clear hext
    go_enter Try.func5, Try.ntmps5
    go_wp2_with fail
    refine (awake_any w).mono ?_
    rintro e w1 ⟨rfl, hb1⟩
    go_wp2_with fail
    refine (scan_any s w1 (by omega)).mono ?_
    rintro e w2 ⟨v2, rfl, hown2, hb2⟩
    rw [← HR.out] at hown2 ⊢
    have hB2 := below_next (w := w) hb1 hb2
    have ht2 := toks_of_own hown2
    have hrow2 := byteRow_keep hrow hB2
    clear hown2 hb1 hb2 hrow
    obtain ⟨n, hn2⟩ : ∃ n, n = l.length := ⟨_, rfl⟩
    have HN := Lib.hid hn2
    rw [← hn2] at hlen hlen1
    have HT2 := Lib.hid ht2
    rcases ht2 with ⟨h0, rfl⟩ | ⟨g2, c2, rfl, hg2, hc2, hm2, hx2⟩
    · subst h0; simp at hn2; omega
    rw [← hn2] at hc2 ⊢
    have HX2 := Lib.hid hx2
    have HROW := Lib.hid hrow2
    clear hx2 hn2 hrow2
    go_wp2
    go_loopw [8, 9, 10, 11] (fun o la i _ wr => ∃ (k lo : Nat) (lz : Int) (acc : List UInt8), k ≤ n ∧ i = .int .i64 k ∧ la = .int .i64 lz ∧ lz < lo ∧ o = .string (Lx.bs acc) ∧ acc.length ≤ k * 5007 ∧ Below w2.heap.size w2 wr ∧ Hid (Lx.Rise (s.size + 1) lo (l.drop k)) ∧ Hid (acc ++ Lx.wove (Lx.gapOf hl) ((l.drop k).map (·.1)) k = F)) (fun _ _ i _ _ => n - (intOf i).toNat)
    case atStart => exact ⟨0, 0, -1, [], by omega, rfl, rfl, by omega, rfl, by simp, Below.refl _ _, HRI, Lib.hid HF.out.symm⟩
    case round =>
      obtain ⟨k, lo, lz, acc, hk, rfl, rfl, hlz, rfl, hacc, hbw, HRS, HA⟩ := hrel
      by_cases hlt : k < n
      · have dl : decide ((k : Int) < (n : Int)) = true := decide_eq_true (by omega)
        obtain ⟨t, ht⟩ : ∃ t, l[k]? = some t := ⟨_, List.getElem?_eq_getElem (by rw [← HN.out]; exact hlt)⟩
        have hdrop : l.drop k = t :: l.drop (k + 1) := by
          obtain ⟨h1, h2⟩ := List.getElem?_eq_some_iff.1 ht
          rw [List.drop_eq_getElem_cons h1, h2]
        have hr := HRS.out
        rw [hdrop] at hr
        obtain ⟨hr1, hr2, hr3⟩ := hr
        have HRS' := Lib.hid hr3
        obtain ⟨⟨tk, tt, tv⟩, tp⟩ := t
        simp only at hr1 hr2 HRS'
        have htl : tt.length ≤ 5000 := HTX.out _ (List.mem_of_getElem? ht)
        have hsz1 : (Lx.bs tt).size ≤ 5000 := by rw [Lx.bs_size]; exact htl
        have hgb := Lx.gap_len (Lx.gapOf_mem hl k)
        obtain ⟨gp, hgp⟩ : ∃ gp, gp = Lx.gapOf hl k := ⟨_, rfl⟩
        rw [← hgp] at hgb
        have HA' : Hid (acc ++ gp ++ tt ++ Lx.wove (Lx.gapOf hl) ((l.drop (k + 1)).map (·.1)) (k + 1) = F) := by
          unfold Hid; rw [← HA.out, hdrop, hgp]; simp [Lx.wove]
        have hg3 : g2 < wr.heap.size := Nat.lt_of_lt_of_le hg2 hbw.size
        have a5 : wr.cell? ⟨g2, k * 6 + 5, none⟩ = some (.int .i64 (tp : Int)) := (hbw.cell (p := ⟨g2, k * 6 + 5, none⟩) hg2).trans (HX2.out _ _ (flat_at ht (j := 5) (by omega)))
        have a1 : wr.cell? ⟨g2, k * 6 + 1, none⟩ = some (.string (Lx.bs tt)) := (hbw.cell (p := ⟨g2, k * 6 + 1, none⟩) hg2).trans (HX2.out _ _ (flat_at ht (j := 1) (by omega)))
        have dp : decide ((tp : Int) ≤ lz) = false := decide_eq_false (by omega)
        have ds : decide ((s.size : Int) < (tp : Int)) = false := decide_eq_false (by omega)
        clear hdrop ht hr3 htl
        by_cases hkl : k < len
        · have dk : decide ((k : Int) < (len : Int)) = true := decide_eq_true (by omega)
          obtain ⟨c, hc⟩ : ∃ c, hl[k]? = some c := ⟨_, List.getElem?_eq_getElem (by rw [HLL.out]; exact hkl)⟩
          rcases HROW.out with h0 | ⟨b, off, rfl, hbs, hcell⟩
          · rw [h0] at hc; cases hc
          have hb3 : b < wr.heap.size := Nat.lt_of_lt_of_le hbs hbw.size
          have m0 : wr.cell? ⟨b, off + k, none⟩ = some (.int .u8 (c.toNat : Int)) := (hbw.cell (p := ⟨b, off + k, none⟩) hbs).trans (hcell k c hc)
          rw [Lx.gapOf_some hc] at hgp
          obtain ⟨q, hq⟩ : ∃ q, q = c.toNat % 5 := ⟨_, rfl⟩
          have hq5 : q < 5 := by rw [hq]; exact Nat.mod_lt _ (by omega)
          rw [← hq] at hgp
          have HC := Lib.hid hcell
          have HQ := Lib.hid hq
          have hc256 : c.toNat < 256 := c.toNat_lt
          have hq2 : Int.tmod (c.toNat : Int) 5 = (q : Int) := by rw [hq]; rfl
          clear hcell hc hq
          rcases (show q = 0 ∨ q = 1 ∨ q = 2 ∨ q = 3 ∨ q = 4 by omega) with rfl | rfl | rfl | rfl | rfl
          · have hgp2 : gp = [32] := hgp
            subst hgp2
            clear hgp hgb hq5
            have htl2 : tt.length ≤ 5000 := by rw [← Lx.bs_size]; exact hsz1
            go_wp2
            go_roundw
            case rel => exact ⟨k + 1, tp + 1, tp, acc ++ [32] ++ tt, by omega, by go_num, rfl, by omega, by simp only [Lx.bs_cat]; rfl, by simp only [List.length_append, List.length_cons, List.length_nil]; omega, by (repeat (first | with_reducible exact Below.refl _ _ | with_reducible assumption | with_reducible refine Below.drew ?_ | with_reducible refine below_drewN ?_ _ | with_reducible refine below_al ?_ _ | with_reducible refine Below.setCell ?_ ?_ _ | exact Nat.le_refl _ | omega | (simp; done) | (simp; omega))), HRS', HA'⟩
            case measure => simp [intOf]; omega
          · have hgp2 : gp = [10] := hgp
            subst hgp2
            clear hgp hgb hq5
            have htl2 : tt.length ≤ 5000 := by rw [← Lx.bs_size]; exact hsz1
            go_wp2
            go_roundw
            case rel => exact ⟨k + 1, tp + 1, tp, acc ++ [10] ++ tt, by omega, by go_num, rfl, by omega, by simp only [Lx.bs_cat]; rfl, by simp only [List.length_append, List.length_cons, List.length_nil]; omega, by (repeat (first | with_reducible exact Below.refl _ _ | with_reducible assumption | with_reducible refine Below.drew ?_ | with_reducible refine below_drewN ?_ _ | with_reducible refine below_al ?_ _ | with_reducible refine Below.setCell ?_ ?_ _ | exact Nat.le_refl _ | omega | (simp; done) | (simp; omega))), HRS', HA'⟩
            case measure => simp [intOf]; omega
          · have hgp2 : gp = [9, 13, 32] := hgp
            subst hgp2
            clear hgp hgb hq5
            have htl2 : tt.length ≤ 5000 := by rw [← Lx.bs_size]; exact hsz1
            go_wp2
            go_roundw
            case rel => exact ⟨k + 1, tp + 1, tp, acc ++ [9, 13, 32] ++ tt, by omega, by go_num, rfl, by omega, by simp only [Lx.bs_cat]; rfl, by simp only [List.length_append, List.length_cons, List.length_nil]; omega, by (repeat (first | with_reducible exact Below.refl _ _ | with_reducible assumption | with_reducible refine Below.drew ?_ | with_reducible refine below_drewN ?_ _ | with_reducible refine below_al ?_ _ | with_reducible refine Below.setCell ?_ ?_ _ | exact Nat.le_refl _ | omega | (simp; done) | (simp; omega))), HRS', HA'⟩
            case measure => simp [intOf]; omega
          · have hgp2 : gp = [32, 45, 45, 39, 120, 10] := hgp
            subst hgp2
            clear hgp hgb hq5
            have htl2 : tt.length ≤ 5000 := by rw [← Lx.bs_size]; exact hsz1
            go_wp2
            go_roundw
            case rel => exact ⟨k + 1, tp + 1, tp, acc ++ [32, 45, 45, 39, 120, 10] ++ tt, by omega, by go_num, rfl, by omega, by simp only [Lx.bs_cat]; rfl, by simp only [List.length_append, List.length_cons, List.length_nil]; omega, by (repeat (first | with_reducible exact Below.refl _ _ | with_reducible assumption | with_reducible refine Below.drew ?_ | with_reducible refine below_drewN ?_ _ | with_reducible refine below_al ?_ _ | with_reducible refine Below.setCell ?_ ?_ _ | exact Nat.le_refl _ | omega | (simp; done) | (simp; omega))), HRS', HA'⟩
            case measure => simp [intOf]; omega
          · have hgp2 : gp = [32, 45, 45, 32, 59, 10, 32] := hgp
            subst hgp2
            clear hgp hgb hq5
            have htl2 : tt.length ≤ 5000 := by rw [← Lx.bs_size]; exact hsz1
            go_wp2
            go_roundw
            case rel => exact ⟨k + 1, tp + 1, tp, acc ++ [32, 45, 45, 32, 59, 10, 32] ++ tt, by omega, by go_num, rfl, by omega, by simp only [Lx.bs_cat]; rfl, by simp only [List.length_append, List.length_cons, List.length_nil]; omega, by (repeat (first | with_reducible exact Below.refl _ _ | with_reducible assumption | with_reducible refine Below.drew ?_ | with_reducible refine below_drewN ?_ _ | with_reducible refine below_al ?_ _ | with_reducible refine Below.setCell ?_ ?_ _ | exact Nat.le_refl _ | omega | (simp; done) | (simp; omega))), HRS', HA'⟩
            case measure => simp [intOf]; omega
        · have dk : decide ((k : Int) < (len : Int)) = false := decide_eq_false (by omega)
          rw [Lx.gapOf_none (by rw [HLL.out]; omega)] at hgp
          subst hgp
          clear hgb
          have htl2 : tt.length ≤ 5000 := by rw [← Lx.bs_size]; exact hsz1
          go_wp2
          go_roundw
          case rel => exact ⟨k + 1, tp + 1, tp, acc ++ [32] ++ tt, by omega, by go_num, rfl, by omega, by simp only [Lx.bs_cat]; rfl, by simp only [List.length_append, List.length_cons, List.length_nil]; omega, hbw, HRS', HA'⟩
          case measure => simp [intOf]; omega
      · obtain rfl : k = n := by omega
        have hF2 : acc = F := by rw [← HA.out, List.drop_eq_nil_of_le (by rw [← HN.out]; omega)]; simp [Lx.wove]
        have HF2 := Lib.hid hF2
        subst hF2
        by_cases hbig : 65536 < acc.length
        · have db : decide (65536 < (acc.length : Int)) = true := decide_eq_true (by omega)
          go_wp2
          go_ret
          exact ⟨rfl, below_next hB2 hbw⟩
        · have db : decide (65536 < (acc.length : Int)) = false := decide_eq_false (by omega)
          obtain ⟨m, hm, hmm⟩ := HFIN.out (by omega)
          have HM := Lib.hid hm
          have HMM := Lib.hid hmm
          clear hm hmm
          go_wp2_with fail
          refine (scan_any _ wr (by simp; omega)).mono ?_
          rintro e w3 ⟨v3, rfl, hown3, hb3⟩
          rw [Lx.ls_bs, HM.out] at hown3 ⊢
          have ht3 := toks_of_own hown3
          have ht2 := toks_keep (toks_keep HT2.out hbw) hb3
          rw [← HN.out] at ht2
          clear hown3
          go_wp2_with fail
          refine (same_any _ _ m l w3 ht3 ht2 ?_ HMM.out).mono ?_
          · have := congrArg List.length HMM.out
            simp at this
            rw [this, ← HN.out]; omega
          rintro e w4 ⟨rfl, hb4⟩
          go_wp2
          go_ret
          exact ⟨rfl, below_next (below_next (below_next hB2 hbw) hb3) hb4⟩
  · have he' : (er == 0) = false := by simpa using he
    have he2 : (er != 0) = true := by simpa using he
    have HR := Lib.hid hR
    clear hR
    go_enter Try.func5, Try.ntmps5
    go_wp2_with fail
    refine (awake_any w).mono ?_
    rintro e w1 ⟨rfl, hb1⟩
    go_wp2_with fail
    refine (scan_any s w1 (by omega)).mono ?_
    rintro e w2 ⟨v2, rfl, hown2, hb2⟩
    rw [← HR.out] at hown2 ⊢
    clear hown2
    go_wp2
    go_ret
    exact ⟨rfl, below_next hb1 hb2⟩
theorem lexBlanks_any (s : ByteArray) (a : Option Addr) (len cap : Nat) (hl : List UInt8) (w : World) (hll : hl.length = len) (hrow : ByteRow w a hl) :
    Calls Try.prog 5 #[.string s, .slice a len cap] w fun e w' => e = .returned (.bool true) ∧ Below w.heap.size w w' := by
  by_cases hs : 5000 < s.size ∨ 5000 < len
  · exact lexBlanks_great s a len cap w hs
  · exact lexBlanks_small s a len cap hl w (fun h => hs (.inl h)) (fun h => hs (.inr h)) hll hrow
theorem laidOut_ : laidOutB Try.prog = true := by kernel_rfl
set_option maxRecDepth 100000 in
theorem lexBlanks_lifted (os : Os) (started : os.Started) (H : Type) (enc : TypeId × Value → H) :
    ReturnsInHanded {} Try.checked os 5 .any (Rows.lexBlanksSpec.pre6 enc Try.prog Try.f5 Rows.lexBlanksRow.domain false) (Rows.lexBlanksSpec.post enc Try.prog Try.f5 false true false false) := by
  refine returnsInHanded_of_change (C := Try.checked) own_ started (by kernel_rfl) Try.func5
    (ChangeSpec.witness6 (enc := enc) (C := Try.checked) false ⟨#[], #[.string ⟨#[]⟩, .slice none 0 0], []⟩ 8 (by kernel_rfl) (by kernel_rfl) (by kernel_rfl) (by kernel_rfl)) ?_
  intro W base args ds gs before hval0 hW hcnd _
  have hval : ∀ (j : Nat) t v, Try.f5.params[j]? = some t → args[j]? = some v → Value.okWide Try.prog W .any base t v := hval0
  have hW' := hW
  obtain ⟨p, q, hA0, hV, rfl, hfz, hnd⟩ := hW
  have hA : DataW.TrodAll enc Try.prog W 0 (fun _ => true) true Try.f5.params.toList args.toList ds p := hA0
  rw [Try.params5] at hA hval
  obtain ⟨v0, vs0, d0, ds0, p0, q0, hargs, rfl, rfl, h0, r0⟩ := trodAll_cons hA
  obtain ⟨v1, vs1, d1, ds1, p1, q1, rfl, rfl, rfl, h1, r1⟩ := trodAll_cons r0
  obtain ⟨rfl, rfl, rfl⟩ := trodAll_nil r1
  obtain rfl : args = #[v0, v1] := by cases args; simp_all
  obtain ⟨rfl, rfl⟩ := trodVars_none hV
  obtain ⟨s, rfl, rfl, rfl, ws⟩ := open_string Try.underlying9 (hval 0 9 v0 rfl rfl) h0
  obtain ⟨a1, len1, cap1, rfl⟩ := okWide_slice Try.underlying36 (hval 1 36 v1 rfl rfl)
  have k1 := h1
  have lt1 : ∀ x ∈ p1, x.block < W.heap.size := by obtain ⟨m, hm⟩ := k1; exact DataW.trod_lt m _ _ _ hm
  obtain ⟨z1, w1⟩ : ∃ zs, IsRow .u8 W a1 len1 cap1 zs := by
    obtain ⟨fuel, hf⟩ := h1
    rcases open_ints Try.underlying36 Try.underlying5 (by kernel_rfl) hf with ⟨hcs, _⟩ | ⟨x, l, c, zs, hcs, _, hl, hm, hz, _, hcell, hwz⟩
    · simp [Value.cells] at hcs
      obtain ⟨rfl, rfl, rfl⟩ := hcs
      exact ⟨[], .inl ⟨rfl, rfl, rfl, rfl⟩⟩
    · simp [Value.cells] at hcs
      obtain ⟨rfl, rfl, rfl⟩ := hcs
      exact ⟨zs, .inr ⟨_, rfl, hl, hm, by simpa using hz, hcell, hwz⟩⟩
  obtain ⟨hl, hll, hrow⟩ := byteRow_of w1
  clear hA0 hval0
  simp only [List.append_nil, List.nil_append] at hW'
  refine (lexBlanks_any s a1 len1 cap1 hl W hll hrow).mono fun e W' ⟨he, hg⟩ => ?_
  subst he
  exact ⟨_, rfl, post_below (pa := p1) (pv := []) hW' (fun _ _ _ => (trodAll_cons_mk (shut_bool Try.underlying4 _) trodAll_mk0)) (fun sp hsp => by have h := (trodAll_cons_mk (shut_string Try.underlying9 ws) (trodAll_cons_mk (Go.WideElems.Trod_stays laidOut_ (by kernel_rfl) (of_decide_eq_true (by kernel_rfl)) k1 (fun x hx => hg.same (lt1 x hx)) (fun x hx => hsp x (by simpa using hx))) trodAll_mk0)); simp only [List.nil_append, List.append_nil] at h; exact h) (fun _ _ => rfl) (by simp) hg (ok_one (by kernel_rfl) rfl (okWide_bool_mk Try.underlying4 _))⟩
theorem lexBlanks_holds : Rows.LexBlanksSaid :=
  OpenClaim.holds_of_wide 5 Try.f5 rfl rfl rfl rfl rfl rfl rfl ⟨rfl, rfl, rfl, rfl, rfl⟩ rfl rfl rfl rfl rfl (by kernel_rfl) Try.func5 (by kernel_rfl)
    (of_decide_eq_true (by kernel_rfl)) (by unfold Func.isWrapper; first | (rw [if_pos (by decide +kernel)]; kernel_rfl) | (rw [if_neg (by decide +kernel)]; exact ⟨rfl, rfl⟩))
    (fun os started H enc _ => lexBlanks_lifted os started H enc)
#print axioms lexBlanks_holds
end Go.Proofs.Ytepdpdlakgnpmaa
