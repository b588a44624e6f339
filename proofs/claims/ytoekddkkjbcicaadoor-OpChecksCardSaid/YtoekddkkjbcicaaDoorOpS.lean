import Derived.Test.YtoekddkkjbcicaaDoorOpR
set_option linter.unusedVariables false
set_option linter.unusedSimpArgs false
namespace Go.Proofs.YtoekddkkjbcicaaDoor
open Go.RowKit
attribute [local simp] Lx.bs_size
/-- An instruction whose parts are within bounds. -/
def OFit (o : Ox.Op) : Prop := o.keys.length ≤ 100000 ∧ KeyFit o.keys ∧ o.name.length ≤ 1000000 ∧ o.vs.length ≤ 1000000 ∧ (-9223372036854775808 ≤ o.p1 ∧ o.p1 ≤ 9223372036854775807) ∧ (-9223372036854775808 ≤ o.p2 ∧ o.p2 ≤ 9223372036854775807) ∧ (-9223372036854775808 ≤ o.p3 ∧ o.p3 ≤ 9223372036854775807) ∧ (-9223372036854775808 ≤ o.vn ∧ o.vn ≤ 9223372036854775807)
theorem names_short : ∀ i : Fin 34, ∃ f, Ox.names[i.val]? = some f ∧ f.length ≤ 20 := by decide
theorem line_any (o : Ox.Op) (kv : Value) (w : World) (hl : Laid w) (hk : KAt w kv o.keys) (hco : Ox.coded o = true) (hfit : OFit o) :
    Calls Tryd.prog 31 #[.agg #[.int .i64 o.code, .int .i64 o.p1, .int .i64 o.p2, .int .i64 o.p3, .int .i64 o.vk, .int .i64 o.vn, .string (Lx.bs o.vs), kv, .string (Lx.bs o.name)]] w fun e w' => e = .returned (.string (Lx.bs (Ox.line o))) ∧ Below w.heap.size w w' := by
  obtain ⟨q1, q2, q3, q4, ⟨b1, b2⟩, ⟨b3, b4⟩, ⟨b5, b6⟩, b7, b8⟩ := hfit
  unfold Ox.coded at hco
  simp only [Bool.and_eq_true, decide_eq_true_eq] at hco
  obtain ⟨c, hc⟩ : ∃ c : Nat, o.code = (c : Int) := ⟨o.code.toNat, by omega⟩
  have hc34 : c < 34 := by omega
  obtain ⟨f, hf, hf6, hfe⟩ := form_at (c := c) (by omega)
  obtain ⟨nm, hnm, hnml⟩ := names_short ⟨c, hc34⟩
  have hnm' : Ox.names[c]? = some nm := hnm
  have he := line_eq o nm f (by rw [hc]; simp [hnm']) (by rw [hc]; exact hfe)
  rw [he]
  by_cases g3 : (Ox.at_ f 3).toNat = 46
  · by_cases g4 : (Ox.at_ f 4).toNat = 46
    · rw [Ox.partV, if_pos g3, Ox.partS, if_pos g4]
      exact line_00 o kv w hl hk q1 q2 q3 q4 b1 b2 b3 b4 b5 b6 b7 b8 c hc34 hc f nm hf hf6 hnm' hnml g3 g4
    · rw [Ox.partV, if_pos g3, Ox.partS, if_neg g4]
      exact line_01 o kv w hl hk q1 q2 q3 q4 b1 b2 b3 b4 b5 b6 b7 b8 c hc34 hc f nm hf hf6 hnm' hnml g3 g4
  · by_cases g4 : (Ox.at_ f 4).toNat = 46
    · rw [Ox.partV, if_neg g3, Ox.partS, if_pos g4]
      exact line_10 o kv w hl hk q1 q2 q3 q4 b1 b2 b3 b4 b5 b6 b7 b8 c hc34 hc f nm hf hf6 hnm' hnml g3 g4
    · rw [Ox.partV, if_neg g3, Ox.partS, if_neg g4]
      exact line_11 o kv w hl hk q1 q2 q3 q4 b1 b2 b3 b4 b5 b6 b7 b8 c hc34 hc f nm hf hf6 hnm' hnml g3 g4
/-- The words that are left, as a reading object holds them. -/
def WAt (w : World) (g : Nat) (v : Value) (l : List Ox.S) : Prop :=
  (l = [] ∧ ∃ a c, v = .slice a 0 c) ∨ ∃ b off c, v = .slice (some ⟨b, off, none⟩) l.length c ∧ b < g ∧ b < w.heap.size ∧ l.length ≤ c ∧ c ≤ maxLen ∧ ∀ j p, l[j]? = some p → w.cell? ⟨b, off + j, none⟩ = some (.string (Lx.bs p))
def WBlk (w : World) (g : Nat) (W : Ox.W) : Prop := ∃ v, w.heap[g]? = some (.cells #[v, .bool W.2] 66) ∧ WAt w g v W.1
theorem next_nil (w : World) (g : Nat) (ok : Bool) (a : Option Addr) (c : Nat) (K : w.heap[g]? = some (.cells #[.slice a 0 c, .bool ok] 66)) :
    Calls Tryd.prog 33 #[.pointer (some ⟨g, 0, none⟩)] w fun e w' => e = .returned (.string ⟨#[]⟩) ∧ w' = w.setCell ⟨g, 1, none⟩ (.bool false) := by
  obtain ⟨cc, ff⟩ := blk_cells K
  have c0 := cc 0 _ rfl; have c1 := cc 1 _ rfl
  have f0 := ff 0; have f1 := ff 1
  clear cc ff
  go_enter Tryd.func33, Tryd.ntmps33
  go_wp2
  go_ret
  exact ⟨rfl, rfl⟩
theorem next_cons (w : World) (g : Nat) (ok : Bool) (b off n c : Nat) (p : Ox.S) (K : w.heap[g]? = some (.cells #[.slice (some ⟨b, off, none⟩) (n + 1) c, .bool ok] 66)) (hc : n + 1 ≤ c) (hcm : c ≤ maxLen) (hp : w.cell? ⟨b, off, none⟩ = some (.string (Lx.bs p))) :
    Calls Tryd.prog 33 #[.pointer (some ⟨g, 0, none⟩)] w fun e w' => e = .returned (.string (Lx.bs p)) ∧ ∃ ad, w' = w.setCell ⟨g, 0, none⟩ (.slice (some ad) n (c - 1)) ∧ (0 < n → ad = ⟨b, off + 1, none⟩) := by
  obtain ⟨cc, ff⟩ := blk_cells K
  have c0 : w.cell? ⟨g, 0, none⟩ = some (.slice (some ⟨b, off, none⟩) (n + 1) c) := cc 0 _ rfl
  have c1 : w.cell? ⟨g, 1, none⟩ = some (.bool ok) := cc 1 _ rfl
  have f0 := ff 0; have f1 := ff 1
  clear cc ff
  go_enter Tryd.func33, Tryd.ntmps33
  go_wp2
  all_goals
    go_ret
    first
      | exact ⟨rfl, _, rfl, fun _ => rfl⟩
      | (have h1 : c = 1 := by assumption
         subst h1
         exact ⟨rfl, _, rfl, fun h0 => by omega⟩)
theorem next_any (w : World) (g : Nat) (W : Ox.W) (hW : WBlk w g W) :
    Calls Tryd.prog 33 #[.pointer (some ⟨g, 0, none⟩)] w fun e w' => e = .returned (.string (Lx.bs (Ox.nxS W))) ∧ (∃ p u, w' = w.setCell ⟨g, p, none⟩ u) ∧ WBlk w' g (Ox.nxW W) := by
  obtain ⟨l, ok⟩ := W
  obtain ⟨v, K, hat⟩ := hW
  cases l with
  | nil =>
    rcases hat with ⟨_, a, c, rfl⟩ | ⟨b, off, c, rfl, _⟩
    · refine (next_nil w g ok a c K).mono ?_
      rintro e w' ⟨rfl, rfl⟩
      exact ⟨rfl, ⟨_, _, rfl⟩, _, heap_set K, .inl ⟨rfl, a, c, rfl⟩⟩
    · refine (next_nil w g ok _ c K).mono ?_
      rintro e w' ⟨rfl, rfl⟩
      exact ⟨rfl, ⟨_, _, rfl⟩, _, heap_set K, .inl ⟨rfl, _, c, rfl⟩⟩
  | cons p r =>
    rcases hat with ⟨h, _⟩ | ⟨b, off, c, rfl, hbg, hb, hc, hm, hx⟩
    · cases h
    · refine (next_cons w g ok b off r.length c p K hc hm (by simpa using hx 0 p rfl)).mono ?_
      rintro e w' ⟨rfl, ad, rfl, had⟩
      refine ⟨rfl, ⟨_, _, rfl⟩, _, heap_set K, ?_⟩
      by_cases h0 : r.length = 0
      · exact .inl ⟨List.eq_nil_of_length_eq_zero h0, _, _, by rw [h0]⟩
      · have hc' : r.length + 1 ≤ c := hc
        refine .inr ⟨b, off + 1, c - 1, by rw [had (by omega)]; rfl, hbg, by simpa using hb, by show r.length ≤ c - 1; omega, by omega, fun j q hq => ?_⟩
        rw [World.cell?_setCell_other _ _ _ _ (by intro h; simp only [Addr.mk.injEq] at h; have := h.1; omega)]
        have := hx (j + 1) q (by have hq2 : r[j]? = some q := hq; simpa using hq2)
        rw [show off + 1 + j = off + (j + 1) by omega]
        exact this
end Go.Proofs.YtoekddkkjbcicaaDoor
