import Derived.Test.YtoekddkkjbcicaaDoorOpW
set_option linter.unusedVariables false
set_option linter.unusedSimpArgs false
namespace Go.Proofs.YtoekddkkjbcicaaDoor
open Go.RowKit
theorem fillN_rest (f : Ox.S) (o : Ox.Op) (W : Ox.W) : ∀ j, (fillN f o W j).1.code = o.code ∧ (fillN f o W j).1.vk = o.vk ∧ (fillN f o W j).1.vn = o.vn ∧ (fillN f o W j).1.vs = o.vs ∧ (fillN f o W j).1.keys = o.keys ∧ (fillN f o W j).1.name = o.name
  | 0 => ⟨rfl, rfl, rfl, rfl, rfl, rfl⟩
  | j + 1 => by
    have ih := fillN_rest f o W j
    rw [fillN]
    unfold setP
    split <;> exact ih
theorem forms_class : ∀ i : Fin 34, ∃ f, Ox.forms[i.val]? = some f ∧ f.length = 6 ∧
    (((Ox.at_ f 3).toNat = 46 ∧ (Ox.at_ f 4).toNat = 46 ∧ (Ox.at_ f 5).toNat ≠ 107) ∨ ((Ox.at_ f 3).toNat = 46 ∧ (Ox.at_ f 4).toNat ≠ 46 ∧ (Ox.at_ f 5).toNat ≠ 107) ∨
     ((Ox.at_ f 3).toNat = 118 ∧ (Ox.at_ f 4).toNat = 46 ∧ (Ox.at_ f 5).toNat ≠ 107) ∨ ((Ox.at_ f 3).toNat = 109 ∧ (Ox.at_ f 4).toNat = 46 ∧ (Ox.at_ f 5).toNat ≠ 107) ∨
     ((Ox.at_ f 3).toNat = 46 ∧ (Ox.at_ f 4).toNat = 46 ∧ (Ox.at_ f 5).toNat = 107)) := by
  have h : ∀ i : Fin 34, ((Ox.forms[i.val]?).isSome && decide ((Ox.forms[i.val]?.getD []).length = 6) && (fun f => 
     decide (((Ox.at_ f 3).toNat = 46 ∧ (Ox.at_ f 4).toNat = 46 ∧ (Ox.at_ f 5).toNat ≠ 107) ∨ ((Ox.at_ f 3).toNat = 46 ∧ (Ox.at_ f 4).toNat ≠ 46 ∧ (Ox.at_ f 5).toNat ≠ 107) ∨
     ((Ox.at_ f 3).toNat = 118 ∧ (Ox.at_ f 4).toNat = 46 ∧ (Ox.at_ f 5).toNat ≠ 107) ∨ ((Ox.at_ f 3).toNat = 109 ∧ (Ox.at_ f 4).toNat = 46 ∧ (Ox.at_ f 5).toNat ≠ 107) ∨
     ((Ox.at_ f 3).toNat = 46 ∧ (Ox.at_ f 4).toNat = 46 ∧ (Ox.at_ f 5).toNat = 107))) (Ox.forms[i.val]?.getD [])) = true := by decide +kernel
  intro i
  have hi := h i
  simp only [Bool.and_eq_true, decide_eq_true_eq] at hi
  obtain ⟨⟨h1, h2⟩, h3⟩ := hi
  obtain ⟨f, hf⟩ := Option.isSome_iff_exists.1 h1
  rw [hf] at h2 h3
  exact ⟨f, hf, h2, h3⟩
/-- fill, whatever the code. -/
theorem fill_any (o : Ox.Op) (w : World) (g gx : Nat) (W : Ox.W) (hl : Laid w) (hW : WBlk w g W) (K : w.heap[gx]? = some (.cells (xcells o (.slice none 0 0)) 39)) (hg : g < gx) (hg2 : 2 ≤ g)
    (hs : ∀ p ∈ W.1, p.length ≤ 1000000) (hwl : W.1.length ≤ 1000000) (c : Nat) (hc34 : c < 34) (hc : o.code = (c : Int)) (hk0 : o.keys = []) (hv0 : o.vk = 0 ∧ o.vn = 0 ∧ o.vs = []) (hn0 : o.name = []) :
    Calls Tryd.prog 34 #[.pointer (some ⟨g, 0, none⟩), .pointer (some ⟨gx, 0, none⟩)] w fun e w' => FillE w g gx (Ox.fill o W) e w' := by
  obtain ⟨f, hf, hf6, hcl⟩ := forms_class ⟨c, hc34⟩
  simp only at hf
  have hform : Ox.form o.code = f := by
    unfold Ox.form
    rw [hc, Int.toNat_natCast, hf]
    rfl
  have he := fill_eq o W f hform hk0 hv0 hn0
  have hr := fillN_rest f o W 3
  rw [hk0, hv0.1, hv0.2.1, hv0.2.2, hn0] at hr
  rcases hcl with ⟨g3, g4, g5⟩ | ⟨g3, g4, g5⟩ | ⟨g3, g4, g5⟩ | ⟨g3, g4, g5⟩ | ⟨g3, g4, g5⟩
  · have h := fill_E o w g gx W hl hW K hg hg2 hs c hc34 hc f hf hf6 g3 g4 g5 hk0
    refine h.mono ?_
    intro e w' hE
    rw [he]
    generalize fillN f o W 3 = r at hr hE ⊢
    obtain ⟨⟨code, p1, p2, p3, vk, vn, vs, keys, name⟩, W3⟩ := r
    simp only at hr
    obtain ⟨h1, rfl, rfl, rfl, rfl, rfl⟩ := hr
    simp only [Ox.valSt, Ox.nameSt, Ox.keysSt, if_pos g3, if_pos g4, if_neg g5]
    exact hE
  · have h := fill_C o w g gx W hl hW K hg hg2 hs c hc34 hc f hf hf6 g3 g4 g5 hk0
    refine h.mono ?_
    intro e w' hE
    rw [he]
    generalize fillN f o W 3 = r at hr hE ⊢
    obtain ⟨⟨code, p1, p2, p3, vk, vn, vs, keys, name⟩, W3⟩ := r
    simp only at hr
    obtain ⟨h1, rfl, rfl, rfl, rfl, rfl⟩ := hr
    simp only [Ox.valSt, Ox.keysSt, if_pos g3, if_neg g5]
    exact hE
  · have h := fill_V o w g gx W hl hW K hg hg2 hs c hc34 hc f hf hf6 g3 g4 g5 hk0
    refine h.mono ?_
    intro e w' hE
    rw [he]
    generalize fillN f o W 3 = r at hr hE ⊢
    obtain ⟨⟨code, p1, p2, p3, vk, vn, vs, keys, name⟩, W3⟩ := r
    simp only at hr
    obtain ⟨h1, rfl, rfl, rfl, rfl, rfl⟩ := hr
    simp only [Ox.nameSt, Ox.keysSt, if_pos g4, if_neg g5]
    exact hE
  · have h := fill_M o w g gx W hl hW K hg hg2 hs c hc34 hc f hf hf6 g3 g4 g5 hk0
    refine h.mono ?_
    intro e w' hE
    rw [he]
    generalize fillN f o W 3 = r at hr hE ⊢
    obtain ⟨⟨code, p1, p2, p3, vk, vn, vs, keys, name⟩, W3⟩ := r
    simp only at hr
    obtain ⟨h1, rfl, rfl, rfl, rfl, rfl⟩ := hr
    simp only [Ox.nameSt, Ox.keysSt, if_pos g4, if_neg g5]
    exact hE
  · have h := fill_K o w g gx W hl hW K hg hg2 hs c hc34 hc f hf hf6 g3 g4 g5 hk0 hwl
    refine h.mono ?_
    intro e w' hE
    rw [he]
    generalize fillN f o W 3 = r at hr hE ⊢
    obtain ⟨⟨code, p1, p2, p3, vk, vn, vs, keys, name⟩, W3⟩ := r
    simp only at hr
    obtain ⟨h1, rfl, rfl, rfl, rfl, rfl⟩ := hr
    simp only [Ox.valSt, Ox.nameSt, if_pos g3, if_pos g4]
    exact hE
end Go.Proofs.YtoekddkkjbcicaaDoor
