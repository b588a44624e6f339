import Derived.Test.YtoekddkkjbcicaaDoorOpX
import Derived.Test.YtoekddkkjbcicaaDoorOxC
set_option linter.unusedVariables false
set_option linter.unusedSimpArgs false
namespace Go.Proofs.YtoekddkkjbcicaaDoor
open Go.RowKit
attribute [local simp] Lx.bs_size
/-- What unline leaves. -/
def UnE (w : World) (r : Ox.Op × Bool) (e : Ending) (w' : World) : Prop :=
  ∃ a n c, e = .returned (.tuple #[.agg (xcells r.1 (.slice a n c)), .bool r.2]) ∧ KAt w' (.slice a n c) r.1.keys ∧ KFresh w.heap.size (.slice a n c) r.1.keys ∧ Below w.heap.size w w'
theorem number_range (s : Ox.S) : -9223372036854775808 ≤ (Ox.number s).1 ∧ (Ox.number s).1 ≤ 9223372036854775807 := read_range s
theorem unhexP_len : ∀ (s t : Ox.S), Ox.unhexP s = some t → t.length ≤ s.length
  | [], t, h => by simp only [Ox.unhexP, Option.some.injEq] at h; subst h; simp
  | [_], t, h => by simp only [Ox.unhexP, Option.some.injEq] at h; subst h; simp
  | a :: b :: r, t, h => by
    rw [Ox.unhexP] at h
    split at h
    · rename_i x y t' h1 h2 h3
      simp only [Option.some.injEq] at h
      subst h
      have := unhexP_len r t' h3
      simp only [List.length_cons]
      omega
    · cases h
theorem unval_range (s : Ox.S) : (-9223372036854775808 ≤ (Ox.unval s).1.2.1 ∧ (Ox.unval s).1.2.1 ≤ 9223372036854775807) ∧ (Ox.unval s).1.2.2.length ≤ s.length := by
  unfold Ox.unval
  split
  · simp
  · split
    · simp only
      refine ⟨by omega, ?_⟩
      unfold Ox.unhex
      split
      · simp
      · rename_i t ht
        have := unhexP_len _ _ ht
        simp only [List.length_take, List.length_drop] at this ⊢
        omega
    · exact ⟨read_range s, by simp⟩
theorem keySt_len : ∀ (l : List Ox.S) (ok : Bool) (acc : List Ox.Key), (Ox.keySt l ok acc).1.length = acc.length + l.length
  | [], ok, acc => by simp [Ox.keySt]
  | s :: r, ok, acc => by rw [Ox.keySt, keySt_len r]; simp; omega
theorem keySt_fit : ∀ (l : List Ox.S) (ok : Bool) (acc : List Ox.Key), KeyFit acc → KeyFit (Ox.keySt l ok acc).1
  | [], ok, acc, h => h
  | s :: r, ok, acc, h => by
    rw [Ox.keySt]
    refine keySt_fit r _ _ ?_
    intro k hk
    rcases List.mem_append.1 hk with hk | hk
    · exact h k hk
    · rw [List.mem_singleton] at hk
      subst hk
      unfold Ox.unkey
      split
      · simp only; omega
      · exact number_range _
theorem nxW_len (W : Ox.W) : (Ox.nxW W).1.length ≤ W.1.length := by
  obtain ⟨l, ok⟩ := W
  cases l <;> simp [Ox.nxW]
/-- Of words none of which is too great. -/
def WFit (W : Ox.W) : Prop := W.1.length ≤ 90000 ∧ ∀ p ∈ W.1, p.length ≤ 90000
theorem wfit_next {W : Ox.W} (h : WFit W) (b : Bool) : WFit ((Ox.nxW W).1, b) ∧ (Ox.nxS W).length ≤ 90000 :=
  ⟨⟨Nat.le_trans (nxW_len W) h.1, (nxW_mem h.2).1⟩, (nxW_mem h.2).2⟩
theorem numSt_fit {c : UInt8} {p : Int} {W : Ox.W} (h : WFit W) (hp : -9223372036854775808 ≤ p ∧ p ≤ 9223372036854775807) : (-9223372036854775808 ≤ (Ox.numSt c p W).1 ∧ (Ox.numSt c p W).1 ≤ 9223372036854775807) ∧ WFit (Ox.numSt c p W).2 := by
  unfold Ox.numSt
  split
  · exact ⟨hp, h⟩
  · exact ⟨number_range _, (wfit_next h _).1⟩
theorem fill_fit (c : Int) (W : Ox.W) (h : WFit W) : OFit (Ox.fill (Ox.op0 c) W).1 := by
  unfold Ox.fill Ox.op0
  simp only
  have z0 : -9223372036854775808 ≤ (0 : Int) ∧ (0 : Int) ≤ 9223372036854775807 := by omega
  obtain ⟨a1, a2⟩ := numSt_fit (c := Ox.at_ (Ox.form c) 0) h z0
  generalize Ox.numSt (Ox.at_ (Ox.form c) 0) 0 W = A at a1 a2 ⊢
  obtain ⟨b1, b2⟩ := numSt_fit (c := Ox.at_ (Ox.form c) 1) a2 z0
  generalize Ox.numSt (Ox.at_ (Ox.form c) 1) 0 A.2 = B at b1 b2 ⊢
  obtain ⟨c1, c2⟩ := numSt_fit (c := Ox.at_ (Ox.form c) 2) b2 z0
  generalize Ox.numSt (Ox.at_ (Ox.form c) 2) 0 B.2 = C at c1 c2 ⊢
  have hd : ((-9223372036854775808 ≤ (Ox.valSt (Ox.at_ (Ox.form c) 3) (0, 0, []) C.2).1.2.1 ∧ (Ox.valSt (Ox.at_ (Ox.form c) 3) (0, 0, []) C.2).1.2.1 ≤ 9223372036854775807) ∧ (Ox.valSt (Ox.at_ (Ox.form c) 3) (0, 0, []) C.2).1.2.2.length ≤ 90000) ∧ WFit (Ox.valSt (Ox.at_ (Ox.form c) 3) (0, 0, []) C.2).2 := by
    unfold Ox.valSt
    split
    · exact ⟨by simp, c2⟩
    · have hw := wfit_next c2 ((Ox.nxW C.2).2 && Ox.valOk (Ox.at_ (Ox.form c) 3) (Ox.unval (Ox.nxS C.2)))
      have hu := unval_range (Ox.nxS C.2)
      exact ⟨⟨hu.1, Nat.le_trans hu.2 hw.2⟩, hw.1⟩
  obtain ⟨⟨d1, d2⟩, d3⟩ := hd
  generalize Ox.valSt (Ox.at_ (Ox.form c) 3) (0, 0, []) C.2 = D at d1 d2 d3 ⊢
  have he : (Ox.nameSt (Ox.at_ (Ox.form c) 4) [] D.2).1.length ≤ 90000 ∧ WFit (Ox.nameSt (Ox.at_ (Ox.form c) 4) [] D.2).2 := by
    unfold Ox.nameSt
    split
    · exact ⟨by simp, d3⟩
    · have hw := wfit_next d3 ((Ox.nxW D.2).2 && Ox.named (Ox.at_ (Ox.form c) 4) (Ox.nxS D.2))
      exact ⟨hw.2, hw.1⟩
  obtain ⟨e1, e2⟩ := he
  generalize Ox.nameSt (Ox.at_ (Ox.form c) 4) [] D.2 = E at e1 e2 ⊢
  have hk : (Ox.keysSt (Ox.at_ (Ox.form c) 5) [] E.2).1.length ≤ 90000 ∧ KeyFit (Ox.keysSt (Ox.at_ (Ox.form c) 5) [] E.2).1 := by
    unfold Ox.keysSt
    split
    · exact ⟨by rw [keySt_len]; simpa using e2.1, keySt_fit _ _ _ (by intro k hk; cases hk)⟩
    · exact ⟨by simp, by intro k hk; cases hk⟩
  exact ⟨by have := hk.1; simp only; omega, hk.2, by simp only; omega, by simp only; omega, a1, b1, c1, d1⟩
theorem consH_mem {p : Ox.S} {X : List Ox.S} {q : Ox.S} (h : q ∈ Ox.consH p X) : (∃ r ∈ X, q = p ++ r) ∨ q = p ∨ q ∈ X := by
  cases X with
  | nil => simp only [Ox.consH, List.mem_singleton] at h; exact .inr (.inl h)
  | cons a t =>
    rcases List.mem_cons.1 h with rfl | h
    · exact .inl ⟨a, List.mem_cons_self, rfl⟩
    · exact .inr (.inr (List.mem_cons_of_mem _ h))
theorem split_mem (c : UInt8) : ∀ (s : Ox.S), ∀ p ∈ Ox.split c s, p.length ≤ s.length
  | [], p, h => by simp only [Ox.split, List.mem_singleton] at h; subst h; simp
  | x :: r, p, h => by
    have ih := split_mem c r
    rw [Ox.split] at h
    split at h
    · rcases List.mem_cons.1 h with rfl | h
      · simp
      · have := ih p h; simp only [List.length_cons]; omega
    · rcases consH_mem h with ⟨q, hq, rfl⟩ | rfl | h
      · have := ih q hq; simp only [List.length_append, List.length_cons, List.length_nil]; omega
      · simp
      · have := ih p h; simp only [List.length_cons]; omega
theorem codeL_step {n m : Ox.S} {k i : Nat} (h : Ox.names[k]? = some m) : Ox.codeL n i (Ox.names.drop k) = if m == n then some i else Ox.codeL n (i + 1) (Ox.names.drop (k + 1)) := by
  obtain ⟨h1, h2⟩ := List.getElem?_eq_some_iff.1 h
  rw [List.drop_eq_getElem_cons h1, h2, Ox.codeL]
theorem stored9 {w : World} {B T : Nat} {y0 y1 y2 y3 y4 y5 y6 y7 y8 : Value} {fr : Nat × Nat} (K : w.heap[B]? = some (.cells #[y0, y1, y2, y3, y4, y5, y6, y7, y8] T fr)) (x0 x1 x2 x3 x4 x5 x6 x7 x8 : Value) :
    (((((((((w.setCell ⟨B, 0, none⟩ x0).setCell ⟨B, 1, none⟩ x1).setCell ⟨B, 2, none⟩ x2).setCell ⟨B, 3, none⟩ x3).setCell ⟨B, 4, none⟩ x4).setCell ⟨B, 5, none⟩ x5).setCell ⟨B, 6, none⟩ x6).setCell ⟨B, 7, none⟩ x7).setCell ⟨B, 8, none⟩ x8).heap[B]? = some (.cells #[x0, x1, x2, x3, x4, x5, x6, x7, x8] T fr) := by
  have K0 : (w.setCell ⟨B, 0, none⟩ x0).heap[B]? = some (.cells #[x0, y1, y2, y3, y4, y5, y6, y7, y8] T fr) := heap_set K
  have K1 : ((w.setCell ⟨B, 0, none⟩ x0).setCell ⟨B, 1, none⟩ x1).heap[B]? = some (.cells #[x0, x1, y2, y3, y4, y5, y6, y7, y8] T fr) := heap_set K0
  have K2 : (((w.setCell ⟨B, 0, none⟩ x0).setCell ⟨B, 1, none⟩ x1).setCell ⟨B, 2, none⟩ x2).heap[B]? = some (.cells #[x0, x1, x2, y3, y4, y5, y6, y7, y8] T fr) := heap_set K1
  have K3 : ((((w.setCell ⟨B, 0, none⟩ x0).setCell ⟨B, 1, none⟩ x1).setCell ⟨B, 2, none⟩ x2).setCell ⟨B, 3, none⟩ x3).heap[B]? = some (.cells #[x0, x1, x2, x3, y4, y5, y6, y7, y8] T fr) := heap_set K2
  have K4 : (((((w.setCell ⟨B, 0, none⟩ x0).setCell ⟨B, 1, none⟩ x1).setCell ⟨B, 2, none⟩ x2).setCell ⟨B, 3, none⟩ x3).setCell ⟨B, 4, none⟩ x4).heap[B]? = some (.cells #[x0, x1, x2, x3, x4, y5, y6, y7, y8] T fr) := heap_set K3
  have K5 : ((((((w.setCell ⟨B, 0, none⟩ x0).setCell ⟨B, 1, none⟩ x1).setCell ⟨B, 2, none⟩ x2).setCell ⟨B, 3, none⟩ x3).setCell ⟨B, 4, none⟩ x4).setCell ⟨B, 5, none⟩ x5).heap[B]? = some (.cells #[x0, x1, x2, x3, x4, x5, y6, y7, y8] T fr) := heap_set K4
  have K6 : (((((((w.setCell ⟨B, 0, none⟩ x0).setCell ⟨B, 1, none⟩ x1).setCell ⟨B, 2, none⟩ x2).setCell ⟨B, 3, none⟩ x3).setCell ⟨B, 4, none⟩ x4).setCell ⟨B, 5, none⟩ x5).setCell ⟨B, 6, none⟩ x6).heap[B]? = some (.cells #[x0, x1, x2, x3, x4, x5, x6, y7, y8] T fr) := heap_set K5
  have K7 : ((((((((w.setCell ⟨B, 0, none⟩ x0).setCell ⟨B, 1, none⟩ x1).setCell ⟨B, 2, none⟩ x2).setCell ⟨B, 3, none⟩ x3).setCell ⟨B, 4, none⟩ x4).setCell ⟨B, 5, none⟩ x5).setCell ⟨B, 6, none⟩ x6).setCell ⟨B, 7, none⟩ x7).heap[B]? = some (.cells #[x0, x1, x2, x3, x4, x5, x6, x7, y8] T fr) := heap_set K6
  have K8 : (((((((((w.setCell ⟨B, 0, none⟩ x0).setCell ⟨B, 1, none⟩ x1).setCell ⟨B, 2, none⟩ x2).setCell ⟨B, 3, none⟩ x3).setCell ⟨B, 4, none⟩ x4).setCell ⟨B, 5, none⟩ x5).setCell ⟨B, 6, none⟩ x6).setCell ⟨B, 7, none⟩ x7).setCell ⟨B, 8, none⟩ x8).heap[B]? = some (.cells #[x0, x1, x2, x3, x4, x5, x6, x7, x8] T fr) := heap_set K7
  exact K8
theorem stored9_other (w : World) (B : Nat) (x0 x1 x2 x3 x4 x5 x6 x7 x8 : Value) (b : Nat) (hb : b ≠ B) :
    (((((((((w.setCell ⟨B, 0, none⟩ x0).setCell ⟨B, 1, none⟩ x1).setCell ⟨B, 2, none⟩ x2).setCell ⟨B, 3, none⟩ x3).setCell ⟨B, 4, none⟩ x4).setCell ⟨B, 5, none⟩ x5).setCell ⟨B, 6, none⟩ x6).setCell ⟨B, 7, none⟩ x7).setCell ⟨B, 8, none⟩ x8).heap[b]? = w.heap[b]? := by
  have h : ∀ (W : World) (p : Nat) (u : Value), (W.setCell ⟨B, p, none⟩ u).heap[b]? = W.heap[b]? := fun W p u => Below.heap_setCell W ⟨B, p, none⟩ u b hb
  simp only [h]
theorem kat_other {w w' : World} {v : Value} {l : List Ox.Key} {B T : Nat} {C : Array Value} (h : KAt w v l) (K : w.heap[B]? = some (.cells C T (0, 0))) (hC : ∀ (k : Nat) (d : Bool), C[k]? ≠ some (Value.bool d)) (hw : ∀ b, b < w.heap.size → b ≠ B → w'.heap[b]? = w.heap[b]?) : KAt w' v l := by
  rcases h with h | ⟨b, off, c, h1, h2, h3, h4, h5⟩
  · exact .inl h
  · cases l with
    | nil => subst h1; exact .inl ⟨rfl, _, _, rfl⟩
    | cons k r =>
      have hbB : b ≠ B := by
        rintro rfl
        have hc := h5 2 _ (show ((k :: r).flatMap kcells)[2]? = some (.bool k.desc) from rfl)
        simp only [World.cell?, K] at hc
        exact hC _ _ (by simpa using hc)
      refine .inr ⟨b, off, c, h1, ?_, h3, h4, fun j u hu => ?_⟩
      · have := hw b h2 hbB
        rw [Array.getElem?_eq_getElem h2] at this
        exact (Array.getElem?_eq_some_iff.1 this).1
      · have hc := h5 j u hu
        have := hw b h2 hbB
        simp only [World.cell?, this] at hc ⊢
        exact hc
theorem zop_bool (k : Nat) (d : Bool) : (xcells (Ox.op0 0) (.slice none 0 0))[k]? ≠ some (Value.bool d) := by
  match k with
  | 0 | 1 | 2 | 3 | 4 | 5 | 6 | 7 | 8 => exact fun h => by cases h
  | k + 9 => exact fun h => by cases h
def unR (s : Ox.S) (X : Ox.W) : Option Nat → Ox.Op × Bool
  | none => (Ox.op0 0, false)
  | some c => ((Ox.fill (Ox.op0 c) X).1, Ox.endOk (Ox.fill (Ox.op0 c) X) s)
set_option maxRecDepth 100000 in
set_option maxHeartbeats 4000000 in
theorem unline_any (s : ByteArray) (w : World) (hl : Laid w) (hs : s.size ≤ 80000) :
    Calls Tryd.prog 22 #[.string s] w fun e w' => UnE w (Ox.unline (Lx.ls s)) e w' := by
  obtain ⟨R, hR⟩ : ∃ R, R = Ox.unline (Lx.ls s) := ⟨_, rfl⟩
  rw [← hR]
  have HR := Lib.hid hR
  have HL := Lib.hid hl
  have h2 : 2 ≤ w.heap.size := hl.1
  clear hR hl
  go_enter Tryd.func22, Tryd.ntmps22
  go_wp2_with fail
  refine (split_any s 32 _ (by omega)).mono ?_
  rintro e w1 ⟨v, rfl, hrow, hb1⟩
  have T1 := blk_next (heap_alloc_new w (.cells #[.int .i64 0, .int .i64 0, .int .i64 0, .int .i64 0, .int .i64 0, .int .i64 0, .string ⟨#[]⟩, .slice none 0 0, .string ⟨#[]⟩] 39)) hb1
  have hbw1 : Below w.heap.size w w1 := below_next (below_al (Below.refl _ _) _) hb1
  have htb1 : w.heap.size < w1.heap.size := blk_lt T1
  obtain ⟨L, hL⟩ : ∃ L, L = Ox.split 32 (Lx.ls s) := ⟨_, rfl⟩
  have hL0 : 0 < L.length := by rw [hL]; exact List.length_pos_iff.2 (split_ne _ _)
  have hLF : WFit (L, true) := by
    rw [hL]
    refine ⟨?_, fun p hp => ?_⟩
    · have := split_len 32 (Lx.ls s)
      rw [Lx.ls_length] at this
      simp only; omega
    · have := split_mem 32 (Lx.ls s) p hp
      rw [Lx.ls_length] at this
      omega
  rw [← hL] at hrow
  obtain ⟨b, cb, rfl, hbb, hnc, hcm, hcell⟩ := row1_some hrow hL0
  have HLL := Lib.hid hL
  have HLF := Lib.hid hLF
  obtain ⟨W1, hW1e⟩ : ∃ W1, W1 = w1.alloc (.cells #[.slice (some ⟨b, 0, none⟩) L.length cb, .bool true] 66) := ⟨_, rfl⟩
  obtain ⟨g, hge⟩ : ∃ g, g = w1.heap.size := ⟨_, rfl⟩
  have hW : WBlk W1 g (L, true) := by
    rw [hW1e, hge]
    refine ⟨_, heap_alloc_new w1 _, .inr ⟨b, 0, cb, rfl, hbb, by simp; omega, hnc, hcm, fun j p hj => ?_⟩⟩
    rw [Nat.zero_add, World.cell?_alloc_lt _ _ _ hbb]
    exact hcell j _ (sts_at hj)
  have hbW : Below w.heap.size w W1 := by rw [hW1e]; exact hbw1.alloc (by omega) _
  have T2 : W1.heap[w.heap.size]? = some (.cells (xcells (Ox.op0 0) (.slice none 0 0)) 39) := by rw [hW1e]; exact blk_alloc T1 _
  have hg1 : g < W1.heap.size := by rw [hW1e, hge]; simp
  have htg : w.heap.size < g := by omega
  clear hrow hcell hb1 T1 hLF hL
  go_wp2_with fail
  rw [← hge, ← hW1e]
  refine (next_any _ g _ hW).mono ?_
  rintro e w2 ⟨rfl, ⟨p, u, rfl⟩, hWn⟩
  have T3 := blk_far T2 (by show w.heap.size ≠ g; omega : w.heap.size ≠ (⟨g, p, none⟩ : Addr).block) u
  have hb3 : Below w.heap.size w (W1.setCell ⟨g, p, none⟩ u) := hbW.setCell (by show w.heap.size ≤ g; omega) _
  have hg3 : g < (W1.setCell ⟨g, p, none⟩ u).heap.size := by simpa using hg1
  clear hW hbW T2 hg1 hW1e hge htb1 hbb hcm hnc hL0
  generalize W1.setCell ⟨g, p, none⟩ u = W3 at T3 hb3 hg3 hWn ⊢
  obtain ⟨nm, hnm⟩ : ∃ nm, nm = Ox.nxS (L, true) := ⟨_, rfl⟩
  rw [← hnm]
  obtain ⟨X2, hX2⟩ : ∃ X2, X2 = Ox.nxW (L, true) := ⟨_, rfl⟩
  rw [← hX2] at hWn
  have hX2F : WFit X2 := by have := (wfit_next HLF.out (Ox.nxW (L, true)).2).1; rw [hX2]; exact this
  obtain ⟨C, hC⟩ : ∃ C, C = Ox.codeL nm 0 Ox.names := ⟨_, rfl⟩
  have HRC : Hid (R = unR (Lx.ls s) X2 C) := Lib.hid (by rw [HR.out, Ox.unline, ← HLL.out, ← hnm, ← hX2, hC]; clear hC; cases Ox.codeL nm 0 Ox.names <;> rfl)
  have HC : Hid (Ox.codeL nm 0 (Ox.names.drop 0) = C) := Lib.hid hC.symm
  have HT3 := Lib.hid T3
  have HB3 := Lib.hid hb3
  have HWN := Lib.hid hWn
  have HX2F := Lib.hid hX2F
  have hl3 := laid_keep HL.out hb3
  have HN3 := Lib.hid hl3.2.1
  have HL3 := Lib.hid hl3
  clear hnm hX2 hC T3 hb3 hWn hX2F HR HLL HLF hl3
  go_wp2
  go_loopw [6, 14] (fun _ i wr => ∃ j : Nat, j ≤ 34 ∧ i = .int .i64 j ∧ wr = W3 ∧ Hid (Ox.codeL nm j (Ox.names.drop j) = C)) (fun _ i _ => 34 - (intOf i).toNat)
  case atStart => exact ⟨0, by omega, rfl, rfl, HC⟩
  case round =>
    obtain ⟨j, hj, rfl, rfl, HK⟩ := hrel
    by_cases hlt : j < 34
    · obtain ⟨m, hm2⟩ : ∃ m, Ox.names[j]? = some m := ⟨_, List.getElem?_eq_getElem (by exact hlt)⟩
      have a0 := HN3.out j m hm2
      have hq : ((Lx.bs m).toList == (Lx.bs nm).toList) = (m == nm) := by rw [Lx.bs_toList, Lx.bs_toList]
      have hst := codeL_step (n := nm) (i := j) hm2
      rw [HK.out] at hst
      clear hm2
      cases hp : (m == nm) with
      | false =>
        rw [hp] at hq
        rw [hp, if_neg (by simp)] at hst
        have HK' := Lib.hid hst.symm
        clear hp hst
        go_wp2
        go_roundw
        case rel => exact ⟨j + 1, by omega, by go_num, trivial, HK'⟩
        case measure => simp [intOf]; omega
      | true =>
        rw [hp] at hq
        rw [hp, if_pos rfl] at hst
        have HRC2 : Hid (R = ((Ox.fill (Ox.op0 j) X2).1, Ox.endOk (Ox.fill (Ox.op0 j) X2) (Lx.ls s))) := Lib.hid (by have h := HRC.out; rw [hst] at h; exact h)
        clear hp hst
        go_wp2_with fail
        obtain ⟨W5, hW5e⟩ : ∃ W5, W5 = wr.alloc (.cells (xcells (Ox.op0 j) (.slice none 0 0)) 39) := ⟨_, rfl⟩
        obtain ⟨gx, hgx⟩ : ∃ gx, gx = wr.heap.size := ⟨_, rfl⟩
        have K5 : W5.heap[gx]? = some (.cells (xcells (Ox.op0 j) (.slice none 0 0)) 39) := by rw [hW5e, hgx]; exact heap_alloc_new wr _
        have hba : Below wr.heap.size wr W5 := by rw [hW5e]; exact below_al (Below.refl _ _) _
        have hW5 := wblk_keep HWN.out hba
        have hl5 := laid_keep HL3.out hba
        have T5 := blk_next HT3.out hba
        have hbw5 : Below w.heap.size w W5 := below_next HB3.out hba
        have hggx : g < gx := by rw [hgx]; exact hg3
        show Calls Tryd.prog 34 #[.pointer (some ⟨g, 0, none⟩), .pointer (some ⟨wr.heap.size, 0, none⟩)] (wr.alloc (.cells (xcells (Ox.op0 j) (.slice none 0 0)) 39)) _
        rw [← hgx, ← hW5e]
        refine (fill_any (Ox.op0 j) _ g gx X2 hl5 hW5 K5 hggx (by omega) (fun q hq => Nat.le_trans (HX2F.out.2 q hq) (by decide)) (Nat.le_trans HX2F.out.1 (by decide)) j hlt rfl rfl ⟨rfl, rfl, rfl⟩ rfl).mono ?_
        rintro e w6 ⟨rfl, ⟨ka, kn, kc, K6, hka⟩, hW6, hb6⟩
        have T6 := (hb6.block _ htg).trans T5
        have hbw6 : Below w.heap.size w w6 := hbw5.trans (hb6.mono (Nat.le_of_lt htg))
        have hl6 := laid_keep HL.out hbw6
        have hof := fill_fit j X2 HX2F.out
        have hcd : (Ox.fill (Ox.op0 j) X2).1.code = (j : Int) := rfl
        obtain ⟨r, hr⟩ : ∃ r, r = Ox.fill (Ox.op0 j) X2 := ⟨_, rfl⟩
        rw [← hr] at K6 hka hW6 hof hcd
        have HRC3 : Hid (R = (r.1, Ox.endOk r (Lx.ls s))) := Lib.hid (by rw [hr]; exact HRC2.out)
        obtain ⟨o', l', ok'⟩ := r
        have hcoded : Ox.coded o' = true := by unfold Ox.coded; rw [hcd]; simp; omega
        have HCD := Lib.hid hcoded
        have HOF := Lib.hid hof
        have HKA := Lib.hid (katf_kat hka)
        have HKF : Hid (KFresh w.heap.size (.slice ka kn kc) o'.keys) := Lib.hid (katf_fresh hka (Nat.le_of_lt htg))
        have HT6 := Lib.hid T6
        have HK6 := Lib.hid K6
        have HW6 := Lib.hid hW6
        have HL6 := Lib.hid hl6
        have HBW6 := Lib.hid hbw6
        have hgg6 : g < w6.heap.size := by obtain ⟨v, Kg, _⟩ := hW6; exact blk_lt Kg
        have hgx6 : gx < w6.heap.size := blk_lt K6
        have htb6 : w.heap.size < w6.heap.size := by omega
        have hne1 : w.heap.size ≠ g := by omega
        have hne2 : w.heap.size ≠ gx := by omega
        have hne3 : g ≠ w.heap.size := by omega
        have hne4 : gx ≠ w.heap.size := by omega
        obtain ⟨a9, c9, z0⟩ := wblk_n hW6
        obtain ⟨_, Z1, _⟩ := wblk_cell hW6
        have z1 : w6.cell? ⟨g, 1, none⟩ = some (.bool ok') := Z1
        obtain ⟨ccx, ffx⟩ := blk_cells K6
        obtain ⟨ln, hln⟩ : ∃ ln, ln = l'.length := ⟨_, rfl⟩
        rw [← hln] at z0
        have HLN := Lib.hid hln
        clear hln
        have x0 : w6.cell? ⟨gx, 0, none⟩ = some (.int .i64 o'.code) := ccx 0 _ rfl
        have x1 : w6.cell? ⟨gx, 1, none⟩ = some (.int .i64 o'.p1) := ccx 1 _ rfl
        have x2 : w6.cell? ⟨gx, 2, none⟩ = some (.int .i64 o'.p2) := ccx 2 _ rfl
        have x3 : w6.cell? ⟨gx, 3, none⟩ = some (.int .i64 o'.p3) := ccx 3 _ rfl
        have x4 : w6.cell? ⟨gx, 4, none⟩ = some (.int .i64 o'.vk) := ccx 4 _ rfl
        have x5 : w6.cell? ⟨gx, 5, none⟩ = some (.int .i64 o'.vn) := ccx 5 _ rfl
        have x6 : w6.cell? ⟨gx, 6, none⟩ = some (.string (Lx.bs o'.vs)) := ccx 6 _ rfl
        have x7 : w6.cell? ⟨gx, 7, none⟩ = some (.slice ka kn kc) := ccx 7 _ rfl
        have x8 : w6.cell? ⟨gx, 8, none⟩ = some (.string (Lx.bs o'.name)) := ccx 8 _ rfl
        obtain ⟨cct, fft⟩ := blk_cells T6
        have t0 : w6.cell? ⟨w.heap.size, 0, none⟩ = some (.int .i64 0) := cct 0 _ rfl
        have t1 : w6.cell? ⟨w.heap.size, 1, none⟩ = some (.int .i64 0) := cct 1 _ rfl
        have t2 : w6.cell? ⟨w.heap.size, 2, none⟩ = some (.int .i64 0) := cct 2 _ rfl
        have t3 : w6.cell? ⟨w.heap.size, 3, none⟩ = some (.int .i64 0) := cct 3 _ rfl
        have t4 : w6.cell? ⟨w.heap.size, 4, none⟩ = some (.int .i64 0) := cct 4 _ rfl
        have t5 : w6.cell? ⟨w.heap.size, 5, none⟩ = some (.int .i64 0) := cct 5 _ rfl
        have t6 : w6.cell? ⟨w.heap.size, 6, none⟩ = some (.string ⟨#[]⟩) := cct 6 _ rfl
        have t7 : w6.cell? ⟨w.heap.size, 7, none⟩ = some (.slice none 0 0) := cct 7 _ rfl
        have t8 : w6.cell? ⟨w.heap.size, 8, none⟩ = some (.string ⟨#[]⟩) := cct 8 _ rfl
        have tr0 := fft 0
        have tr1 := fft 1
        have tr2 := fft 2
        have tr3 := fft 3
        have tr4 := fft 4
        have tr5 := fft 5
        have tr6 := fft 6
        have tr7 := fft 7
        have tr8 := fft 8
        clear K5 hba hW5 hl5 T5 hbw5 hb6 T6 hbw6 hl6 hof hcd hr K6 hka hW6 hcoded Z1 ccx ffx cct fft hgx hW5e
        obtain ⟨W9, hW9⟩ : ∃ W9, W9 = (((((((((w6.setCell ⟨w.heap.size, 0, none⟩ (.int .i64 o'.code)).setCell ⟨w.heap.size, 1, none⟩ (.int .i64 o'.p1)).setCell ⟨w.heap.size, 2, none⟩ (.int .i64 o'.p2)).setCell ⟨w.heap.size, 3, none⟩ (.int .i64 o'.p3)).setCell ⟨w.heap.size, 4, none⟩ (.int .i64 o'.vk)).setCell ⟨w.heap.size, 5, none⟩ (.int .i64 o'.vn)).setCell ⟨w.heap.size, 6, none⟩ (.string (Lx.bs o'.vs))).setCell ⟨w.heap.size, 7, none⟩ (.slice ka kn kc)).setCell ⟨w.heap.size, 8, none⟩ (.string (Lx.bs o'.name))) := ⟨_, rfl⟩
        have HK9 : Hid (W9.heap[w.heap.size]? = some (.cells (xcells o' (.slice ka kn kc)) 39)) := Lib.hid (by rw [hW9]; exact stored9 HT6.out (.int .i64 o'.code) (.int .i64 o'.p1) (.int .i64 o'.p2) (.int .i64 o'.p3) (.int .i64 o'.vk) (.int .i64 o'.vn) (.string (Lx.bs o'.vs)) (.slice ka kn kc) (.string (Lx.bs o'.name)))
        have HO9 : Hid (∀ b, b ≠ w.heap.size → W9.heap[b]? = w6.heap[b]?) := Lib.hid (by rw [hW9]; exact stored9_other w6 w.heap.size (.int .i64 o'.code) (.int .i64 o'.p1) (.int .i64 o'.p2) (.int .i64 o'.p3) (.int .i64 o'.vk) (.int .i64 o'.vn) (.string (Lx.bs o'.vs)) (.slice ka kn kc) (.string (Lx.bs o'.name)))
        have HB9 : Hid (Below w.heap.size w W9) := Lib.hid (by
          rw [hW9]
          have hb := HBW6.out
          exact ((((((((hb.setCell (Nat.le_refl _) _).setCell (Nat.le_refl _) _).setCell (Nat.le_refl _) _).setCell (Nat.le_refl _) _).setCell (Nat.le_refl _) _).setCell (Nat.le_refl _) _).setCell (Nat.le_refl _) _).setCell (Nat.le_refl _) _).setCell (Nat.le_refl _) _)
        have HKA9 : Hid (KAt W9 (.slice ka kn kc) o'.keys) := Lib.hid (kat_other HKA.out HT6.out zop_bool (fun b _ hb => HO9.out b hb))
        have HW9 := Lib.hid hW9
        clear hW9
        cases ok' with
        | false =>
          go_wp2
          go_region
          all_goals
            go_wp2
            rw [← HW9.out]
            refine bodyPost_agg1 (B := w.heap.size) Tryd.results22 Tryd.underlying39 (by kernel_rfl) rfl (blk_drew HK9.out) rfl ?_
            rw [HRC3.out, show Ox.endOk (o', l', false) (Lx.ls s) = false from by simp [Ox.endOk]]
            exact ⟨ka, kn, kc, rfl, HKA9.out, HKF.out, HB9.out.drew⟩
        | true =>
          by_cases hz : ln = 0
          · subst hz
            have hl0 : l' = [] := List.eq_nil_of_length_eq_zero HLN.out.symm
            subst hl0
            have HL6D : Hid (Laid w6.drew) := Lib.hid (laid_keep HL6.out (Below.refl _ _).drew)
            have HKAD : Hid (KAt w6.drew (.slice ka kn kc) o'.keys) := Lib.hid (kat_keep HKA.out (Below.refl _ _).drew)
            cases hq9 : (Ox.line o' == Lx.ls s) with
            | true =>
              have dq : ((Lx.bs (Ox.line o')).toList == s.toList) = true := by rw [Lx.bs_toList, Lx.toList_ls]; exact hq9
              have HEND : Hid (Ox.endOk (o', [], true) (Lx.ls s) = true) := Lib.hid (by simp only [Ox.endOk]; rw [hq9]; rfl)
              clear hq9
              go_wp2
              go_region_with (go_at_call 31; refine (line_any o' (.slice ka kn kc) w6.drew HL6D.out HKAD.out HCD.out HOF.out).mono ?_; rintro e w7 ⟨rfl, hb7⟩; have y0 : w7.cell? ⟨gx, 0, none⟩ = some (.int .i64 o'.code) := (hb7.cell (p := ⟨gx, 0, none⟩) (by simpa using hgx6)).trans x0; have y1 : w7.cell? ⟨gx, 1, none⟩ = some (.int .i64 o'.p1) := (hb7.cell (p := ⟨gx, 1, none⟩) (by simpa using hgx6)).trans x1; have y2 : w7.cell? ⟨gx, 2, none⟩ = some (.int .i64 o'.p2) := (hb7.cell (p := ⟨gx, 2, none⟩) (by simpa using hgx6)).trans x2; have y3 : w7.cell? ⟨gx, 3, none⟩ = some (.int .i64 o'.p3) := (hb7.cell (p := ⟨gx, 3, none⟩) (by simpa using hgx6)).trans x3; have y4 : w7.cell? ⟨gx, 4, none⟩ = some (.int .i64 o'.vk) := (hb7.cell (p := ⟨gx, 4, none⟩) (by simpa using hgx6)).trans x4; have y5 : w7.cell? ⟨gx, 5, none⟩ = some (.int .i64 o'.vn) := (hb7.cell (p := ⟨gx, 5, none⟩) (by simpa using hgx6)).trans x5; have y6 : w7.cell? ⟨gx, 6, none⟩ = some (.string (Lx.bs o'.vs)) := (hb7.cell (p := ⟨gx, 6, none⟩) (by simpa using hgx6)).trans x6; have y7 : w7.cell? ⟨gx, 7, none⟩ = some (.slice ka kn kc) := (hb7.cell (p := ⟨gx, 7, none⟩) (by simpa using hgx6)).trans x7; have y8 : w7.cell? ⟨gx, 8, none⟩ = some (.string (Lx.bs o'.name)) := (hb7.cell (p := ⟨gx, 8, none⟩) (by simpa using hgx6)).trans x8; have s0 : w7.cell? ⟨w.heap.size, 0, none⟩ = some (.int .i64 0) := (hb7.cell (p := ⟨w.heap.size, 0, none⟩) (by simpa using htb6)).trans t0; have sr0 : w7.frozen? ⟨w.heap.size, 0, none⟩ = false := (hb7.frozen (p := ⟨w.heap.size, 0, none⟩) (by simpa using htb6)).trans tr0; have s1 : w7.cell? ⟨w.heap.size, 1, none⟩ = some (.int .i64 0) := (hb7.cell (p := ⟨w.heap.size, 1, none⟩) (by simpa using htb6)).trans t1; have sr1 : w7.frozen? ⟨w.heap.size, 1, none⟩ = false := (hb7.frozen (p := ⟨w.heap.size, 1, none⟩) (by simpa using htb6)).trans tr1; have s2 : w7.cell? ⟨w.heap.size, 2, none⟩ = some (.int .i64 0) := (hb7.cell (p := ⟨w.heap.size, 2, none⟩) (by simpa using htb6)).trans t2; have sr2 : w7.frozen? ⟨w.heap.size, 2, none⟩ = false := (hb7.frozen (p := ⟨w.heap.size, 2, none⟩) (by simpa using htb6)).trans tr2; have s3 : w7.cell? ⟨w.heap.size, 3, none⟩ = some (.int .i64 0) := (hb7.cell (p := ⟨w.heap.size, 3, none⟩) (by simpa using htb6)).trans t3; have sr3 : w7.frozen? ⟨w.heap.size, 3, none⟩ = false := (hb7.frozen (p := ⟨w.heap.size, 3, none⟩) (by simpa using htb6)).trans tr3; have s4 : w7.cell? ⟨w.heap.size, 4, none⟩ = some (.int .i64 0) := (hb7.cell (p := ⟨w.heap.size, 4, none⟩) (by simpa using htb6)).trans t4; have sr4 : w7.frozen? ⟨w.heap.size, 4, none⟩ = false := (hb7.frozen (p := ⟨w.heap.size, 4, none⟩) (by simpa using htb6)).trans tr4; have s5 : w7.cell? ⟨w.heap.size, 5, none⟩ = some (.int .i64 0) := (hb7.cell (p := ⟨w.heap.size, 5, none⟩) (by simpa using htb6)).trans t5; have sr5 : w7.frozen? ⟨w.heap.size, 5, none⟩ = false := (hb7.frozen (p := ⟨w.heap.size, 5, none⟩) (by simpa using htb6)).trans tr5; have s6 : w7.cell? ⟨w.heap.size, 6, none⟩ = some (.string ⟨#[]⟩) := (hb7.cell (p := ⟨w.heap.size, 6, none⟩) (by simpa using htb6)).trans t6; have sr6 : w7.frozen? ⟨w.heap.size, 6, none⟩ = false := (hb7.frozen (p := ⟨w.heap.size, 6, none⟩) (by simpa using htb6)).trans tr6; have s7 : w7.cell? ⟨w.heap.size, 7, none⟩ = some (.slice none 0 0) := (hb7.cell (p := ⟨w.heap.size, 7, none⟩) (by simpa using htb6)).trans t7; have sr7 : w7.frozen? ⟨w.heap.size, 7, none⟩ = false := (hb7.frozen (p := ⟨w.heap.size, 7, none⟩) (by simpa using htb6)).trans tr7; have s8 : w7.cell? ⟨w.heap.size, 8, none⟩ = some (.string ⟨#[]⟩) := (hb7.cell (p := ⟨w.heap.size, 8, none⟩) (by simpa using htb6)).trans t8; have sr8 : w7.frozen? ⟨w.heap.size, 8, none⟩ = false := (hb7.frozen (p := ⟨w.heap.size, 8, none⟩) (by simpa using htb6)).trans tr8)
              all_goals
                have T7 := (hb7.block w.heap.size (by simpa using htb6)).trans (blk_drew HT6.out)
                have kat7 := kat_keep HKAD.out hb7
                have hbw7 : Below w.heap.size w w7 := HBW6.out.drew.trans (hb7.mono (by simp; omega))
                have K7 := stored9 T7 (.int .i64 o'.code) (.int .i64 o'.p1) (.int .i64 o'.p2) (.int .i64 o'.p3) (.int .i64 o'.vk) (.int .i64 o'.vn) (.string (Lx.bs o'.vs)) (.slice ka kn kc) (.string (Lx.bs o'.name))
                have O7 := stored9_other w7 w.heap.size (.int .i64 o'.code) (.int .i64 o'.p1) (.int .i64 o'.p2) (.int .i64 o'.p3) (.int .i64 o'.vk) (.int .i64 o'.vn) (.string (Lx.bs o'.vs)) (.slice ka kn kc) (.string (Lx.bs o'.name))
                have B7 := ((((((((hbw7.setCell (Nat.le_refl w.heap.size) (.int .i64 o'.code) (p := ⟨w.heap.size, 0, none⟩)).setCell (Nat.le_refl w.heap.size) (.int .i64 o'.p1) (p := ⟨w.heap.size, 1, none⟩)).setCell (Nat.le_refl w.heap.size) (.int .i64 o'.p2) (p := ⟨w.heap.size, 2, none⟩)).setCell (Nat.le_refl w.heap.size) (.int .i64 o'.p3) (p := ⟨w.heap.size, 3, none⟩)).setCell (Nat.le_refl w.heap.size) (.int .i64 o'.vk) (p := ⟨w.heap.size, 4, none⟩)).setCell (Nat.le_refl w.heap.size) (.int .i64 o'.vn) (p := ⟨w.heap.size, 5, none⟩)).setCell (Nat.le_refl w.heap.size) (.string (Lx.bs o'.vs)) (p := ⟨w.heap.size, 6, none⟩)).setCell (Nat.le_refl w.heap.size) (.slice ka kn kc) (p := ⟨w.heap.size, 7, none⟩)).setCell (Nat.le_refl w.heap.size) (.string (Lx.bs o'.name)) (p := ⟨w.heap.size, 8, none⟩)
                obtain ⟨W7, hW7⟩ : ∃ W7, W7 = (((((((((w7.setCell ⟨w.heap.size, 0, none⟩ (.int .i64 o'.code)).setCell ⟨w.heap.size, 1, none⟩ (.int .i64 o'.p1)).setCell ⟨w.heap.size, 2, none⟩ (.int .i64 o'.p2)).setCell ⟨w.heap.size, 3, none⟩ (.int .i64 o'.p3)).setCell ⟨w.heap.size, 4, none⟩ (.int .i64 o'.vk)).setCell ⟨w.heap.size, 5, none⟩ (.int .i64 o'.vn)).setCell ⟨w.heap.size, 6, none⟩ (.string (Lx.bs o'.vs))).setCell ⟨w.heap.size, 7, none⟩ (.slice ka kn kc)).setCell ⟨w.heap.size, 8, none⟩ (.string (Lx.bs o'.name))) := ⟨_, rfl⟩
                rw [← hW7] at K7 O7 B7 ⊢
                have A7 := kat_other kat7 T7 zop_bool (fun b _ hb => O7 b hb)
                have HK7 := Lib.hid K7
                have HA7 := Lib.hid A7
                have HB7 := Lib.hid B7
                clear hW7 K7 O7 B7 A7 T7 kat7 hbw7
                go_wp2
                refine bodyPost_agg1 (B := w.heap.size) Tryd.results22 Tryd.underlying39 (by kernel_rfl) rfl HK7.out rfl ?_
                rw [HRC3.out, HEND.out]
                exact ⟨ka, kn, kc, rfl, HA7.out, HKF.out, HB7.out⟩
            | false =>
              have dq : ((Lx.bs (Ox.line o')).toList == s.toList) = false := by rw [Lx.bs_toList, Lx.toList_ls]; exact hq9
              have HEND : Hid (Ox.endOk (o', [], true) (Lx.ls s) = false) := Lib.hid (by simp only [Ox.endOk]; rw [hq9]; rfl)
              clear hq9
              go_wp2
              go_region_with (go_at_call 31; refine (line_any o' (.slice ka kn kc) w6.drew HL6D.out HKAD.out HCD.out HOF.out).mono ?_; rintro e w7 ⟨rfl, hb7⟩; have y0 : w7.cell? ⟨gx, 0, none⟩ = some (.int .i64 o'.code) := (hb7.cell (p := ⟨gx, 0, none⟩) (by simpa using hgx6)).trans x0; have y1 : w7.cell? ⟨gx, 1, none⟩ = some (.int .i64 o'.p1) := (hb7.cell (p := ⟨gx, 1, none⟩) (by simpa using hgx6)).trans x1; have y2 : w7.cell? ⟨gx, 2, none⟩ = some (.int .i64 o'.p2) := (hb7.cell (p := ⟨gx, 2, none⟩) (by simpa using hgx6)).trans x2; have y3 : w7.cell? ⟨gx, 3, none⟩ = some (.int .i64 o'.p3) := (hb7.cell (p := ⟨gx, 3, none⟩) (by simpa using hgx6)).trans x3; have y4 : w7.cell? ⟨gx, 4, none⟩ = some (.int .i64 o'.vk) := (hb7.cell (p := ⟨gx, 4, none⟩) (by simpa using hgx6)).trans x4; have y5 : w7.cell? ⟨gx, 5, none⟩ = some (.int .i64 o'.vn) := (hb7.cell (p := ⟨gx, 5, none⟩) (by simpa using hgx6)).trans x5; have y6 : w7.cell? ⟨gx, 6, none⟩ = some (.string (Lx.bs o'.vs)) := (hb7.cell (p := ⟨gx, 6, none⟩) (by simpa using hgx6)).trans x6; have y7 : w7.cell? ⟨gx, 7, none⟩ = some (.slice ka kn kc) := (hb7.cell (p := ⟨gx, 7, none⟩) (by simpa using hgx6)).trans x7; have y8 : w7.cell? ⟨gx, 8, none⟩ = some (.string (Lx.bs o'.name)) := (hb7.cell (p := ⟨gx, 8, none⟩) (by simpa using hgx6)).trans x8; have s0 : w7.cell? ⟨w.heap.size, 0, none⟩ = some (.int .i64 0) := (hb7.cell (p := ⟨w.heap.size, 0, none⟩) (by simpa using htb6)).trans t0; have sr0 : w7.frozen? ⟨w.heap.size, 0, none⟩ = false := (hb7.frozen (p := ⟨w.heap.size, 0, none⟩) (by simpa using htb6)).trans tr0; have s1 : w7.cell? ⟨w.heap.size, 1, none⟩ = some (.int .i64 0) := (hb7.cell (p := ⟨w.heap.size, 1, none⟩) (by simpa using htb6)).trans t1; have sr1 : w7.frozen? ⟨w.heap.size, 1, none⟩ = false := (hb7.frozen (p := ⟨w.heap.size, 1, none⟩) (by simpa using htb6)).trans tr1; have s2 : w7.cell? ⟨w.heap.size, 2, none⟩ = some (.int .i64 0) := (hb7.cell (p := ⟨w.heap.size, 2, none⟩) (by simpa using htb6)).trans t2; have sr2 : w7.frozen? ⟨w.heap.size, 2, none⟩ = false := (hb7.frozen (p := ⟨w.heap.size, 2, none⟩) (by simpa using htb6)).trans tr2; have s3 : w7.cell? ⟨w.heap.size, 3, none⟩ = some (.int .i64 0) := (hb7.cell (p := ⟨w.heap.size, 3, none⟩) (by simpa using htb6)).trans t3; have sr3 : w7.frozen? ⟨w.heap.size, 3, none⟩ = false := (hb7.frozen (p := ⟨w.heap.size, 3, none⟩) (by simpa using htb6)).trans tr3; have s4 : w7.cell? ⟨w.heap.size, 4, none⟩ = some (.int .i64 0) := (hb7.cell (p := ⟨w.heap.size, 4, none⟩) (by simpa using htb6)).trans t4; have sr4 : w7.frozen? ⟨w.heap.size, 4, none⟩ = false := (hb7.frozen (p := ⟨w.heap.size, 4, none⟩) (by simpa using htb6)).trans tr4; have s5 : w7.cell? ⟨w.heap.size, 5, none⟩ = some (.int .i64 0) := (hb7.cell (p := ⟨w.heap.size, 5, none⟩) (by simpa using htb6)).trans t5; have sr5 : w7.frozen? ⟨w.heap.size, 5, none⟩ = false := (hb7.frozen (p := ⟨w.heap.size, 5, none⟩) (by simpa using htb6)).trans tr5; have s6 : w7.cell? ⟨w.heap.size, 6, none⟩ = some (.string ⟨#[]⟩) := (hb7.cell (p := ⟨w.heap.size, 6, none⟩) (by simpa using htb6)).trans t6; have sr6 : w7.frozen? ⟨w.heap.size, 6, none⟩ = false := (hb7.frozen (p := ⟨w.heap.size, 6, none⟩) (by simpa using htb6)).trans tr6; have s7 : w7.cell? ⟨w.heap.size, 7, none⟩ = some (.slice none 0 0) := (hb7.cell (p := ⟨w.heap.size, 7, none⟩) (by simpa using htb6)).trans t7; have sr7 : w7.frozen? ⟨w.heap.size, 7, none⟩ = false := (hb7.frozen (p := ⟨w.heap.size, 7, none⟩) (by simpa using htb6)).trans tr7; have s8 : w7.cell? ⟨w.heap.size, 8, none⟩ = some (.string ⟨#[]⟩) := (hb7.cell (p := ⟨w.heap.size, 8, none⟩) (by simpa using htb6)).trans t8; have sr8 : w7.frozen? ⟨w.heap.size, 8, none⟩ = false := (hb7.frozen (p := ⟨w.heap.size, 8, none⟩) (by simpa using htb6)).trans tr8)
              all_goals
                have T7 := (hb7.block w.heap.size (by simpa using htb6)).trans (blk_drew HT6.out)
                have kat7 := kat_keep HKAD.out hb7
                have hbw7 : Below w.heap.size w w7 := HBW6.out.drew.trans (hb7.mono (by simp; omega))
                have K7 := stored9 T7 (.int .i64 o'.code) (.int .i64 o'.p1) (.int .i64 o'.p2) (.int .i64 o'.p3) (.int .i64 o'.vk) (.int .i64 o'.vn) (.string (Lx.bs o'.vs)) (.slice ka kn kc) (.string (Lx.bs o'.name))
                have O7 := stored9_other w7 w.heap.size (.int .i64 o'.code) (.int .i64 o'.p1) (.int .i64 o'.p2) (.int .i64 o'.p3) (.int .i64 o'.vk) (.int .i64 o'.vn) (.string (Lx.bs o'.vs)) (.slice ka kn kc) (.string (Lx.bs o'.name))
                have B7 := ((((((((hbw7.setCell (Nat.le_refl w.heap.size) (.int .i64 o'.code) (p := ⟨w.heap.size, 0, none⟩)).setCell (Nat.le_refl w.heap.size) (.int .i64 o'.p1) (p := ⟨w.heap.size, 1, none⟩)).setCell (Nat.le_refl w.heap.size) (.int .i64 o'.p2) (p := ⟨w.heap.size, 2, none⟩)).setCell (Nat.le_refl w.heap.size) (.int .i64 o'.p3) (p := ⟨w.heap.size, 3, none⟩)).setCell (Nat.le_refl w.heap.size) (.int .i64 o'.vk) (p := ⟨w.heap.size, 4, none⟩)).setCell (Nat.le_refl w.heap.size) (.int .i64 o'.vn) (p := ⟨w.heap.size, 5, none⟩)).setCell (Nat.le_refl w.heap.size) (.string (Lx.bs o'.vs)) (p := ⟨w.heap.size, 6, none⟩)).setCell (Nat.le_refl w.heap.size) (.slice ka kn kc) (p := ⟨w.heap.size, 7, none⟩)).setCell (Nat.le_refl w.heap.size) (.string (Lx.bs o'.name)) (p := ⟨w.heap.size, 8, none⟩)
                obtain ⟨W7, hW7⟩ : ∃ W7, W7 = (((((((((w7.setCell ⟨w.heap.size, 0, none⟩ (.int .i64 o'.code)).setCell ⟨w.heap.size, 1, none⟩ (.int .i64 o'.p1)).setCell ⟨w.heap.size, 2, none⟩ (.int .i64 o'.p2)).setCell ⟨w.heap.size, 3, none⟩ (.int .i64 o'.p3)).setCell ⟨w.heap.size, 4, none⟩ (.int .i64 o'.vk)).setCell ⟨w.heap.size, 5, none⟩ (.int .i64 o'.vn)).setCell ⟨w.heap.size, 6, none⟩ (.string (Lx.bs o'.vs))).setCell ⟨w.heap.size, 7, none⟩ (.slice ka kn kc)).setCell ⟨w.heap.size, 8, none⟩ (.string (Lx.bs o'.name))) := ⟨_, rfl⟩
                rw [← hW7] at K7 O7 B7 ⊢
                have A7 := kat_other kat7 T7 zop_bool (fun b _ hb => O7 b hb)
                have HK7 := Lib.hid K7
                have HA7 := Lib.hid A7
                have HB7 := Lib.hid B7
                clear hW7 K7 O7 B7 A7 T7 kat7 hbw7
                go_wp2
                refine bodyPost_agg1 (B := w.heap.size) Tryd.results22 Tryd.underlying39 (by kernel_rfl) rfl HK7.out rfl ?_
                rw [HRC3.out, HEND.out]
                exact ⟨ka, kn, kc, rfl, HA7.out, HKF.out, HB7.out⟩
          · have dl : ((ln : Int) == 0) = false := by simp; omega
            have HEND : Hid (Ox.endOk (o', l', true) (Lx.ls s) = false) := Lib.hid (by
              have h := HLN.out
              cases l' with
              | nil => exact absurd h hz
              | cons y r => simp [Ox.endOk])
            clear hz
            go_wp2
            go_region
            all_goals
              go_wp2
              rw [← HW9.out]
              refine bodyPost_agg1 (B := w.heap.size) Tryd.results22 Tryd.underlying39 (by kernel_rfl) rfl (blk_drew HK9.out) rfl ?_
              rw [HRC3.out, HEND.out]
              exact ⟨ka, kn, kc, rfl, HKA9.out, HKF.out, HB9.out.drew⟩
    · obtain rfl : j = 34 := by omega
      have hCn : C = none := by rw [← HK.out]; rfl
      have hRn : R = (Ox.op0 0, false) := by rw [HRC.out, hCn]; rfl
      subst hRn
      have htb3 : w.heap.size < wr.heap.size := blk_lt HT3.out
      obtain ⟨cct, fft⟩ := blk_cells HT3.out
      have t0 : wr.cell? ⟨w.heap.size, 0, none⟩ = some (.int .i64 0) := cct 0 _ rfl
      have t1 : wr.cell? ⟨w.heap.size, 1, none⟩ = some (.int .i64 0) := cct 1 _ rfl
      have t2 : wr.cell? ⟨w.heap.size, 2, none⟩ = some (.int .i64 0) := cct 2 _ rfl
      have t3 : wr.cell? ⟨w.heap.size, 3, none⟩ = some (.int .i64 0) := cct 3 _ rfl
      have t4 : wr.cell? ⟨w.heap.size, 4, none⟩ = some (.int .i64 0) := cct 4 _ rfl
      have t5 : wr.cell? ⟨w.heap.size, 5, none⟩ = some (.int .i64 0) := cct 5 _ rfl
      have t6 : wr.cell? ⟨w.heap.size, 6, none⟩ = some (.string ⟨#[]⟩) := cct 6 _ rfl
      have t7 : wr.cell? ⟨w.heap.size, 7, none⟩ = some (.slice none 0 0) := cct 7 _ rfl
      have t8 : wr.cell? ⟨w.heap.size, 8, none⟩ = some (.string ⟨#[]⟩) := cct 8 _ rfl
      have tr0 := fft 0
      have tr1 := fft 1
      have tr2 := fft 2
      have tr3 := fft 3
      have tr4 := fft 4
      have tr5 := fft 5
      have tr6 := fft 6
      have tr7 := fft 7
      have tr8 := fft 8
      clear cct fft
      go_wp2
      have K9 := stored9 HT3.out (.int .i64 0) (.int .i64 0) (.int .i64 0) (.int .i64 0) (.int .i64 0) (.int .i64 0) (.string ⟨#[]⟩) (.slice none 0 0) (.string ⟨#[]⟩)
      refine bodyPost_agg1 (B := w.heap.size) Tryd.results22 Tryd.underlying39 (by kernel_rfl) rfl K9 rfl ⟨none, 0, 0, rfl, .inl ⟨rfl, _, _, rfl⟩, .inl rfl, ?_⟩
      have hb := HB3.out
      (repeat (first | with_reducible exact Below.refl _ _ | with_reducible assumption | with_reducible refine Below.drew ?_ | with_reducible refine below_drewN ?_ _ | with_reducible refine below_al ?_ _ | with_reducible refine Below.setCell ?_ ?_ _ | exact Nat.le_refl _ | omega | (simp; done) | (simp; omega)))
end Go.Proofs.YtoekddkkjbcicaaDoor
