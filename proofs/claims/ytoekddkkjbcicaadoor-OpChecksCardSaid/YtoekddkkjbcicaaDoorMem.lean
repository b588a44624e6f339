/- Lemmas on memory and endings, over any program. -/
import Derived.Test.YtoekddkkjbcicaaDoorLx
import Derived.WalkKit
import Derived.Laws.BytesArg
import Derived.BigQuiet
import Derived.Deep.QuietTactic
import Derived.Lib.Hide
import Derived.BigGuardPart
set_option linter.unusedVariables false
set_option linter.unusedSimpArgs false
namespace Go.Proofs.YtoekddkkjbcicaaDoor
open Go.RowKit
theorem ret_i {a b : Nat} (h : a = b) : Ending.returned (.int .i64 (a : Int)) = .returned (.int .i64 (b : Int)) := by rw [h]
theorem ret_b {a b : Bool} (h : a = b) : Ending.returned (.bool a) = .returned (.bool b) := by rw [h]
theorem cell_of_heap {w : World} {B : Nat} {C : Array Value} {T : TypeId} {fr : Nat × Nat} {k : Nat} {v : Value} (h : w.heap[B]? = some (.cells C T fr)) (hv : C[k]? = some v) :
    w.cell? ⟨B, k, none⟩ = some v := by
  simp [World.cell?, h, hv]
theorem free_of_heap {w : World} {B : Nat} {C : Array Value} {T : TypeId} {fr : Nat × Nat} {k : Nat} (h : w.heap[B]? = some (.cells C T fr)) (hv : k < fr.1) :
    w.frozen? ⟨B, k, none⟩ = false := by
  simp [World.frozen?, h]; omega
theorem heap_set {w : World} {B : Nat} {C : Array Value} {T : TypeId} {fr : Nat × Nat} {k : Nat} {v : Value} (h : w.heap[B]? = some (.cells C T fr)) :
    (w.setCell ⟨B, k, none⟩ v).heap[B]? = some (.cells (C.setIfInBounds k v) T fr) := by
  simp [World.setCell, Array.getElem?_modify, h]


theorem bytesRow_at {s : ByteArray} {cap j : Nat} (h : j < s.size) : (bytesRow s cap)[j]? = some (.int .u8 (s[j].toNat : Int)) := by
  unfold bytesRow
  rw [Array.getElem?_append_left (by simpa using h)]
  rw [Array.getElem?_map, Array.getElem?_eq_getElem (by simpa using h)]
  rfl
theorem bytesRow_size (s : ByteArray) (cap : Nat) : s.size ≤ (bytesRow s cap).size := by
  unfold bytesRow
  simp only [Array.size_append, Array.size_map]
  exact Nat.le_add_right _ _

theorem add_zero_addr (B k : Nat) : (⟨B, 0, none⟩ : Addr).add k = ⟨B, k, none⟩ := by
  unfold Addr.add
  by_cases h : k = 0 <;> simp [h]

/-- 'string(b)' of a row of the call's own. -/
theorem back_of {P : Program} {wr : World} {B n cap T : Nat} {D : Array Value} {fr : Nat × Nat} {l : List UInt8} (h36 : P.underlying n = some (.slice T)) (h5 : P.underlying T = some (.int .u8)) {m : Nat} (h9 : P.underlying m = some .string)
    {T' : Nat} (h : wr.heap[B]? = some (.cells D T' fr)) (hD : ∀ j (hj : j < l.length), D[j]? = some (.int .u8 (l[j].toNat : Int))) :
    (convert n m (.slice (some ⟨B, 0, none⟩) l.length cap)).run P wr = .ok (.string (Lx.bs l)) wr :=
  run_convert_bytes_back wr n m T ⟨B, 0, none⟩ cap l h36 h5 h9 (fun j hj => by
    rw [add_zero_addr]
    exact cell_of_heap h (hD j hj))


theorem info_of {P : Program} {e : TypeId} {z : Value} {size bytes : Nat} (h : (P.info? e).map (fun i => (i.zero, i.size, i.bytes)) = some (some z, size, bytes)) :
    ∃ i, P.info? e = some i ∧ i.zero = some z ∧ i.size = size ∧ i.bytes = bytes := by
  cases hi : P.info? e with
  | none => simp [hi] at h
  | some i => simp [hi] at h; exact ⟨i, rfl, h.1, h.2.1, h.2.2⟩

theorem cell_new (W : World) (C : Array Value) (e : TypeId) (j : Nat) : (W.alloc (.cells C e)).cell? ⟨W.heap.size, j, none⟩ = C[j]? := by
  have h := heap_alloc_new W (.cells C e)
  unfold World.cell?
  rw [h]
  rfl

theorem own_below {w w' : World} {base B : Nat} {e : TypeId} {size : Nat} {v : Value} {n : Nat} {xs : List Value} (h : w.ownsRow base e size v n xs) (hg : w.grownBy w' v.ownBlock) (hB : B ≤ base) (hw : base ≤ w.heap.size) : Below B w w' :=
  (Below.refl B w).grown hg (by omega) (fun k hk => by have := (h.lt k hk).1; omega)

/-- 'out = append(out, x)': one element of one or more cells, onto a row of the call's own. -/
theorem wpList_app1 {P : Program} {ops : Array Oper} {rest : List Oper} {o : Oper} {a : Act} {Q : Exit → Act → World → Prop} (hgd : o.guard = none) (s x : Operand) (t e : TypeId)
    (ho : o.op = .call { callee := .builtin .append, args := #[s, x], argTypes := #[t, t] })
    (ht : P.underlying t = some (.slice e)) {z : Value} {size bytes : Nat} (hinfo : (P.info? e).map (fun i => (i.zero, i.size, i.bytes)) = some (some z, size, bytes))
    (hzs : z.cells.size = size) (hsz : 0 < size) (W : World) (C : Array Value) (hC : C.size = size) (h1 : ∀ u ∈ C.toList, u.oneCell' = true)
    (base : Nat) (v : Value) (n : Nat) (xs : List Value) (hs : a.eval s = v) (hown : W.ownsRow base e size v n xs) (hx : a.eval x = .slice (some ⟨W.heap.size, 0, none⟩) 1 1)
    (hn : n + 1 ≤ maxLen) (hbytes : (n + 1) * bytes ≤ 140737488355328) (hbase : base ≤ W.heap.size) (B : Nat) (hB : B ≤ base)
    (h : ∀ v' w', w'.ownsRow base e size v' (n + 1) (xs ++ C.toList) → Below B W w' → wpList P ops Q rest (a.put o.dst v') w') :
    wpList P ops Q (o :: rest) a (W.alloc (.cells C e)) := by
  obtain ⟨i, hi, hz, h2, h3⟩ := info_of hinfo
  refine wpList_append_own _ hgd s x t ho base e i z size bytes ht hi hz h2 h3 hzs hsz v n xs hs (hown.alloc _) ⟨W.heap.size, 0, none⟩ 1 1 C.toList hx (by simp [hC]) ?_ h1 hn hbytes (by simp; omega) ?_
  · intro j u hu
    rw [add_zero_addr, cell_new]
    simpa using hu
  · intro v' w' hown' hg _
    exact h v' w' hown' (((Below.refl B W).alloc (by omega) _).trans (own_below (hown.alloc _) hg hB (by simp; omega)))

/-- 'out = append(out, xs...)': a row's cells onto a row of the call's own. -/
theorem wpList_appm {P : Program} {ops : Array Oper} {rest : List Oper} {o : Oper} {a : Act} {Q : Exit → Act → World → Prop} (hgd : o.guard = none) (s x : Operand) (t e : TypeId)
    (ho : o.op = .call { callee := .builtin .append, args := #[s, x], argTypes := #[t, t] })
    (ht : P.underlying t = some (.slice e)) {z : Value} {size bytes : Nat} (hinfo : (P.info? e).map (fun i => (i.zero, i.size, i.bytes)) = some (some z, size, bytes))
    (hzs : z.cells.size = size) (hsz : 0 < size) (W : World) (base : Nat) (v : Value) (n : Nat) (xs : List Value) (hs : a.eval s = v) (hown : W.ownsRow base e size v n xs)
    (g m c : Nat) (news : List Value) (hx : a.eval x = .slice (some ⟨g, 0, none⟩) m c) (hl : news.length = m * size) (hnews : ∀ j u, news[j]? = some u → W.cell? ⟨g, j, none⟩ = some u) (h1 : ∀ u ∈ news, u.oneCell' = true)
    (hn : n + m ≤ maxLen) (hbytes : (n + m) * bytes ≤ 140737488355328) (hbase : base ≤ W.heap.size) (B : Nat) (hB : B ≤ base)
    (h : ∀ v' w', w'.ownsRow base e size v' (n + m) (xs ++ news) → Below B W w' → wpList P ops Q rest (a.put o.dst v') w') :
    wpList P ops Q (o :: rest) a W := by
  obtain ⟨i, hi, hz, h2, h3⟩ := info_of hinfo
  refine wpList_append_own _ hgd s x t ho base e i z size bytes ht hi hz h2 h3 hzs hsz v n xs hs hown ⟨g, 0, none⟩ m c news hx hl ?_ h1 hn hbytes hbase ?_
  · intro j u hu
    rw [add_zero_addr]
    exact hnews j u hu
  · intro v' w' hown' hg _
    exact h v' w' hown' (own_below hown hg hB hbase)
/-- 'out = append(out, a, b ..)': a row just made onto a row of the call's own. -/
theorem wpList_appC {P : Program} {ops : Array Oper} {rest : List Oper} {o : Oper} {a : Act} {Q : Exit → Act → World → Prop} (hgd : o.guard = none) (s x : Operand) (t e : TypeId)
    (ho : o.op = .call { callee := .builtin .append, args := #[s, x], argTypes := #[t, t] })
    (ht : P.underlying t = some (.slice e)) {z : Value} {size bytes : Nat} (hinfo : (P.info? e).map (fun i => (i.zero, i.size, i.bytes)) = some (some z, size, bytes))
    (hzs : z.cells.size = size) (hsz : 0 < size) (W : World) (C : Array Value) (m : Nat) (hC : C.size = m * size) (h1 : ∀ u ∈ C.toList, u.oneCell' = true)
    (base : Nat) (v : Value) (n : Nat) (xs : List Value) (hs : a.eval s = v) (hown : W.ownsRow base e size v n xs) (hx : a.eval x = .slice (some ⟨W.heap.size, 0, none⟩) m m)
    (hn : n + m ≤ maxLen) (hbytes : (n + m) * bytes ≤ 140737488355328) (hbase : base ≤ W.heap.size) (B : Nat) (hB : B ≤ base)
    (h : ∀ v' w', w'.ownsRow base e size v' (n + m) (xs ++ C.toList) → Below B W w' → wpList P ops Q rest (a.put o.dst v') w') :
    wpList P ops Q (o :: rest) a (W.alloc (.cells C e)) := by
  refine wpList_appm hgd s x t e ho ht hinfo hzs hsz _ base v n xs hs (hown.alloc _) W.heap.size m m C.toList hx (by simpa using hC) ?_ h1 hn hbytes (by simp; omega) B hB ?_
  · intro j u hu
    rw [cell_new]
    simpa using hu
  · intro v' w' hown' hb
    exact h v' w' hown' (((Below.refl B W).alloc (by omega) _).trans hb)

/-- The same as a step of a region that draws its order: for 'go_region_law'. -/
theorem step_appm {P : Program} {ops : Array Oper} {o : Oper} {a : Act} {K : Act → World → Prop} {Q : Exit → Act → World → Prop} {E : Prop} (hgd : o.guard = none) (s x : Operand) (t e : TypeId)
    (ho : o.op = .call { callee := .builtin .append, args := #[s, x], argTypes := #[t, t] })
    (ht : P.underlying t = some (.slice e)) {z : Value} {size bytes : Nat} (hinfo : (P.info? e).map (fun i => (i.zero, i.size, i.bytes)) = some (some z, size, bytes))
    (hzs : z.cells.size = size) (hsz : 0 < size) (W : World) (base : Nat) (v : Value) (n : Nat) (xs : List Value) (hs : a.eval s = v) (hown : W.ownsRow base e size v n xs)
    (g m c : Nat) (news : List Value) (hx : a.eval x = .slice (some ⟨g, 0, none⟩) m c) (hl : news.length = m * size) (hnews : ∀ j u, news[j]? = some u → W.cell? ⟨g, j, none⟩ = some u) (h1 : ∀ u ∈ news, u.oneCell' = true)
    (hn : n + m ≤ maxLen) (hbytes : (n + m) * bytes ≤ 140737488355328) (hbase : base ≤ W.heap.size) (B : Nat) (hB : B ≤ base)
    (h : ∀ v' w', w'.ownsRow base e size v' (n + m) (xs ++ news) → Below B W w' → K (a.put o.dst v') w') :
    if Region.wanted o (yielded ops a.tmps) = true then Oper.wp P o a W K Q else E := by
  have hw : Region.wanted o (yielded ops a.tmps) = true := by simp [Region.wanted, hgd]
  rw [if_pos hw]
  obtain ⟨i, hi, hz, h2, h3⟩ := info_of hinfo
  refine wp_append_own _ s x t ho base e i z size bytes ht hi hz h2 h3 hzs hsz v n xs hs hown ⟨g, 0, none⟩ m c news hx hl ?_ h1 hn hbytes hbase ?_
  · intro j u hu
    rw [add_zero_addr]
    exact hnews j u hu
  · intro v' w' hown' hg _
    exact h v' w' hown' (own_below hown hg hB hbase)
theorem step_appC {P : Program} {ops : Array Oper} {o : Oper} {a : Act} {K : Act → World → Prop} {Q : Exit → Act → World → Prop} {E : Prop} (hgd : o.guard = none) (s x : Operand) (t e : TypeId)
    (ho : o.op = .call { callee := .builtin .append, args := #[s, x], argTypes := #[t, t] })
    (ht : P.underlying t = some (.slice e)) {z : Value} {size bytes : Nat} (hinfo : (P.info? e).map (fun i => (i.zero, i.size, i.bytes)) = some (some z, size, bytes))
    (hzs : z.cells.size = size) (hsz : 0 < size) (W : World) (C : Array Value) (m : Nat) (hC : C.size = m * size) (h1 : ∀ u ∈ C.toList, u.oneCell' = true)
    (base : Nat) (v : Value) (n : Nat) (xs : List Value) (hs : a.eval s = v) (hown : W.ownsRow base e size v n xs) (hx : a.eval x = .slice (some ⟨W.heap.size, 0, none⟩) m m)
    (hn : n + m ≤ maxLen) (hbytes : (n + m) * bytes ≤ 140737488355328) (hbase : base ≤ W.heap.size) (B : Nat) (hB : B ≤ base)
    (h : ∀ v' w', w'.ownsRow base e size v' (n + m) (xs ++ C.toList) → Below B W w' → K (a.put o.dst v') w') :
    if Region.wanted o (yielded ops a.tmps) = true then Oper.wp P o a (W.alloc (.cells C e)) K Q else E := by
  refine step_appm hgd s x t e ho ht hinfo hzs hsz _ base v n xs hs (hown.alloc _) W.heap.size m m C.toList hx (by simpa using hC) ?_ h1 hn hbytes (by simp; omega) B hB ?_
  · intro j u hu
    rw [cell_new]
    simpa using hu
  · intro v' w' hown' hb
    exact h v' w' hown' (((Below.refl B W).alloc (by omega) _).trans hb)

/-- 'string(b)' of an owned row of bytes. -/
theorem back_own {P : Program} {W : World} {base n m e : TypeId} {len : Nat} {v : Value} {l : List UInt8} (hn : P.underlying n = some (.slice e)) (he : P.underlying e = some (.int .u8)) (hm : P.underlying m = some .string)
    (hown : W.ownsRow base e 1 v len (l.map fun c => .int .u8 (c.toNat : Int))) : (convert n m v).run P W = .ok (.string (Lx.bs l)) W := by
  obtain ⟨h1, h2⟩ := hown
  rcases h2 with ⟨rfl, rfl⟩ | ⟨g, cap, cur, rfl, hb, hh, hc, hm', hs, ht⟩
  · have hl : l = [] := List.eq_nil_of_length_eq_zero (by simpa using h1)
    subst hl
    rw [run_convert_bytes_nil W n e hn he 0 0]
    · rfl
    · exact hm
  · have hl : l.length = len := by simpa using h1
    subst hl
    refine back_of hn he hm hh (fun j hj => ?_)
    have h3 : (cur.toList.take (l.length * 1))[j]? = (l.map fun c => Value.int .u8 (c.toNat : Int))[j]? := by rw [ht]
    rw [List.getElem?_take_of_lt (by omega), List.getElem?_map, List.getElem?_eq_getElem hj] at h3
    simpa using h3

theorem below_drewN {B : Nat} {a w : World} (h : Below B a w) (n : Nat) : Below B a (w.drewN n) := h.trans ⟨rfl, rfl, rfl, Nat.le_refl _, fun _ _ => rfl⟩
theorem own_drewN {w : World} {base : Nat} {e : TypeId} {size : Nat} {v : Value} {n : Nat} {xs : List Value} (h : w.ownsRow base e size v n xs) (k : Nat) : (w.drewN k).ownsRow base e size v n xs := h
theorem bcell {W w1 : World} (hb : Below W.heap.size W w1) : (∀ b o, b < W.heap.size → w1.cell? ⟨b, o, none⟩ = W.cell? ⟨b, o, none⟩) ∧ (∀ b o, b < W.heap.size → w1.frozen? ⟨b, o, none⟩ = W.frozen? ⟨b, o, none⟩) :=
  ⟨fun b o h => hb.cell (p := ⟨b, o, none⟩) h, fun b o h => hb.frozen (p := ⟨b, o, none⟩) h⟩
theorem below_next {w W w1 : World} (h : Below w.heap.size w W) (hb : Below W.heap.size W w1) : Below w.heap.size w w1 := h.trans (hb.mono h.size)
theorem blk_lt {w : World} {B : Nat} {o : Obj} (h : w.heap[B]? = some o) : B < w.heap.size := (Array.getElem?_eq_some_iff.1 h).1
theorem blk_next {W w1 : World} {B : Nat} {o : Obj} (K : W.heap[B]? = some o) (hb : Below W.heap.size W w1) : w1.heap[B]? = some o := (hb.block B (blk_lt K)).trans K
theorem blk_alloc {W : World} {B : Nat} {o : Obj} (K : W.heap[B]? = some o) (o' : Obj) : (W.alloc o').heap[B]? = some o := (Below.heap_alloc W o' B (blk_lt K)).trans K
theorem blk_drewN {W : World} {B : Nat} {o : Obj} (K : W.heap[B]? = some o) (n : Nat) : (W.drewN n).heap[B]? = some o := K
theorem blk_drew {W : World} {B : Nat} {o : Obj} (K : W.heap[B]? = some o) : W.drew.heap[B]? = some o := K
theorem blk_far {W : World} {B : Nat} {o : Obj} (K : W.heap[B]? = some o) {p : Addr} (hp : B ≠ p.block) (u : Value) : (W.setCell p u).heap[B]? = some o := (Below.heap_setCell W p u B hp).trans K
/-- The first cells of a block of the call's own: what a walk wants of it. -/
theorem blk_cells {w : World} {B T : Nat} {C : Array Value} (K : w.heap[B]? = some (.cells C T (0, 0))) : (∀ k v, C[k]? = some v → w.cell? ⟨B, k, none⟩ = some v) ∧ (∀ k, w.frozen? ⟨B, k, none⟩ = false) :=
  ⟨fun k v h => cell_of_heap K h, fun k => by simp [World.frozen?, K]⟩
theorem below_al {w W : World} (h : Below w.heap.size w W) (o : Obj) : Below w.heap.size w (W.alloc o) := h.alloc h.size o
theorem add_at (B j : Nat) : (⟨B, 0, none⟩ : Addr).add j = ⟨B, j, none⟩ := add_zero_addr B j
theorem run_loadVar_agg {P : Program} {w : World} {T B T' : Nat} {fs : Array Field} {C : Array Value} {fr : Nat × Nat} (hT : P.underlying T = some (.struct fs)) (hi : (P.info? T).map (fun i => i.size) = some C.size)
    (K : w.heap[B]? = some (.cells C T' fr)) : (loadVar T ⟨B, 0, none⟩).run P w = .ok (.agg C) w := by
  obtain ⟨i, hi1, hi2⟩ : ∃ i, P.info? T = some i ∧ i.size = C.size := by
    cases h : P.info? T with
    | none => simp [h] at hi
    | some i => simp [h] at hi; exact ⟨i, rfl, hi⟩
  have hl := run_loadCells_list (P := P) w ⟨B, 0, none⟩ C.toList (fun j v hj => by
    rw [add_at]
    exact cell_of_heap K (by simpa using hj))
  simp only [Array.length_toList, Array.toArray_toList] at hl
  simp [loadVar, isAgg, run_underlying hT, sizeOf, typeInfo, hi1, hi2, hl]
theorem bodyPost_agg2 {P : Program} {fn : Func} {R : Ending → World → Prop} {a : Act} {w : World} {p x y T B T' : Nat} {fs : Array Field} {C : Array Value} {fr : Nat × Nat}
    (hr : fn.results = #[.cell p T, .tmp x, .tmp y]) (hT : P.underlying T = some (.struct fs)) (hi : (P.info? T).map (fun i => i.size) = some C.size) (hp : a.tmps.getD p undef = .pointer (some ⟨B, 0, none⟩))
    (K : w.heap[B]? = some (.cells C T' fr)) (hd : a.defers = []) (hR : R (.returned (.tuple #[.agg C, a.tmps.getD x undef, a.tmps.getD y undef])) w) : bodyPost P fn R .ret a w := by
  refine ⟨hd, _, ?_, hR⟩
  simp only [results, hr]
  have h := run_loadVar_agg hT hi K
  simp only [Array.getD_eq_getD_getElem?] at hp ⊢
  simp [hp, asAddr, h]
theorem bodyPost_agg1 {P : Program} {fn : Func} {R : Ending → World → Prop} {a : Act} {w : World} {p x T B T' : Nat} {fs : Array Field} {C : Array Value} {fr : Nat × Nat}
    (hr : fn.results = #[.cell p T, .tmp x]) (hT : P.underlying T = some (.struct fs)) (hi : (P.info? T).map (fun i => i.size) = some C.size) (hp : a.tmps.getD p undef = .pointer (some ⟨B, 0, none⟩))
    (K : w.heap[B]? = some (.cells C T' fr)) (hd : a.defers = []) (hR : R (.returned (.tuple #[.agg C, a.tmps.getD x undef])) w) : bodyPost P fn R .ret a w := by
  refine ⟨hd, _, ?_, hR⟩
  simp only [results, hr]
  have h := run_loadVar_agg hT hi K
  simp only [Array.getD_eq_getD_getElem?] at hp ⊢
  simp [hp, asAddr, h]
theorem stored6 {w : World} {B T : Nat} {y0 y1 y2 y3 y4 y5 : Value} {fr : Nat × Nat} (K : w.heap[B]? = some (.cells #[y0, y1, y2, y3, y4, y5] T fr)) (x0 x1 x2 x3 x4 x5 : Value) :
    ((((((w.setCell ⟨B, 0, none⟩ x0).setCell ⟨B, 1, none⟩ x1).setCell ⟨B, 2, none⟩ x2).setCell ⟨B, 3, none⟩ x3).setCell ⟨B, 4, none⟩ x4).setCell ⟨B, 5, none⟩ x5).heap[B]? = some (.cells #[x0, x1, x2, x3, x4, x5] T fr) :=
  heap_set (heap_set (heap_set (heap_set (heap_set (heap_set K)))))
theorem stored3 {w : World} {B T : Nat} {y0 y1 y2 : Value} {fr : Nat × Nat} (K : w.heap[B]? = some (.cells #[y0, y1, y2] T fr)) (x0 x1 x2 : Value) :
    (((w.setCell ⟨B, 0, none⟩ x0).setCell ⟨B, 1, none⟩ x1).setCell ⟨B, 2, none⟩ x2).heap[B]? = some (.cells #[x0, x1, x2] T fr) :=
  heap_set (heap_set (heap_set K))
theorem own_form {w : World} {base : Nat} {e : TypeId} {size : Nat} {v : Value} {n : Nat} {xs : List Value} (h : w.ownsRow base e size v n xs) : ∃ a c, v = .slice a n c := by
  rcases h.2 with ⟨rfl, rfl⟩ | ⟨g, cap, cur, rfl, _⟩
  · exact ⟨_, _, rfl⟩
  · exact ⟨_, _, rfl⟩
theorem own_next {W w1 : World} {base : Nat} {e : TypeId} {size : Nat} {v : Value} {n : Nat} {xs : List Value} (h : W.ownsRow base e size v n xs) (hb : Below W.heap.size W w1) : w1.ownsRow base e size v n xs :=
  h.kept (row := none) ⟨hb.os, hb.tape, hb.output, hb.size, fun k hk _ => hb.block k hk⟩ (by
    cases hv : v.ownBlock with
    | none => exact .inl rfl
    | some b => exact .inr (by simp))
/-- A row that can be read: of n elements, whose cells are these. -/
def Row1 (w : World) (v : Value) (n : Nat) (xs : List Value) : Prop :=
  (n = 0 ∧ v = .slice none 0 0) ∨ ∃ g c, v = .slice (some ⟨g, 0, none⟩) n c ∧ g < w.heap.size ∧ n ≤ c ∧ c ≤ maxLen ∧ ∀ j u, xs[j]? = some u → w.cell? ⟨g, j, none⟩ = some u
theorem row1_of_own {w : World} {base n : Nat} {v : Value} {xs : List Value} {t : TypeId} {z : Nat} (h : w.ownsRow base t z v n xs) : Row1 w v n xs := by
  rcases h.2 with ⟨rfl, hn⟩ | ⟨g, cap, cur, rfl, hb, hh, hc, hm, hs, ht⟩
  · exact .inl ⟨hn, rfl⟩
  · refine .inr ⟨g, cap, rfl, blk_lt hh, hc, hm, fun j u hu => ?_⟩
    have h2 := h.cells (g := g) rfl j u hu
    rwa [add_zero_addr] at h2
theorem row1_keep {W w1 : World} {v : Value} {n : Nat} {xs : List Value} (h : Row1 W v n xs) (hb : Below W.heap.size W w1) : Row1 w1 v n xs := by
  rcases h with h | ⟨g, c, h1, h2, h3, h4, h5⟩
  · exact .inl h
  · exact .inr ⟨g, c, h1, Nat.lt_of_lt_of_le h2 hb.size, h3, h4, fun j u hu => (hb.cell (p := ⟨g, j, none⟩) h2).trans (h5 j u hu)⟩
end Go.Proofs.YtoekddkkjbcicaaDoor
