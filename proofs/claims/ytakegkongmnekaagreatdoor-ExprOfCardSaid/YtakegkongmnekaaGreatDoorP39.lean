/- Part of the proof: see the last text. -/
import Derived.Test.YtakegkongmnekaaGreatDoorP23
import Derived.Test.YtakegkongmnekaaGreatDoorP30
set_option maxRecDepth 20000
set_option linter.unusedVariables false
set_option linter.unusedSimpArgs false
namespace Go.Proofs.YtakegkongmnekaaGreatDoor
open Go.RowKit
open Vm
attribute [local irreducible] wpR wpC
section
variable {G : Nat → Vm.V} {L : List Lx.TA} {n : Nat}
structure CS where
 a : Int
 b : Int
 w : Int
 first : Bool
 d : Bool
 nil : Bool
 xs : List Vm.V
def outC (d nil : Bool) (xs : List Vm.V) : List Vm.V := [.int .i64 9, .str [], .int .i64 0, .int .i64 0, .str [], .str [], .str [], .int .i64 0, .bool false, .bool d, if nil then .nils else .list xs]
def csJ (L : List Lx.TA) (n : Nat) (d nl : Bool) (r : Ex.R) (s : CS) : Prop :=
 (∃ (m p : Nat) (acc : List Ex.E), s = ⟨p, 0, 0, true, d, nl, acc.map fun e => .agg (expC e)⟩ ∧ (nl = true → acc = []) ∧ m ≤ n ∧ p ≤ L.length ∧ acc.length ≤ p ∧ Ex.run (L.map (·.1)) m (.whens d acc) p = some r) ∨
 (∃ (m p : Nat) (acc : List Ex.E), s = ⟨p, 0, 0, false, d, false, acc.map fun e => .agg (expC e)⟩ ∧ m ≤ n ∧ p ≤ L.length ∧ acc.length ≤ p ∧
  ((Ex.isT (L.map (·.1)) p 2 [119, 104, 101, 110] = true ∧ Ex.run (L.map (·.1)) m (.whens d acc) p = some r) ∨ (Ex.isT (L.map (·.1)) p 2 [119, 104, 101, 110] = false ∧ Ex.zfH (L.map (·.1)) m d acc p = some r))) ∨
 ∃ (p q : Nat) (f : Bool) (xs : List Vm.V), s = ⟨p, 20, q, f, d, false, xs⟩ ∧ r = .stop q ∧ p ≤ L.length ∧ (∀ y ∈ xs, y.size = 11) ∧ xs.length ≤ 1000001 ∧ (f = true → xs.length ≤ 999999)
def csM (L : List Lx.TA) (s : CS) : Nat := if s.b = 0 then 2 + (L.length - s.a.toNat) + (if s.first then 1 else 0) else if s.first then 1 else 0
theorem zmI {d nl : Bool} {m q : Nat} {acc : List Ex.E} {r : Ex.R} (hr : (if Ex.isT (L.map (·.1)) q 2 [119, 104, 101, 110] = true then Ex.run (L.map (·.1)) m (.whens d acc) q else Ex.zfH (L.map (·.1)) m d acc q) = some r) (hm : m ≤ n) (hq : q ≤ L.length) (hl : acc.length ≤ q) :
  csJ L n d nl r ⟨q, 0, 0, false, d, false, acc.map fun e => .agg (expC e)⟩ := by
 refine .inr (.inl ⟨m, q, acc, rfl, hm, hq, hl, ?_⟩)
 cases hb : Ex.isT (L.map (·.1)) q 2 [119, 104, 101, 110]
 ·simp only [hb, Bool.false_eq_true, ↓reduceIte] at hr
  exact .inr ⟨rfl, hr⟩
 ·simp only [hb, ↓reduceIte] at hr
  exact .inl ⟨rfl, hr⟩
theorem zbB {d nl : Bool} {p q : Nat} {xs : List Vm.V} (hp : p ≤ L.length) (hx : ∀ y ∈ xs, y.size = 11) (hl : xs.length ≤ 1000001) : csJ L n d nl (.stop q) ⟨p, 20, q, false, d, false, xs⟩ :=
 .inr (.inr ⟨p, q, false, xs, rfl, rfl, hp, hx, hl, fun h => by cases h⟩)
theorem zlV (acc : List Ex.E) : ∀ y ∈ (acc.map fun e => Vm.V.agg (expC e)), y.size = 11 := fun y hy => by
 obtain ⟨e, _, rfl⟩ := List.mem_map.1 hy
 exact expC_length e
theorem zb7 {xs ys : List Vm.V} (h1 : ∀ y ∈ xs, y.size = 11) (h2 : ∀ y ∈ ys, y.size = 11) : ∀ y ∈ xs ++ ys, y.size = 11 := fun y hy => (List.mem_append.1 hy).elim (h1 y) (h2 y)
theorem zb6 {a b : List Vm.V} (h1 : a.length = 11) (h2 : b.length = 11) : ∀ y ∈ [Vm.V.agg a, Vm.V.agg b], y.size = 11 := fun y hy => by
 simp only [List.mem_cons, List.not_mem_nil, or_false] at hy
 rcases hy with rfl | rfl
 ·exact h1
 ·exact h2
theorem zgH {d : Bool} {m p : Nat} {acc : List Ex.E} {r : Ex.R} {T : List Lx.T} (h : Ex.run T m (.whens d acc) p = some r) :
  ∃ m1, m = m1 + 1 ∧ Ex.need T 2 [119, 104, 101, 110] p (fun p1 => Ex.then1 (Ex.run T m1 (.lev 0) p1) fun a q => Ex.need T 2 [116, 104, 101, 110] q fun q1 => Ex.then1 (Ex.run T m1 (.lev 0) q1) fun b r =>
   if Ex.isT T r 2 [119, 104, 101, 110] = true then Ex.run T m1 (.whens d (acc ++ [a, b])) r else Ex.zfH T m1 d (acc ++ [a, b]) r) = some r := by
 cases m with
 | zero => cases h
 | succ m =>
  rw [Ex.zcv] at h
  exact ⟨m, rfl, h⟩
set_option maxHeartbeats 32000000 in
theorem r_cases (hL : L.length ≤ 999999) (h : LvR G L n) (m p : Nat) (r : Ex.R) (hm : m ≤ n) (hp : p ≤ L.length) (hr : Ex.zeI (L.map (·.1)) m p = some r) : RetX Tryz.prog G 123 [rdV L p 0 0] (okV L r) := by
  unfold Ex.zeI at hr
  refine zde (zgb G) (by simp [L_tomeref25_cases]) ?_
  show wpC _ _ 0 (panK 0 _) _ (retK 0 _ _) (mkX [(0, _)] [])
  have hrd : ∀ a b w, rdV L a b w = .agg [.list (L.map tokM), .int .i64 a, .int .i64 b, .int .i64 w] := fun _ _ _ => rfl
  have x0 := zx; have hpr : ∀ q f, (prsE L q).on f = true := fun _ _ => rfl
  have tk2 : ∀ (xs : List Ex.E) (a b : Vm.V), List.take (xs.length + 2) ((xs.map fun e => Vm.V.agg (expC e)) ++ [a, b]) = (xs.map fun e => Vm.V.agg (expC e)) ++ [a, b] := fun _ _ _ => List.take_of_length_le (by simp)
  have tk1 : ∀ (xs : List Ex.E) (a : Vm.V), List.take (xs.length + 1) ((xs.map fun e => Vm.V.agg (expC e)) ++ [a]) = (xs.map fun e => Vm.V.agg (expC e)) ++ [a] := fun _ _ => List.take_of_length_le (by simp)
  have tv2 : ∀ (xs : List Vm.V) (a b : Vm.V), List.take (xs.length + 2) (xs ++ [a, b]) = xs ++ [a, b] := fun _ _ _ => List.take_of_length_le (by simp)
  have tv1 : ∀ (xs : List Vm.V) (a : Vm.V), List.take (xs.length + 1) (xs ++ [a]) = xs ++ [a] := fun _ _ => List.take_of_length_le (by simp)
  simp only [L_tomeref25_cases, zs, za, zl, zc, zE]
  simp only [Ex.wNot, Ex.wIs, Ex.wIn, Ex.zaO, Ex.zbV, Ex.wAnd, Ex.wOr, Ex.zdk, Ex.wCase, Ex.zcI, Ex.zb4, Ex.zda, Ex.zcA, Ex.wEnd, Ex.wAs, Ex.wDistinct, Ex.zbr, Ex.zbv, Ex.zbh, Ex.zcx, Ex.mDot, Ex.zca, Ex.zbb, Ex.zbN] at hr
  cases hw : Ex.isT (L.map (·.1)) p 2 [119, 104, 101, 110]
  · simp only [hw, Bool.false_eq_true, ↓reduceIte] at hr
    have hr0 := h.go (by omega) (by omega) hp hr
    clear hr
    rcases hr0 with ⟨e, q, hc, hq1, hq2, hr⟩ | ⟨q, hc, rfl⟩
    · repeat' (first
        | refine ww ?_ | (refine ixl ?_; intro a ha) | (refine ixs ?_; intro c hc)
        | refine rdc hL ?_
        | (refine cr (hc) ?_)
        | (refine cz ?_ ?_ <;> intro hb <;> ((try have hlt := Ex.zl hb); try exact zk hb))
        | refine zah ?_ ?_)
      refine lpF [1, 2, 3, 4, 7] [10, 11, 12, 14] (fun s : CS => [(1, .ptr 10 0), (2, .ptr 11 0), (3, .ptr 12 0), (4, .ptr 14 0), (7, .bool s.first)])
        (fun s => [(10, .blk 68 (rdC L s.a s.b s.w)), (11, .blk 68 [.nils, .int .i64 0, .int .i64 0, .int .i64 0]), (12, .blk 27 [.int .i64 0, .str [], .int .i64 0, .int .i64 0, .str [], .str [], .str [], .int .i64 0, .bool false, .bool false, .nils]), (14, .blk 27 (outC s.d s.nil s.xs))])
        (csJ L n true false r) (csM L) ⟨q, 0, 0, true, true, false, [.agg (expC e)]⟩ (.inl ⟨m, q, [e], rfl, (fun h => by cases h), hm, hq2, by simp; omega, hr⟩) ?_ loF (by simp only [rdC, outC, if_true, Bool.false_eq_true, if_false, List.map_nil]; exact leF)
      try clear hc
      try clear hr
      rintro s (⟨m', p', acc, rfl, hnil, hm', hp', hacc, hJ⟩ | ⟨m', p', acc, rfl, hm', hp', hacc, hJ⟩ | ⟨p', q', f, xs, rfl, hrq, hp', hxs, hxl, hff⟩)
      · have hal : acc.length ≤ 999999 := by omega
        have hax := zlV acc
        obtain ⟨m1, rfl, hr⟩ := zgH hJ
        clear hJ
        clear hnil
        simp only [rdC, outC, if_true, Bool.false_eq_true, if_false]
        repeat' (first
          | refine ww ?_ | (refine ixl ?_; intro a ha) | (refine ixs ?_; intro c hc)
          | refine rdc hL ?_
          | (refine cr (hc) ?_)
          | (refine cx (hc) ?_; rintro _ ⟨p', cs, rfl, ⟨z1, z2, z3, z4, z5, z6, z7, z8⟩, hp'⟩ <;> ((try simp only [Int.toNat_natCast, Int.toNat_natCast_add_one] at ho); (try simp only [Int.toNat_natCast, Int.toNat_natCast_add_one] at hlt)))
          | (refine cr (zbI _ _ _ _ hL ht) ?_)
          | (refine cr (za2 _ _ _ _ hL ?_ ht) ?_; exact dq)
          | (refine cz ?_ ?_ <;> intro hb <;> ((try have hlt := Ex.zl hb); try exact zk hb))
          | refine zah ?_ ?_
          | (have hr0 := h.go (by omega) (by omega) (by omega) hr; clear hr; rcases hr0 with ⟨e, q, hc, hq1, hq2, hr⟩ | ⟨q, hc, rfl⟩)
          | (have hr0 := Ex.need_some hr; clear hr; rcases hr0 with ⟨ht, hr⟩ | ⟨ht, rfl⟩; (try have hlt := Ex.isT_lt ht); (try simp only [List.length_map] at hlt)))
        all_goals
          first
            | (have hJ' := zmI (n := n) (nl := false) hr (by omega) (by omega) (by simp <;> omega)
               exact ⟨_, hJ', (by simp [csM] <;> omega), loF, by simp only [rdC, outC, Bool.false_eq_true, if_false, List.map_append, List.map_cons, List.map_nil]; exact leF⟩)
            | exact ⟨⟨_, 20, _, false, _, _, _⟩, zbB (p := _) (q := _) (by omega) (zb7 hax (zb6 (expC_length Ex.e0) (expC_length Ex.e0))) (by simp <;> omega), (by simp [csM] <;> omega), loF, by simp only [rdC, outC, if_true, Bool.false_eq_true, if_false, List.map_nil]; exact leF⟩
            | exact ⟨⟨_, 20, _, false, _, _, _⟩, zbB (p := _) (q := _) (by omega) (zb7 hax (zb6 z1 (expC_length Ex.e0))) (by simp <;> omega), (by simp [csM] <;> omega), loF, by simp only [rdC, outC, if_true, Bool.false_eq_true, if_false, List.map_nil]; exact leF⟩
            | exact ⟨⟨_, 20, _, false, _, _, _⟩, zbB (p := _) (q := _) (by omega) (zb7 hax (zb6 (expC_length _) z1)) (by simp <;> omega), (by simp [csM] <;> omega), loF, by simp only [rdC, outC, if_true, Bool.false_eq_true, if_false, List.map_nil]; exact leF⟩
            | exact ⟨⟨_, 20, _, false, _, _, _⟩, zbB (p := _) (q := _) (by omega) (zb7 hax (zb6 (expC_length _) (expC_length Ex.e0))) (by simp <;> omega), (by simp [csM] <;> omega), loF, by simp only [rdC, outC, if_true, Bool.false_eq_true, if_false, List.map_nil]; exact leF⟩
      · have hal : acc.length ≤ 999999 := by omega
        have hax := zlV acc
        simp only [rdC, outC, Bool.false_eq_true, if_false]
        rcases hJ with ⟨hcm, hJ⟩ | ⟨hcm, hr⟩
        · obtain ⟨m1, rfl, hr⟩ := zgH hJ
          clear hJ
          repeat' (first
            | refine ww ?_ | (refine ixl ?_; intro a ha) | (refine ixs ?_; intro c hc)
            | refine rdc hL ?_
            | (refine cr (hc) ?_)
            | (refine cx (hc) ?_; rintro _ ⟨p', cs, rfl, ⟨z1, z2, z3, z4, z5, z6, z7, z8⟩, hp'⟩ <;> ((try simp only [Int.toNat_natCast, Int.toNat_natCast_add_one] at ho); (try simp only [Int.toNat_natCast, Int.toNat_natCast_add_one] at hlt)))
            | (refine cr (zbI _ _ _ _ hL ht) ?_)
            | (refine cr (za2 _ _ _ _ hL ?_ ht) ?_; exact dq)
            | (refine cz ?_ ?_ <;> intro hb <;> ((try have hlt := Ex.zl hb); try exact zk hb))
            | refine zah ?_ ?_
            | (have hr0 := h.go (by omega) (by omega) (by omega) hr; clear hr; rcases hr0 with ⟨e, q, hc, hq1, hq2, hr⟩ | ⟨q, hc, rfl⟩)
            | (have hr0 := Ex.need_some hr; clear hr; rcases hr0 with ⟨ht, hr⟩ | ⟨ht, rfl⟩; (try have hlt := Ex.isT_lt ht); (try simp only [List.length_map] at hlt)))
          all_goals
            first
              | (have hJ' := zmI (n := n) (nl := false) hr (by omega) (by omega) (by simp <;> omega)
                 exact ⟨_, hJ', (by simp [csM] <;> omega), loF, by simp only [rdC, outC, Bool.false_eq_true, if_false, List.map_append, List.map_cons, List.map_nil]; exact leF⟩)
              | exact ⟨⟨_, 20, _, false, _, _, _⟩, zbB (p := _) (q := _) (by omega) (zb7 hax (zb6 (expC_length Ex.e0) (expC_length Ex.e0))) (by simp <;> omega), (by simp [csM] <;> omega), loF, by simp only [rdC, outC, if_true, Bool.false_eq_true, if_false, List.map_nil]; exact leF⟩
              | exact ⟨⟨_, 20, _, false, _, _, _⟩, zbB (p := _) (q := _) (by omega) (zb7 hax (zb6 z1 (expC_length Ex.e0))) (by simp <;> omega), (by simp [csM] <;> omega), loF, by simp only [rdC, outC, if_true, Bool.false_eq_true, if_false, List.map_nil]; exact leF⟩
              | exact ⟨⟨_, 20, _, false, _, _, _⟩, zbB (p := _) (q := _) (by omega) (zb7 hax (zb6 (expC_length _) z1)) (by simp <;> omega), (by simp [csM] <;> omega), loF, by simp only [rdC, outC, if_true, Bool.false_eq_true, if_false, List.map_nil]; exact leF⟩
              | exact ⟨⟨_, 20, _, false, _, _, _⟩, zbB (p := _) (q := _) (by omega) (zb7 hax (zb6 (expC_length _) (expC_length Ex.e0))) (by simp <;> omega), (by simp [csM] <;> omega), loF, by simp only [rdC, outC, if_true, Bool.false_eq_true, if_false, List.map_nil]; exact leF⟩
        · simp only [Ex.zfH, Ex.wNot, Ex.wIs, Ex.wIn, Ex.zaO, Ex.zbV, Ex.wAnd, Ex.wOr, Ex.zdk, Ex.wCase, Ex.zcI, Ex.zb4, Ex.zda, Ex.zcA, Ex.wEnd, Ex.wAs, Ex.wDistinct, Ex.zbr, Ex.zbv, Ex.zbh, Ex.zcx, Ex.mDot, Ex.zca, Ex.zbb, Ex.zbN] at hr
          repeat' (first
            | refine ww ?_ | (refine ixl ?_; intro a ha) | (refine ixs ?_; intro c hc)
            | refine rdc hL ?_
            | (refine cr (hc) ?_)
            | (refine cx (hc) ?_; rintro _ ⟨p', cs, rfl, ⟨z1, z2, z3, z4, z5, z6, z7, z8⟩, hp'⟩ <;> ((try simp only [Int.toNat_natCast, Int.toNat_natCast_add_one] at ho); (try simp only [Int.toNat_natCast, Int.toNat_natCast_add_one] at hlt)))
            | (refine cr (zbI _ _ _ _ hL ht) ?_)
            | (refine cr (za2 _ _ _ _ hL ?_ ht) ?_; exact dq)
            | (refine cz ?_ ?_ <;> intro hb <;> ((try have hlt := Ex.zl hb); try exact zk hb))
            | refine zah ?_ ?_
            | (simp only [*, ↓reduceIte, Bool.false_eq_true, Bool.and_true, Bool.true_and, Bool.false_and, Bool.and_false, Bool.or_false, Bool.false_or, Bool.or_true, Bool.true_or] at hr)
            | ((split at hr) <;> first | (rename_i op ho; have hop := za8 (by decide) ho; have hlt := (Ex.zaB ho).1; simp only [List.length_map] at hlt) | (rename_i ho; skip))
            | (have hr0 := h.go (by omega) (by omega) (by omega) hr; clear hr; rcases hr0 with ⟨e, q, hc, hq1, hq2, hr⟩ | ⟨q, hc, rfl⟩)
            | (have hr0 := Ex.need_some hr; clear hr; rcases hr0 with ⟨ht, hr⟩ | ⟨ht, rfl⟩; (try have hlt := Ex.isT_lt ht); (try simp only [List.length_map] at hlt))
            | (refine cx (h _ _ _ _ (by omega) (by omega) (by omega) hr) ?_; intro v hv; rcases okV_elim hv with ⟨e, q, rfl, rfl, hq2⟩ | ⟨q, rfl, p', cs, rfl, ⟨z1, z2, z3, z4, z5, z6, z7, z8⟩, hp'⟩))
          all_goals (try exact zf)
      · simp only [rdC, outC, Bool.false_eq_true, if_false]
        try subst hrq
        try cases hrq
        cases f
        · repeat' (first
            | refine ww ?_ | (refine ixl ?_; intro a ha) | (refine ixs ?_; intro c hc)
            | refine rdc hL ?_
            | (refine cz ?_ ?_ <;> intro hb <;> ((try have hlt := Ex.zl hb); try exact zk hb))
            | refine zah ?_ ?_)
          all_goals (try exact zf)
        · repeat' (first
            | refine ww ?_ | (refine ixl ?_; intro a ha) | (refine ixs ?_; intro c hc)
            | refine rdc hL ?_
            | (refine cz ?_ ?_ <;> intro hb <;> ((try have hlt := Ex.zl hb); try exact zk hb))
            | refine zah ?_ ?_)
          all_goals exact ⟨⟨p', 20, q', false, true, false, xs ++ [.agg (expC Ex.e0), .agg (expC Ex.e0)]⟩, zbB hp' (zb7 hxs (zb6 (expC_length _) (expC_length _))) (by have := hff rfl; simp; omega), (by simp [csM] <;> omega), loF, by simp only [rdC, outC, if_true, Bool.false_eq_true, if_false, List.map_nil]; exact leF⟩
    · repeat' (first
        | refine ww ?_ | (refine ixl ?_; intro a ha) | (refine ixs ?_; intro c hc)
        | refine rdc hL ?_
        | (refine cx (hc) ?_; rintro _ ⟨p', cs, rfl, ⟨z1, z2, z3, z4, z5, z6, z7, z8⟩, hp'⟩ <;> ((try simp only [Int.toNat_natCast, Int.toNat_natCast_add_one] at ho); (try simp only [Int.toNat_natCast, Int.toNat_natCast_add_one] at hlt)))
        | (refine cz ?_ ?_ <;> intro hb <;> ((try have hlt := Ex.zl hb); try exact zk hb))
        | refine zah ?_ ?_)
      refine lpF [1, 2, 3, 4, 7] [10, 11, 12, 14] (fun s : CS => [(1, .ptr 10 0), (2, .ptr 11 0), (3, .ptr 12 0), (4, .ptr 14 0), (7, .bool s.first)])
        (fun s => [(10, .blk 68 (rdC L s.a s.b s.w)), (11, .blk 68 [.nils, .int .i64 0, .int .i64 0, .int .i64 0]), (12, .blk 27 [.int .i64 0, .str [], .int .i64 0, .int .i64 0, .str [], .str [], .str [], .int .i64 0, .bool false, .bool false, .nils]), (14, .blk 27 (outC s.d s.nil s.xs))])
        (fun s => ∃ (p q1 : Nat) (f : Bool) (xs : List Vm.V), s = ⟨p, 20, q1, f, true, false, xs⟩ ∧ Ex.R.stop q = .stop q1 ∧ p ≤ L.length ∧ (∀ y ∈ xs, y.size = 11) ∧ xs.length ≤ 1000001 ∧ (f = true → xs.length ≤ 999999)) (csM L) ⟨p', 20, q, true, true, false, [.agg cs]⟩ ⟨p', q, true, [.agg cs], rfl, rfl, hp', (fun y hy => by simp at hy; subst hy; exact z1), by simp, by simp⟩ ?_ loF (by simp only [rdC, outC, if_true, Bool.false_eq_true, if_false, List.map_nil]; exact leF)
      try clear hc
      try clear hr
      rintro s ⟨p', q', f, xs, rfl, hrq, hp', hxs, hxl, hff⟩
      simp only [rdC, outC, Bool.false_eq_true, if_false]
      cases hrq
      cases f
      · repeat' (first
          | refine ww ?_ | (refine ixl ?_; intro a ha) | (refine ixs ?_; intro c hc)
          | refine rdc hL ?_
          | (refine cz ?_ ?_ <;> intro hb <;> ((try have hlt := Ex.zl hb); try exact zk hb))
          | refine zah ?_ ?_)
        all_goals (try exact zf)
      · repeat' (first
          | refine ww ?_ | (refine ixl ?_; intro a ha) | (refine ixs ?_; intro c hc)
          | refine rdc hL ?_
          | (refine cz ?_ ?_ <;> intro hb <;> ((try have hlt := Ex.zl hb); try exact zk hb))
          | refine zah ?_ ?_)
        all_goals exact ⟨⟨p', 20, q, false, true, false, xs ++ [.agg (expC Ex.e0), .agg (expC Ex.e0)]⟩, ⟨p', _, false, _, rfl, rfl, hp', zb7 hxs (zb6 (expC_length _) (expC_length _)), by have := hff rfl; simp; omega, fun h => by cases h⟩, (by simp [csM] <;> omega), loF, by simp only [rdC, outC, if_true, Bool.false_eq_true, if_false, List.map_nil]; exact leF⟩
  · simp only [hw, ↓reduceIte] at hr
    repeat' (first
      | refine ww ?_ | (refine ixl ?_; intro a ha) | (refine ixs ?_; intro c hc)
      | refine rdc hL ?_
      | (refine cz ?_ ?_ <;> intro hb <;> ((try have hlt := Ex.zl hb); try exact zk hb))
      | refine zah ?_ ?_)
    refine lpF [1, 2, 3, 4, 7] [10, 11, 12, 14] (fun s : CS => [(1, .ptr 10 0), (2, .ptr 11 0), (3, .ptr 12 0), (4, .ptr 14 0), (7, .bool s.first)])
      (fun s => [(10, .blk 68 (rdC L s.a s.b s.w)), (11, .blk 68 [.nils, .int .i64 0, .int .i64 0, .int .i64 0]), (12, .blk 27 [.int .i64 0, .str [], .int .i64 0, .int .i64 0, .str [], .str [], .str [], .int .i64 0, .bool false, .bool false, .nils]), (14, .blk 27 (outC s.d s.nil s.xs))])
      (csJ L n false true r) (csM L) ⟨p, 0, 0, true, false, true, []⟩ (.inl ⟨m, p, [], rfl, (fun _ => rfl), hm, hp, by simp, hr⟩) ?_ loF (by simp only [rdC, outC, if_true, Bool.false_eq_true, if_false, List.map_nil]; exact leF)
    try clear hc
    try clear hr
    rintro s (⟨m', p', acc, rfl, hnil, hm', hp', hacc, hJ⟩ | ⟨m', p', acc, rfl, hm', hp', hacc, hJ⟩ | ⟨p', q', f, xs, rfl, hrq, hp', hxs, hxl, hff⟩)
    · have hal : acc.length ≤ 999999 := by omega
      have hax := zlV acc
      obtain ⟨m1, rfl, hr⟩ := zgH hJ
      clear hJ
      obtain rfl : acc = [] := hnil rfl
      simp only [rdC, outC, if_true, Bool.false_eq_true, if_false]
      repeat' (first
        | refine ww ?_ | (refine ixl ?_; intro a ha) | (refine ixs ?_; intro c hc)
        | refine rdc hL ?_
        | (refine cr (hc) ?_)
        | (refine cx (hc) ?_; rintro _ ⟨p', cs, rfl, ⟨z1, z2, z3, z4, z5, z6, z7, z8⟩, hp'⟩ <;> ((try simp only [Int.toNat_natCast, Int.toNat_natCast_add_one] at ho); (try simp only [Int.toNat_natCast, Int.toNat_natCast_add_one] at hlt)))
        | (refine cr (zbI _ _ _ _ hL ht) ?_)
        | (refine cr (za2 _ _ _ _ hL ?_ ht) ?_; exact dq)
        | (refine cz ?_ ?_ <;> intro hb <;> ((try have hlt := Ex.zl hb); try exact zk hb))
        | refine zah ?_ ?_
        | (have hr0 := h.go (by omega) (by omega) (by omega) hr; clear hr; rcases hr0 with ⟨e, q, hc, hq1, hq2, hr⟩ | ⟨q, hc, rfl⟩)
        | (have hr0 := Ex.need_some hr; clear hr; rcases hr0 with ⟨ht, hr⟩ | ⟨ht, rfl⟩; (try have hlt := Ex.isT_lt ht); (try simp only [List.length_map] at hlt)))
      all_goals
        first
          | (have hJ' := zmI (n := n) (nl := true) hr (by omega) (by omega) (by simp <;> omega)
             exact ⟨_, hJ', (by simp [csM] <;> omega), loF, by simp only [rdC, outC, Bool.false_eq_true, if_false, List.map_append, List.map_cons, List.map_nil]; exact leF⟩)
          | exact ⟨⟨_, 20, _, false, _, _, _⟩, zbB (p := _) (q := _) (by omega) (zb7 hax (zb6 (expC_length Ex.e0) (expC_length Ex.e0))) (by simp <;> omega), (by simp [csM] <;> omega), loF, by simp only [rdC, outC, if_true, Bool.false_eq_true, if_false, List.map_nil]; exact leF⟩
          | exact ⟨⟨_, 20, _, false, _, _, _⟩, zbB (p := _) (q := _) (by omega) (zb7 hax (zb6 z1 (expC_length Ex.e0))) (by simp <;> omega), (by simp [csM] <;> omega), loF, by simp only [rdC, outC, if_true, Bool.false_eq_true, if_false, List.map_nil]; exact leF⟩
          | exact ⟨⟨_, 20, _, false, _, _, _⟩, zbB (p := _) (q := _) (by omega) (zb7 hax (zb6 (expC_length _) z1)) (by simp <;> omega), (by simp [csM] <;> omega), loF, by simp only [rdC, outC, if_true, Bool.false_eq_true, if_false, List.map_nil]; exact leF⟩
          | exact ⟨⟨_, 20, _, false, _, _, _⟩, zbB (p := _) (q := _) (by omega) (zb7 hax (zb6 (expC_length _) (expC_length Ex.e0))) (by simp <;> omega), (by simp [csM] <;> omega), loF, by simp only [rdC, outC, if_true, Bool.false_eq_true, if_false, List.map_nil]; exact leF⟩
    · have hal : acc.length ≤ 999999 := by omega
      have hax := zlV acc
      simp only [rdC, outC, Bool.false_eq_true, if_false]
      rcases hJ with ⟨hcm, hJ⟩ | ⟨hcm, hr⟩
      · obtain ⟨m1, rfl, hr⟩ := zgH hJ
        clear hJ
        repeat' (first
          | refine ww ?_ | (refine ixl ?_; intro a ha) | (refine ixs ?_; intro c hc)
          | refine rdc hL ?_
          | (refine cr (hc) ?_)
          | (refine cx (hc) ?_; rintro _ ⟨p', cs, rfl, ⟨z1, z2, z3, z4, z5, z6, z7, z8⟩, hp'⟩ <;> ((try simp only [Int.toNat_natCast, Int.toNat_natCast_add_one] at ho); (try simp only [Int.toNat_natCast, Int.toNat_natCast_add_one] at hlt)))
          | (refine cr (zbI _ _ _ _ hL ht) ?_)
          | (refine cr (za2 _ _ _ _ hL ?_ ht) ?_; exact dq)
          | (refine cz ?_ ?_ <;> intro hb <;> ((try have hlt := Ex.zl hb); try exact zk hb))
          | refine zah ?_ ?_
          | (have hr0 := h.go (by omega) (by omega) (by omega) hr; clear hr; rcases hr0 with ⟨e, q, hc, hq1, hq2, hr⟩ | ⟨q, hc, rfl⟩)
          | (have hr0 := Ex.need_some hr; clear hr; rcases hr0 with ⟨ht, hr⟩ | ⟨ht, rfl⟩; (try have hlt := Ex.isT_lt ht); (try simp only [List.length_map] at hlt)))
        all_goals
          first
            | (have hJ' := zmI (n := n) (nl := true) hr (by omega) (by omega) (by simp <;> omega)
               exact ⟨_, hJ', (by simp [csM] <;> omega), loF, by simp only [rdC, outC, Bool.false_eq_true, if_false, List.map_append, List.map_cons, List.map_nil]; exact leF⟩)
            | exact ⟨⟨_, 20, _, false, _, _, _⟩, zbB (p := _) (q := _) (by omega) (zb7 hax (zb6 (expC_length Ex.e0) (expC_length Ex.e0))) (by simp <;> omega), (by simp [csM] <;> omega), loF, by simp only [rdC, outC, if_true, Bool.false_eq_true, if_false, List.map_nil]; exact leF⟩
            | exact ⟨⟨_, 20, _, false, _, _, _⟩, zbB (p := _) (q := _) (by omega) (zb7 hax (zb6 z1 (expC_length Ex.e0))) (by simp <;> omega), (by simp [csM] <;> omega), loF, by simp only [rdC, outC, if_true, Bool.false_eq_true, if_false, List.map_nil]; exact leF⟩
            | exact ⟨⟨_, 20, _, false, _, _, _⟩, zbB (p := _) (q := _) (by omega) (zb7 hax (zb6 (expC_length _) z1)) (by simp <;> omega), (by simp [csM] <;> omega), loF, by simp only [rdC, outC, if_true, Bool.false_eq_true, if_false, List.map_nil]; exact leF⟩
            | exact ⟨⟨_, 20, _, false, _, _, _⟩, zbB (p := _) (q := _) (by omega) (zb7 hax (zb6 (expC_length _) (expC_length Ex.e0))) (by simp <;> omega), (by simp [csM] <;> omega), loF, by simp only [rdC, outC, if_true, Bool.false_eq_true, if_false, List.map_nil]; exact leF⟩
      · simp only [Ex.zfH, Ex.wNot, Ex.wIs, Ex.wIn, Ex.zaO, Ex.zbV, Ex.wAnd, Ex.wOr, Ex.zdk, Ex.wCase, Ex.zcI, Ex.zb4, Ex.zda, Ex.zcA, Ex.wEnd, Ex.wAs, Ex.wDistinct, Ex.zbr, Ex.zbv, Ex.zbh, Ex.zcx, Ex.mDot, Ex.zca, Ex.zbb, Ex.zbN] at hr
        repeat' (first
          | refine ww ?_ | (refine ixl ?_; intro a ha) | (refine ixs ?_; intro c hc)
          | refine rdc hL ?_
          | (refine cr (hc) ?_)
          | (refine cx (hc) ?_; rintro _ ⟨p', cs, rfl, ⟨z1, z2, z3, z4, z5, z6, z7, z8⟩, hp'⟩ <;> ((try simp only [Int.toNat_natCast, Int.toNat_natCast_add_one] at ho); (try simp only [Int.toNat_natCast, Int.toNat_natCast_add_one] at hlt)))
          | (refine cr (zbI _ _ _ _ hL ht) ?_)
          | (refine cr (za2 _ _ _ _ hL ?_ ht) ?_; exact dq)
          | (refine cz ?_ ?_ <;> intro hb <;> ((try have hlt := Ex.zl hb); try exact zk hb))
          | refine zah ?_ ?_
          | (simp only [*, ↓reduceIte, Bool.false_eq_true, Bool.and_true, Bool.true_and, Bool.false_and, Bool.and_false, Bool.or_false, Bool.false_or, Bool.or_true, Bool.true_or] at hr)
          | ((split at hr) <;> first | (rename_i op ho; have hop := za8 (by decide) ho; have hlt := (Ex.zaB ho).1; simp only [List.length_map] at hlt) | (rename_i ho; skip))
          | (have hr0 := h.go (by omega) (by omega) (by omega) hr; clear hr; rcases hr0 with ⟨e, q, hc, hq1, hq2, hr⟩ | ⟨q, hc, rfl⟩)
          | (have hr0 := Ex.need_some hr; clear hr; rcases hr0 with ⟨ht, hr⟩ | ⟨ht, rfl⟩; (try have hlt := Ex.isT_lt ht); (try simp only [List.length_map] at hlt))
          | (refine cx (h _ _ _ _ (by omega) (by omega) (by omega) hr) ?_; intro v hv; rcases okV_elim hv with ⟨e, q, rfl, rfl, hq2⟩ | ⟨q, rfl, p', cs, rfl, ⟨z1, z2, z3, z4, z5, z6, z7, z8⟩, hp'⟩))
        all_goals (try exact zf)
    · simp only [rdC, outC, Bool.false_eq_true, if_false]
      try subst hrq
      try cases hrq
      cases f
      · repeat' (first
          | refine ww ?_ | (refine ixl ?_; intro a ha) | (refine ixs ?_; intro c hc)
          | refine rdc hL ?_
          | (refine cz ?_ ?_ <;> intro hb <;> ((try have hlt := Ex.zl hb); try exact zk hb))
          | refine zah ?_ ?_)
        all_goals (try exact zf)
      · repeat' (first
          | refine ww ?_ | (refine ixl ?_; intro a ha) | (refine ixs ?_; intro c hc)
          | refine rdc hL ?_
          | (refine cz ?_ ?_ <;> intro hb <;> ((try have hlt := Ex.zl hb); try exact zk hb))
          | refine zah ?_ ?_)
        all_goals exact ⟨⟨p', 20, q', false, false, false, xs ++ [.agg (expC Ex.e0), .agg (expC Ex.e0)]⟩, zbB hp' (zb7 hxs (zb6 (expC_length _) (expC_length _))) (by have := hff rfl; simp; omega), (by simp [csM] <;> omega), loF, by simp only [rdC, outC, if_true, Bool.false_eq_true, if_false, List.map_nil]; exact leF⟩
end
end Go.Proofs.YtakegkongmnekaaGreatDoor
