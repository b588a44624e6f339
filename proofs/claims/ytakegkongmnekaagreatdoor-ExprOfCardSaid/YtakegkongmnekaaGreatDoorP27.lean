/- Part of the proof: see the last text. -/
import Derived.Test.YtakegkongmnekaaGreatDoorP0
set_option maxRecDepth 20000
set_option linter.unusedVariables false
set_option linter.unusedSimpArgs false
namespace Go.Proofs.YtakegkongmnekaaGreatDoor
open Go.RowKit
theorem unq_null (s : ByteArray) (w : World) (hs : s.size ≤ 1000000000) (h : Lx.fold (Lx.ls s) = [110, 117, 108, 108]) :
  Calls Tryz.prog 91 #[.string s] w fun e w' => e = valE (Lx.zav (Lx.ls s)) ∧ Below w.heap.size w w' := by
 have hR : Lx.zav (Lx.ls s) = ((0, 0, []), 0) := by rw [Lx.zav, h]; rfl
 rw [hR]
 have hq : ((Lx.bs (Lx.fold (Lx.ls s))).toList == [110, 117, 108, 108]) = true := by rw [Lx.bs_toList, h]; rfl
 clear h hR
 go_enter Tryz.func91, Tryz.ntmps91
 go_wp2_with fail
 refine (zbS s _ (by omega)).mono ?_
 rintro e w1 ⟨rfl, hb1⟩
 have hB1 := zai (w := w) zw hb1; obtain ⟨hc1, hf1⟩ := za5 hb1
 go_wp2
 exact bodyPost_ret (v := .tuple #[.agg #[.int .i64 0, .int .i64 0, .string ⟨#[]⟩], .int .i64 0]) (by simp [results, Tryz.results91, go_sem, hc1]) rfl ⟨rfl, by exact zw⟩
theorem unq_text (s : ByteArray) (w : World) (hs : s.size ≤ 1000000000) (h : Lx.fold (Lx.ls s) ≠ [110, 117, 108, 108]) (h2 : (Lx.zaV (Lx.ls s)).2 = true) :
  Calls Tryz.prog 91 #[.string s] w fun e w' => e = valE (Lx.zav (Lx.ls s)) ∧ Below w.heap.size w w' := by
 have hR : Lx.zav (Lx.ls s) = Lx.mkV 2 (Lx.single (Lx.zaV (Lx.ls s)).1) := by rw [Lx.zav, if_neg (by simpa using h), if_pos h2]
 rw [hR]
 have hq : ((Lx.bs (Lx.fold (Lx.ls s))).toList == [110, 117, 108, 108]) = false := by rw [Lx.bs_toList]; simpa using h
 have H2 := Lib.hid h2
 clear h hR h2
 have hl : (Lx.bs (Lx.zaV (Lx.ls s)).1).size ≤ 1000000000 := by rw [Lx.zaA]; exact Nat.le_trans (Lx.zea _) hs
 obtain ⟨r, hr⟩ : ∃ r, r = Lx.single (Lx.zaV (Lx.ls s)).1 := ⟨_, rfl⟩
 have HR := Lib.hid hr
 obtain ⟨v, hv⟩ : ∃ v, v = Lx.mkV 2 r := ⟨_, rfl⟩
 have HV := Lib.hid hv
 rw [← hr, ← hv]
 clear hr hv
 go_enter Tryz.func91, Tryz.ntmps91
 go_wp2_with fail
 refine (zbS s _ (by omega)).mono ?_
 rintro e w1 ⟨rfl, hb1⟩
 have hB1 := zai (w := w) zw hb1; obtain ⟨hc1, hf1⟩ := za5 hb1
 go_wp2_with fail
 refine (zco s _ (by omega)).mono ?_
 rintro e w' ⟨rfl, rfl⟩
 rw [H2.out]
 go_wp2_with fail
 refine (zmX _ _ hl).mono ?_
 rintro e w2 ⟨rfl, hb2⟩
 rw [Lx.zbd, ← HR.out]
 unfold optE
 have hB2 := zai (w := w) zw hb2; obtain ⟨hc2, hf2⟩ := za5 hb2
 go_wp2_with fail
 refine (zjw 2 _ _ r (fun t ht => by rw [Lx.zbd, ht]; rfl)).mono ?_
 rintro e w3 ⟨rfl, hb3⟩
 rw [← HV.out]
 have hret : valE v = .returned (.tuple #[.agg #[.int .i64 v.1.1, .int .i64 v.1.2.1, .string (Lx.bs v.1.2.2)], .int .i64 v.2]) := rfl
 rw [hret]
 have HRET := Lib.hid hret
 clear hret
 have hB3 := zai (w := w) zw hb3; obtain ⟨hc3, hf3⟩ := za5 hb3
 have K1 := zat (heap_alloc_new w _) hb1
 have K3 := zat (zat K1 hb2) hb3
 obtain ⟨c, f⟩ := zad K3
 have c0 := c 0 _ rfl; have c1 := c 1 _ rfl; have c2 := c 2 _ rfl
 have f0 := f 0; have f1 := f 1; have f2 := f 2
 clear c f hc1 hc2 hc3 hf1 hf2 hf3
 go_wp2
 exact bodyPost_ret (v := .tuple #[.agg #[.int .i64 v.1.1, .int .i64 v.1.2.1, .string (Lx.bs v.1.2.2)], .int .i64 v.2]) (by simp [results, Tryz.results91, go_sem, c0, c1, c2]) rfl ⟨rfl, by exact zw⟩
set_option maxHeartbeats 1600000 in
theorem zjW (s : ByteArray) (w : World) (hs : s.size ≤ 1000000000) (h : Lx.fold (Lx.ls s) ≠ [110, 117, 108, 108]) (h2 : (Lx.zaV (Lx.ls s)).2 = false)
  (h3 : 0 < s.size) (h4 : Lx.fold ((Lx.ls s).take 1) = [120]) (hb : (Lx.zaV (Lx.ls s).tail).2 = true) :
  Calls Tryz.prog 91 #[.string s] w fun e w' => e = valE (Lx.zav (Lx.ls s)) ∧ Below w.heap.size w w' := by
 have hne : (Lx.ls s).isEmpty = false := by rw [Lx.zbX h3]; rfl
 have hR : Lx.zav (Lx.ls s) = Lx.mkV 3 (if (Lx.zaV (Lx.ls s).tail).2 then Lx.zbF (Lx.zaV (Lx.ls s).tail).1 else none) := by
  rw [Lx.zav, if_neg (by simpa using h), if_neg (by simp [h2]), if_pos (by rw [hne, h4]; rfl)]
 rw [hR]
 have hq : ((Lx.bs (Lx.fold (Lx.ls s))).toList == [110, 117, 108, 108]) = false := by rw [Lx.bs_toList]; simpa using h
 have hq2 : s.toList.isEmpty = false := by rw [Lx.zaL]; exact hne
 have hq3 : ((Lx.bs (Lx.fold (Lx.ls (s.extract 0 1)))).toList == [120]) = true := by rw [Lx.bs_toList, Lx.zbk, List.drop_zero]; simpa using h4
 have e1 : Lx.ls (s.extract 1 s.size) = (Lx.ls s).tail := by rw [Lx.zbY, Lx.zbd, List.drop_one]
 have z1 : (s.extract 1 s.size).size = s.size - 1 := Lx.zaS s 1 s.size (Nat.le_refl _)
 have z0 : (s.extract 0 1).size = 1 := Lx.zaS s 0 1 h3
 have hl : (Lx.bs (Lx.zaV (Lx.ls s).tail).1).size ≤ 1000000000 := by
  rw [Lx.zaA]; refine Nat.le_trans (Lx.zea _) ?_; rw [List.length_tail, Lx.zay]; omega
 have H2 := Lib.hid h2
 have E1 := Lib.hid e1
 have Z1 := Lib.hid z1
 have Z0 := Lib.hid z0
 have HL := Lib.hid hl
 clear h hR h2 hne h4 e1 z1 z0 hl
 obtain ⟨r, hr⟩ : ∃ r, r = Lx.zbF (Lx.zaV (Lx.ls s).tail).1 := ⟨_, rfl⟩
 have HR := Lib.hid hr
 rw [← hr]
 clear hr
 rw [hb]
 have HB := Lib.hid hb
 clear hb
 rw [if_pos rfl]
 obtain ⟨v, hv⟩ : ∃ v, v = Lx.mkV 3 r := ⟨_, rfl⟩
 rw [← hv]
 have HV := Lib.hid hv
 clear hv
 go_enter Tryz.func91, Tryz.ntmps91
 go_wp2_with fail
 refine (zbS s _ (by omega)).mono ?_
 rintro e w1 ⟨rfl, hb1⟩
 have hB1 := zai (w := w) zw hb1; obtain ⟨hc1, hf1⟩ := za5 hb1
 go_wp2_with fail
 refine (zco s _ (by omega)).mono ?_
 rintro e w' ⟨rfl, rfl⟩
 rw [H2.out]
 go_wp2_with fail
 refine (zbS _ _ (by rw [Z0.out]; omega)).mono ?_
 rintro e w2 ⟨rfl, hb2⟩
 have hB2 := zai (w := w) zw hb2; obtain ⟨hc2, hf2⟩ := za5 hb2
 go_wp2_with fail
 refine (zco _ _ (by rw [Z1.out]; omega)).mono ?_
 rintro e w' ⟨rfl, rfl⟩
 rw [E1.out, HB.out]
 go_wp2_with fail
 refine (zjZ _ _ HL.out).mono ?_
 rintro e w3 ⟨rfl, hb3⟩
 rw [Lx.zbd, ← HR.out]
 unfold optE
 have hB3 := zai (w := w) zw hb3; obtain ⟨hc3, hf3⟩ := za5 hb3
 go_wp2_with fail
 refine (zjw 3 _ _ r (fun t ht => by rw [Lx.zbd, ht]; rfl)).mono ?_
 rintro e w4 ⟨rfl, hb4⟩
 rw [← HV.out]
 unfold valE
 have hB4 := zai (w := w) zw hb4; obtain ⟨hc4, hf4⟩ := za5 hb4
 have K1 := zat (heap_alloc_new w _) hb1
 have K3 := zat (zat (zat K1 hb2) hb3) hb4
 obtain ⟨c, f⟩ := zad K3
 have c0 := c 0 _ rfl; have c1 := c 1 _ rfl; have c2 := c 2 _ rfl
 have f0 := f 0; have f1 := f 1; have f2 := f 2
 clear c f hc1 hc2 hc3 hf1 hf2 hf3 hc4 hf4
 go_wp2
 exact bodyPost_ret (v := .tuple #[.agg #[.int .i64 v.1.1, .int .i64 v.1.2.1, .string (Lx.bs v.1.2.2)], .int .i64 v.2]) (by simp [results, Tryz.results91, go_sem, c0, c1, c2]) rfl ⟨rfl, by exact zw⟩
set_option maxHeartbeats 1600000 in
theorem ziS (s : ByteArray) (w : World) (hs : s.size ≤ 1000000000) (h : Lx.fold (Lx.ls s) ≠ [110, 117, 108, 108]) (h2 : (Lx.zaV (Lx.ls s)).2 = false)
  (h3 : 0 < s.size) (h4 : Lx.fold ((Lx.ls s).take 1) = [120]) (hb : (Lx.zaV (Lx.ls s).tail).2 = false) :
  Calls Tryz.prog 91 #[.string s] w fun e w' => e = valE (Lx.zav (Lx.ls s)) ∧ Below w.heap.size w w' := by
 have hne : (Lx.ls s).isEmpty = false := by rw [Lx.zbX h3]; rfl
 have hR : Lx.zav (Lx.ls s) = Lx.mkV 3 (if (Lx.zaV (Lx.ls s).tail).2 then Lx.zbF (Lx.zaV (Lx.ls s).tail).1 else none) := by
  rw [Lx.zav, if_neg (by simpa using h), if_neg (by simp [h2]), if_pos (by rw [hne, h4]; rfl)]
 rw [hR]
 have hq : ((Lx.bs (Lx.fold (Lx.ls s))).toList == [110, 117, 108, 108]) = false := by rw [Lx.bs_toList]; simpa using h
 have hq2 : s.toList.isEmpty = false := by rw [Lx.zaL]; exact hne
 have hq3 : ((Lx.bs (Lx.fold (Lx.ls (s.extract 0 1)))).toList == [120]) = true := by rw [Lx.bs_toList, Lx.zbk, List.drop_zero]; simpa using h4
 have e1 : Lx.ls (s.extract 1 s.size) = (Lx.ls s).tail := by rw [Lx.zbY, Lx.zbd, List.drop_one]
 have z1 : (s.extract 1 s.size).size = s.size - 1 := Lx.zaS s 1 s.size (Nat.le_refl _)
 have z0 : (s.extract 0 1).size = 1 := Lx.zaS s 0 1 h3
 have hl : (Lx.bs (Lx.zaV (Lx.ls s).tail).1).size ≤ 1000000000 := by
  rw [Lx.zaA]; refine Nat.le_trans (Lx.zea _) ?_; rw [List.length_tail, Lx.zay]; omega
 have H2 := Lib.hid h2
 have E1 := Lib.hid e1
 have Z1 := Lib.hid z1
 have Z0 := Lib.hid z0
 have HL := Lib.hid hl
 clear h hR h2 hne h4 e1 z1 z0 hl
 obtain ⟨r, hr⟩ : ∃ r, r = Lx.zbF (Lx.zaV (Lx.ls s).tail).1 := ⟨_, rfl⟩
 have HR := Lib.hid hr
 rw [← hr]
 clear hr
 rw [hb]
 have HB := Lib.hid hb
 clear hb
 rw [if_neg (by decide)]
 obtain ⟨v, hv⟩ : ∃ v, v = Lx.mkV 3 none := ⟨_, rfl⟩
 rw [← hv]
 have HV := Lib.hid hv
 clear hv
 go_enter Tryz.func91, Tryz.ntmps91
 go_wp2_with fail
 refine (zbS s _ (by omega)).mono ?_
 rintro e w1 ⟨rfl, hb1⟩
 have hB1 := zai (w := w) zw hb1; obtain ⟨hc1, hf1⟩ := za5 hb1
 go_wp2_with fail
 refine (zco s _ (by omega)).mono ?_
 rintro e w' ⟨rfl, rfl⟩
 rw [H2.out]
 go_wp2_with fail
 refine (zbS _ _ (by rw [Z0.out]; omega)).mono ?_
 rintro e w2 ⟨rfl, hb2⟩
 have hB2 := zai (w := w) zw hb2; obtain ⟨hc2, hf2⟩ := za5 hb2
 go_wp2_with fail
 refine (zco _ _ (by rw [Z1.out]; omega)).mono ?_
 rintro e w' ⟨rfl, rfl⟩
 rw [E1.out, HB.out]
 go_wp2_with fail
 refine (zjZ _ _ HL.out).mono ?_
 rintro e w3 ⟨rfl, hb3⟩
 rw [Lx.zbd, ← HR.out]
 unfold optE
 have hB3 := zai (w := w) zw hb3; obtain ⟨hc3, hf3⟩ := za5 hb3
 go_wp2_with fail
 refine (zjw 3 _ _ none (fun t ht => by cases ht)).mono ?_
 rintro e w4 ⟨rfl, hb4⟩
 rw [← HV.out]
 unfold valE
 have hB4 := zai (w := w) zw hb4; obtain ⟨hc4, hf4⟩ := za5 hb4
 have K1 := zat (heap_alloc_new w _) hb1
 have K3 := zat (zat (zat K1 hb2) hb3) hb4
 obtain ⟨c, f⟩ := zad K3
 have c0 := c 0 _ rfl; have c1 := c 1 _ rfl; have c2 := c 2 _ rfl
 have f0 := f 0; have f1 := f 1; have f2 := f 2
 clear c f hc1 hc2 hc3 hf1 hf2 hf3 hc4 hf4
 go_wp2
 exact bodyPost_ret (v := .tuple #[.agg #[.int .i64 v.1.1, .int .i64 v.1.2.1, .string (Lx.bs v.1.2.2)], .int .i64 v.2]) (by simp [results, Tryz.results91, go_sem, c0, c1, c2]) rfl ⟨rfl, by exact zw⟩
set_option maxHeartbeats 1600000 in
theorem znR (s : ByteArray) (w : World) (hs : s.size ≤ 1000000000) (h : Lx.fold (Lx.ls s) ≠ [110, 117, 108, 108]) (h2 : (Lx.zaV (Lx.ls s)).2 = false)
  (h0 : 0 < s.size) (h3 : ¬ (0 < s.size ∧ Lx.fold ((Lx.ls s).take 1) = [120])) :
  Calls Tryz.prog 91 #[.string s] w fun e w' => e = valE (Lx.zav (Lx.ls s)) ∧ Below w.heap.size w w' := by
 obtain ⟨r, hr⟩ : ∃ r, r = Lx.read (Lx.ls s) := ⟨_, rfl⟩
 have hR : Lx.zav (Lx.ls s) = if r.2 ≠ 0 then ((0, 0, []), r.2) else ((1, r.1, []), 0) := by
  rw [Lx.zav, if_neg (by simpa using h), if_neg (by simp [h2]), if_neg, hr]
  by_cases h0 : 0 < s.size
  ·have : Lx.fold ((Lx.ls s).take 1) ≠ [120] := fun e => h3 ⟨h0, e⟩
   simpa using fun _ => this
  ·rw [Lx.zeE (by omega)]; simp
 rw [hR]
 obtain ⟨v, hv⟩ : ∃ v : (Int × Int × List UInt8) × Int, v = if r.2 ≠ 0 then ((0, 0, []), r.2) else ((1, r.1, []), 0) := ⟨_, rfl⟩
 rw [← hv]
 have HV := Lib.hid hv
 clear hv
 have hq : ((Lx.bs (Lx.fold (Lx.ls s))).toList == [110, 117, 108, 108]) = false := by rw [Lx.bs_toList]; simpa using h
 have H2 := Lib.hid h2
 have HR := Lib.hid hr
 clear hr hR h2
 have hq2 : s.toList.isEmpty = false := by rw [Lx.zaL, Lx.zbX h0]; rfl
 have hq3 : ((Lx.bs (Lx.fold (Lx.ls (s.extract 0 1)))).toList == [120]) = false := by
  rw [Lx.bs_toList, Lx.zbk, List.drop_zero]; simpa using fun e => h3 ⟨h0, e⟩
 have z0 : (s.extract 0 1).size = 1 := Lx.zaS s 0 1 h0
 have Z0 := Lib.hid z0
 clear z0
 clear h h3
 go_enter Tryz.func91, Tryz.ntmps91
 go_wp2_with fail
 refine (zbS s _ (by omega)).mono ?_
 rintro e w1 ⟨rfl, hb1⟩
 have hB1 := zai (w := w) zw hb1; obtain ⟨hc1, hf1⟩ := za5 hb1
 have K1 := zat (heap_alloc_new w _) hb1
 go_wp2_with fail
 refine (zco s _ (by omega)).mono ?_
 rintro e w' ⟨rfl, rfl⟩
 rw [H2.out]
 go_wp2_with fail
 refine (zbS _ _ (by rw [Z0.out]; omega)).mono ?_
 rintro e w2 ⟨rfl, hb2⟩
 have hB2 := zai (w := w) zw hb2; obtain ⟨hc2, hf2⟩ := za5 hb2
 have K1 := zat K1 hb2
 go_wp2_with fail
 refine (zeo s _ (by omega)).mono ?_
 rintro e w3 ⟨rfl, hb3⟩
 rw [← HR.out]
 have hB3 := zai (w := w) zw hb3; obtain ⟨hc3, hf3⟩ := za5 hb3
 have K3 := zat K1 hb3
 obtain ⟨c, f⟩ := zad K3
 have c0 := c 0 _ rfl; have c1 := c 1 _ rfl; have c2 := c 2 _ rfl
 have f0 := f 0; have f1 := f 1; have f2 := f 2
 clear c f hc1 hc3 hf1 hf3
 by_cases he : r.2 = 0
 ·have d1 : (r.2 != 0) = false := by simp [he]
  have HE := Lib.hid he
  clear he
  go_wp2
  exact bodyPost_ret (v := .tuple #[.agg #[.int .i64 1, .int .i64 r.1, .string ⟨#[]⟩], .int .i64 0]) (by simp [results, Tryz.results91, go_sem, c0, c1, c2]) rfl ⟨by rw [HV.out, if_neg (by simp [HE.out])]; rfl, by exact zw⟩
 ·have d1 : (r.2 != 0) = true := by simp [he]
  have HE := Lib.hid he
  clear he
  go_wp2
  exact bodyPost_ret (v := .tuple #[.agg #[.int .i64 0, .int .i64 0, .string ⟨#[]⟩], .int .i64 r.2]) (by simp [results, Tryz.results91, go_sem, c0, c1, c2]) rfl ⟨by rw [HV.out, if_pos HE.out]; rfl, by exact zw⟩
set_option maxHeartbeats 1600000 in
theorem znS (s : ByteArray) (w : World) (hs : s.size ≤ 1000000000) (h : Lx.fold (Lx.ls s) ≠ [110, 117, 108, 108]) (h2 : (Lx.zaV (Lx.ls s)).2 = false)
  (h0 : ¬ 0 < s.size) (h3 : ¬ (0 < s.size ∧ Lx.fold ((Lx.ls s).take 1) = [120])) :
  Calls Tryz.prog 91 #[.string s] w fun e w' => e = valE (Lx.zav (Lx.ls s)) ∧ Below w.heap.size w w' := by
 obtain ⟨r, hr⟩ : ∃ r, r = Lx.read (Lx.ls s) := ⟨_, rfl⟩
 have hR : Lx.zav (Lx.ls s) = if r.2 ≠ 0 then ((0, 0, []), r.2) else ((1, r.1, []), 0) := by
  rw [Lx.zav, if_neg (by simpa using h), if_neg (by simp [h2]), if_neg, hr]
  by_cases h0 : 0 < s.size
  ·have : Lx.fold ((Lx.ls s).take 1) ≠ [120] := fun e => h3 ⟨h0, e⟩
   simpa using fun _ => this
  ·rw [Lx.zeE (by omega)]; simp
 rw [hR]
 obtain ⟨v, hv⟩ : ∃ v : (Int × Int × List UInt8) × Int, v = if r.2 ≠ 0 then ((0, 0, []), r.2) else ((1, r.1, []), 0) := ⟨_, rfl⟩
 rw [← hv]
 have HV := Lib.hid hv
 clear hv
 have hq : ((Lx.bs (Lx.fold (Lx.ls s))).toList == [110, 117, 108, 108]) = false := by rw [Lx.bs_toList]; simpa using h
 have H2 := Lib.hid h2
 have HR := Lib.hid hr
 clear hr hR h2
 have hq2 : s.toList.isEmpty = true := by rw [Lx.zaL, Lx.zeE (by omega)]; rfl
 clear h h3
 go_enter Tryz.func91, Tryz.ntmps91
 go_wp2_with fail
 refine (zbS s _ (by omega)).mono ?_
 rintro e w1 ⟨rfl, hb1⟩
 have hB1 := zai (w := w) zw hb1; obtain ⟨hc1, hf1⟩ := za5 hb1
 have K1 := zat (heap_alloc_new w _) hb1
 go_wp2_with fail
 refine (zco s _ (by omega)).mono ?_
 rintro e w' ⟨rfl, rfl⟩
 rw [H2.out]
 go_wp2_with fail
 refine (zeo s _ (by omega)).mono ?_
 rintro e w3 ⟨rfl, hb3⟩
 rw [← HR.out]
 have hB3 := zai (w := w) zw hb3; obtain ⟨hc3, hf3⟩ := za5 hb3
 have K3 := zat K1 hb3
 obtain ⟨c, f⟩ := zad K3
 have c0 := c 0 _ rfl; have c1 := c 1 _ rfl; have c2 := c 2 _ rfl
 have f0 := f 0; have f1 := f 1; have f2 := f 2
 clear c f hc1 hc3 hf1 hf3
 by_cases he : r.2 = 0
 ·have d1 : (r.2 != 0) = false := by simp [he]
  have HE := Lib.hid he
  clear he
  go_wp2
  exact bodyPost_ret (v := .tuple #[.agg #[.int .i64 1, .int .i64 r.1, .string ⟨#[]⟩], .int .i64 0]) (by simp [results, Tryz.results91, go_sem, c0, c1, c2]) rfl ⟨by rw [HV.out, if_neg (by simp [HE.out])]; rfl, by exact zw⟩
 ·have d1 : (r.2 != 0) = true := by simp [he]
  have HE := Lib.hid he
  clear he
  go_wp2
  exact bodyPost_ret (v := .tuple #[.agg #[.int .i64 0, .int .i64 0, .string ⟨#[]⟩], .int .i64 r.2]) (by simp [results, Tryz.results91, go_sem, c0, c1, c2]) rfl ⟨by rw [HV.out, if_pos HE.out]; rfl, by exact zw⟩
theorem zg6 (s : ByteArray) (w : World) (hs : s.size ≤ 1000000000) :
  Calls Tryz.prog 91 #[.string s] w fun e w' => e = valE (Lx.zav (Lx.ls s)) ∧ Below w.heap.size w w' := by
 by_cases h : Lx.fold (Lx.ls s) = [110, 117, 108, 108]
 ·exact unq_null s w hs h
 ·cases h2 : (Lx.zaV (Lx.ls s)).2 with
  | true => exact unq_text s w hs h h2
  | false =>
   by_cases h3 : 0 < s.size ∧ Lx.fold ((Lx.ls s).take 1) = [120]
   ·cases hb : (Lx.zaV (Lx.ls s).tail).2 with
    | true => exact zjW s w hs h h2 h3.1 h3.2 hb
    | false => exact ziS s w hs h h2 h3.1 h3.2 hb
   ·by_cases h0 : 0 < s.size
    ·exact znR s w hs h h2 h0 h3
    ·exact znS s w hs h h2 h0 h3
end Go.Proofs.YtakegkongmnekaaGreatDoor
namespace Go.Proofs.YtakegkongmnekaaGreatDoor
open Go.RowKit
attribute [local simp] Lx.zaA
def tokV (t : Lx.T) (k : Int) : Value := .agg #[.int .i64 t.kind, .string (Lx.bs t.text), .int .i64 t.val.1, .int .i64 t.val.2.1, .string (Lx.bs t.val.2.2), .int .i64 k]
def znV : Value := .agg #[.int .i64 0, .string ⟨#[]⟩, .int .i64 0, .int .i64 0, .string ⟨#[]⟩, .int .i64 0]
def tokE (r : Lx.TR) (k : Nat) : Ending := .returned (.tuple #[if r.1 = 0 then tokV r.2.1 k else znV, .int .i64 ((if r.1 = 0 then k + r.2.2 else 0 : Nat) : Int), .int .i64 r.1])
set_option maxHeartbeats 1000000 in
theorem znh (s : ByteArray) (k n : Nat) (w : World) (hs : s.size ≤ 1000000000) (hn : k + n ≤ s.size) :
  Calls Tryz.prog 59 #[.string s, .int .i64 k, .int .i64 ((k + n : Nat) : Int)] w fun e w' => e = tokE (Lx.valT (Lx.suf s k) n) k ∧ Below w.heap.size w w' := by
 have hsl : s.extract k (k + n) = Lx.bs ((Lx.suf s k).take n) := by rw [Lx.zaU, Nat.add_sub_cancel_left]; rfl
 have hll : (Lx.bs ((Lx.suf s k).take n)).size ≤ 1000000000 := by rw [Lx.zaA, List.length_take, Lx.zao]; omega
 have hT : Lx.valT (Lx.suf s k) n = if (Lx.zav ((Lx.suf s k).take n)).2 = 0 then (0, ⟨3, (Lx.suf s k).take n, (Lx.zav ((Lx.suf s k).take n)).1⟩, n) else Lx.bad (Lx.zav ((Lx.suf s k).take n)).2 := rfl
 rw [hT]
 obtain ⟨t, ht⟩ : ∃ t, t = (Lx.suf s k).take n := ⟨_, rfl⟩
 rw [← ht] at hsl hll ⊢
 obtain ⟨v, hv⟩ : ∃ v, v = Lx.zav t := ⟨_, rfl⟩
 rw [← hv]
 have HV := Lib.hid hv
 have HS := Lib.hid hsl
 have HL := Lib.hid hll
 clear hv hsl hll ht hT
 have i1 : ((k + n : Nat) : Int).toNat = k + n := by omega
 obtain ⟨m, hm⟩ : ∃ m, m = k + n := ⟨_, rfl⟩
 rw [← hm] at i1 hn HS ⊢
 have hm1 : k ≤ m := by omega
 have HM := Lib.hid hm
 clear hm i1
 by_cases he : v.2 = 0
 ·have d1 : (v.2 != 0) = false := by simp [he]
  have HE := Lib.hid he
  rw [if_pos he]
  clear he
  go_enter Tryz.func59, Tryz.ntmps59
  go_wp2_with fail
  rw [HS.out]
  refine (zg6 _ _ HL.out).mono ?_
  rintro e w1 ⟨rfl, hb1⟩
  rw [Lx.zbd, ← HV.out]
  unfold valE
  have hB1 := zai (w := w) zw hb1; obtain ⟨hc1, hf1⟩ := za5 hb1
  have K1 := zat (heap_alloc_new w _) hb1
  go_wp2
  have K2 := zan K1 (.cells #[.int .i64 v.1.1, .int .i64 v.1.2.1, .string (Lx.bs v.1.2.2)] 24)
  have K3 := heap_alloc_new w1 (.cells #[.int .i64 v.1.1, .int .i64 v.1.2.1, .string (Lx.bs v.1.2.2)] 24)
  have hb2 : Below w.heap.size w (w1.alloc (.cells #[.int .i64 v.1.1, .int .i64 v.1.2.1, .string (Lx.bs v.1.2.2)] 24)) := by exact zw
  have hs0 := HS.out
  obtain ⟨B2, hB2⟩ : ∃ B, B = w1.heap.size := ⟨_, rfl⟩
  have hlt := zcb K1
  rw [← hB2] at K3 hlt ⊢
  generalize hw2 : w1.alloc (.cells #[.int .i64 v.1.1, .int .i64 v.1.2.1, .string (Lx.bs v.1.2.2)] 24) = w2 at K2 K3 hb2 ⊢
  have K1 := K2
  have K1' := K2
  obtain ⟨c, f⟩ := zad K1; have c0 := c 0 _ rfl; have c1 := c 1 _ rfl; have c2 := c 2 _ rfl; have c3 := c 3 _ rfl; have c4 := c 4 _ rfl; have c5 := c 5 _ rfl; have f0 := f 0; have f1 := f 1; have f2 := f 2; have f3 := f 3; have f4 := f 4; have f5 := f 5; clear c f
  obtain ⟨c', f'⟩ := zad K3
  have v0 := c' 0 _ rfl; have v1 := c' 1 _ rfl; have v2 := c' 2 _ rfl
  clear c' f' hc1 hf1 hB2 hw2 K1 K2 K3 hb1 hB1
  go_region
  go_wp2
  refine zaE (B := w.heap.size) Tryz.results59 Tryz.underlying43 (by kernel_rfl) rfl (zjO (zbl K1' _ _ _ _ _ _)) rfl ⟨?_, by exact zw⟩
  simp [tokE, tokV, HM.out]
 ·have d1 : (v.2 != 0) = true := by simp [he]
  have HE := Lib.hid he
  rw [if_neg he]
  clear he
  go_enter Tryz.func59, Tryz.ntmps59
  go_wp2_with fail
  rw [HS.out]
  refine (zg6 _ _ HL.out).mono ?_
  rintro e w1 ⟨rfl, hb1⟩
  rw [Lx.zbd, ← HV.out]
  unfold valE
  have hB1 := zai (w := w) zw hb1; obtain ⟨hc1, hf1⟩ := za5 hb1
  have K1 := zat (heap_alloc_new w _) hb1
  go_upto_region 3 with fail
  have K2 := zan K1 (.cells #[.int .i64 v.1.1, .int .i64 v.1.2.1, .string (Lx.bs v.1.2.2)] 24)
  have K3 := heap_alloc_new w1 (.cells #[.int .i64 v.1.1, .int .i64 v.1.2.1, .string (Lx.bs v.1.2.2)] 24)
  have hb2 : Below w.heap.size w (w1.alloc (.cells #[.int .i64 v.1.1, .int .i64 v.1.2.1, .string (Lx.bs v.1.2.2)] 24)) := by exact zw
  have hs0 := HS.out
  obtain ⟨B2, hB2⟩ : ∃ B, B = w1.heap.size := ⟨_, rfl⟩
  have hlt := zcb K1
  rw [← hB2] at K3 hlt ⊢
  generalize hw2 : w1.alloc (.cells #[.int .i64 v.1.1, .int .i64 v.1.2.1, .string (Lx.bs v.1.2.2)] 24) = w2 at K2 K3 hb2 ⊢
  have K1 := K2
  have K1' := K2
  obtain ⟨c, f⟩ := zad K1; have c0 := c 0 _ rfl; have c1 := c 1 _ rfl; have c2 := c 2 _ rfl; have c3 := c 3 _ rfl; have c4 := c 4 _ rfl; have c5 := c 5 _ rfl; have f0 := f 0; have f1 := f 1; have f2 := f 2; have f3 := f 3; have f4 := f 4; have f5 := f 5; clear c f
  obtain ⟨c', f'⟩ := zad K3
  have v0 := c' 0 _ rfl; have v1 := c' 1 _ rfl; have v2 := c' 2 _ rfl
  clear c' f' hc1 hf1 hB2 hw2 K1 K2 K3 hb1 hB1
  go_wp2
  refine zaE (B := w.heap.size) Tryz.results59 Tryz.underlying43 (by kernel_rfl) rfl (zbl K1' _ _ _ _ _ _) rfl ⟨?_, by exact zw⟩
  simp [tokE, znV, Lx.bad, HE.out]
end Go.Proofs.YtakegkongmnekaaGreatDoor
namespace Go.Proofs.YtakegkongmnekaaGreatDoor
open Go.RowKit
attribute [local simp] Lx.zaA
theorem zdb {r : Lx.TR} {k : Nat} (h : r.1 = 0) : tokE r k = .returned (.tuple #[.agg #[.int .i64 r.2.1.kind, .string (Lx.bs r.2.1.text), .int .i64 r.2.1.val.1, .int .i64 r.2.1.val.2.1, .string (Lx.bs r.2.1.val.2.2), .int .i64 k], .int .i64 ((k + r.2.2 : Nat) : Int), .int .i64 0]) := by
 simp [tokE, tokV, h]
theorem zbR {r : Lx.TR} {k : Nat} (h : r.1 ≠ 0) : tokE r k = .returned (.tuple #[.agg #[.int .i64 0, .string ⟨#[]⟩, .int .i64 0, .int .i64 0, .string ⟨#[]⟩, .int .i64 0], .int .i64 0, .int .i64 r.1]) := by
 simp [tokE, znV, h]
theorem zfh (s : ByteArray) (k n : Nat) (x : Int) (w : World) (hs : s.size ≤ 1000000000) (hn : k + n ≤ s.size) (hx : x = ((k + n : Nat) : Int)) :
  Calls Tryz.prog 59 #[.string s, .int .i64 k, .int .i64 x] w fun e w' => e = tokE (Lx.valT (Lx.suf s k) n) k ∧ Below w.heap.size w w' := by
 subst hx
 exact znh s k n w hs hn
set_option maxHeartbeats 1000000 in
theorem zhb (s : ByteArray) (k : Nat) (w : World) (hs : s.size ≤ 1000000000) (hk : k < s.size) (hl : Lx.let_ s[k] = true) (hb : Lx.zbO (Lx.suf s k) = true) (hm : s.size ≤ k + 2 + Lx.many Lx.noq (Lx.suf s (k + 2))) :
  Calls Tryz.prog 39 #[.string s, .int .i64 k] w fun e w' => e = tokE (Lx.tok (Lx.suf s k)) k ∧ Below w.heap.size w w' := by
 have hT : Lx.tok (Lx.suf s k) = Lx.bad 8 := by
  have hd : (Lx.suf s k).drop 2 = Lx.suf s (k + 2) := by rw [Lx.zbm, Lx.zbm, List.drop_drop]
  have hb' := hb
  rw [Lx.zam hk] at hb' hd ⊢
  rw [Lx.tok]
  simp only [hl, if_true, hb', hd]
  rw [Lx.bEnd, Lx.zao]
  rw [if_neg (by omega)]; rfl
 rw [hT]
 have HLET := Lib.hid hl
 have HB := Lib.hid hb
 obtain ⟨m, hm2⟩ : ∃ m, m = Lx.many Lx.noq (Lx.suf s (k + 2)) := ⟨_, rfl⟩
 rw [← hm2] at hm
 have HM := Lib.hid hm2
 have d1 : decide ((s.size : Int) < (((k + 2 + m + 1 : Nat)) : Int)) = true := decide_eq_true (by omega)
 have hmx := Lx.zbp Lx.noq (Lx.suf s (k + 2))
 rw [← hm2, Lx.zao] at hmx
 clear hl hb hT hm2
 go_enter Tryz.func39, Tryz.ntmps39
 go_wp2_with fail
 refine (zaR _ _).mono ?_
 rintro e w' ⟨rfl, rfl⟩
 rw [HLET.out]
 go_wp2_with fail
 refine (zeu s k _ hs hk).mono ?_
 rintro e w' ⟨rfl, rfl⟩
 rw [HB.out, if_pos rfl, ← HM.out]
 unfold endE
 go_wp2
 refine zaE (B := w.heap.size) Tryz.results39 Tryz.underlying43 (by kernel_rfl) rfl (heap_alloc_new w _) rfl ⟨?_, by exact zw⟩
 rw [zbR (by decide)]; rfl
set_option maxHeartbeats 1000000 in
theorem ziW (s : ByteArray) (k : Nat) (w : World) (hs : s.size ≤ 1000000000) (hk : k < s.size) (hl : Lx.let_ s[k] = true) (hb : Lx.zbO (Lx.suf s k) = true) (n : Nat) (hm : n = 2 + Lx.many Lx.noq (Lx.suf s (k + 2)) + 1) (hn : k + n ≤ s.size) (he : (Lx.valT (Lx.suf s k) n).1 = 0) :
  Calls Tryz.prog 39 #[.string s, .int .i64 k] w fun e w' => e = tokE (Lx.tok (Lx.suf s k)) k ∧ Below w.heap.size w w' := by
 have hT : Lx.tok (Lx.suf s k) = Lx.valT (Lx.suf s k) n := by
  have hd : (Lx.suf s k).drop 2 = Lx.suf s (k + 2) := by rw [Lx.zbm, Lx.zbm, List.drop_drop]
  have hb' := hb
  rw [Lx.zam hk] at hb' hd ⊢
  rw [Lx.tok]
  simp only [hl, if_true, hb', hd]
  rw [Lx.bEnd, Lx.zao]
  rw [if_pos (by omega), Option.map_some, Lx.optV]
  congr 1
  omega
 rw [hT]
 obtain ⟨r, hr⟩ : ∃ r, r = Lx.valT (Lx.suf s k) n := ⟨_, rfl⟩
 rw [← hr]
 have HR := Lib.hid hr
 rw [← hr] at he
 have HE := Lib.hid he
 clear hr he
 have HLET := Lib.hid hl
 have HB := Lib.hid hb
 obtain ⟨m, hm2⟩ : ∃ m, m = Lx.many Lx.noq (Lx.suf s (k + 2)) := ⟨_, rfl⟩
 rw [← hm2] at hm
 have HM := Lib.hid hm2
 have hm3 : n ≤ 2 + m + 1 := by omega
 have hm4 : 2 + m + 1 ≤ n := by omega
 clear hl hb hT hm2 hm
 go_enter Tryz.func39, Tryz.ntmps39
 go_wp2_with fail
 refine (zaR _ _).mono ?_
 rintro e w' ⟨rfl, rfl⟩
 rw [HLET.out]
 go_wp2_with fail
 refine (zeu s k _ hs hk).mono ?_
 rintro e w' ⟨rfl, rfl⟩
 rw [HB.out, if_pos rfl, ← HM.out]
 unfold endE
 go_wp2_with fail
 refine (zfh s k n _ _ hs (by omega) (by omega)).mono ?_
 rintro e w1 ⟨he, hb1⟩
 rw [← HR.out, zdb HE.out] at he
 subst he
 have hB1 := zai (w := w) zw hb1; obtain ⟨hc1, hf1⟩ := za5 hb1
 have K0 := zat (heap_alloc_new w _) hb1
 have K1 := K0
 have K1' := K1
 obtain ⟨c, f⟩ := zad K1; have c0 := c 0 _ rfl; have c1 := c 1 _ rfl; have c2 := c 2 _ rfl; have c3 := c 3 _ rfl; have c4 := c 4 _ rfl; have c5 := c 5 _ rfl; have f0 := f 0; have f1 := f 1; have f2 := f 2; have f3 := f 3; have f4 := f 4; have f5 := f 5; clear c f
 clear K1
 clear hc1 hf1
 go_wp2
 refine zaE (B := w.heap.size) Tryz.results39 Tryz.underlying43 (by kernel_rfl) rfl (zbl K1' _ _ _ _ _ _) rfl ⟨?_, by exact zw⟩
 rw [zdb HE.out]; rfl
set_option maxHeartbeats 1000000 in
theorem zhX (s : ByteArray) (k : Nat) (w : World) (hs : s.size ≤ 1000000000) (hk : k < s.size) (hl : Lx.let_ s[k] = true) (hb : Lx.zbO (Lx.suf s k) = true) (n : Nat) (hm : n = 2 + Lx.many Lx.noq (Lx.suf s (k + 2)) + 1) (hn : k + n ≤ s.size) (he : (Lx.valT (Lx.suf s k) n).1 ≠ 0) :
  Calls Tryz.prog 39 #[.string s, .int .i64 k] w fun e w' => e = tokE (Lx.tok (Lx.suf s k)) k ∧ Below w.heap.size w w' := by
 have hT : Lx.tok (Lx.suf s k) = Lx.valT (Lx.suf s k) n := by
  have hd : (Lx.suf s k).drop 2 = Lx.suf s (k + 2) := by rw [Lx.zbm, Lx.zbm, List.drop_drop]
  have hb' := hb
  rw [Lx.zam hk] at hb' hd ⊢
  rw [Lx.tok]
  simp only [hl, if_true, hb', hd]
  rw [Lx.bEnd, Lx.zao]
  rw [if_pos (by omega), Option.map_some, Lx.optV]
  congr 1
  omega
 rw [hT]
 obtain ⟨r, hr⟩ : ∃ r, r = Lx.valT (Lx.suf s k) n := ⟨_, rfl⟩
 rw [← hr]
 have HR := Lib.hid hr
 rw [← hr] at he
 have HE := Lib.hid he
 clear hr he
 have HLET := Lib.hid hl
 have HB := Lib.hid hb
 obtain ⟨m, hm2⟩ : ∃ m, m = Lx.many Lx.noq (Lx.suf s (k + 2)) := ⟨_, rfl⟩
 rw [← hm2] at hm
 have HM := Lib.hid hm2
 have hm3 : n ≤ 2 + m + 1 := by omega
 have hm4 : 2 + m + 1 ≤ n := by omega
 clear hl hb hT hm2 hm
 go_enter Tryz.func39, Tryz.ntmps39
 go_wp2_with fail
 refine (zaR _ _).mono ?_
 rintro e w' ⟨rfl, rfl⟩
 rw [HLET.out]
 go_wp2_with fail
 refine (zeu s k _ hs hk).mono ?_
 rintro e w' ⟨rfl, rfl⟩
 rw [HB.out, if_pos rfl, ← HM.out]
 unfold endE
 go_wp2_with fail
 refine (zfh s k n _ _ hs (by omega) (by omega)).mono ?_
 rintro e w1 ⟨he, hb1⟩
 rw [← HR.out, zbR HE.out] at he
 subst he
 have hB1 := zai (w := w) zw hb1; obtain ⟨hc1, hf1⟩ := za5 hb1
 have K0 := zat (heap_alloc_new w _) hb1
 have K1 := K0
 have K1' := K1
 obtain ⟨c, f⟩ := zad K1; have c0 := c 0 _ rfl; have c1 := c 1 _ rfl; have c2 := c 2 _ rfl; have c3 := c 3 _ rfl; have c4 := c 4 _ rfl; have c5 := c 5 _ rfl; have f0 := f 0; have f1 := f 1; have f2 := f 2; have f3 := f 3; have f4 := f 4; have f5 := f 5; clear c f
 clear K1
 clear hc1 hf1
 go_wp2
 refine zaE (B := w.heap.size) Tryz.results39 Tryz.underlying43 (by kernel_rfl) rfl (zbl K1' _ _ _ _ _ _) rfl ⟨?_, by exact zw⟩
 rw [zbR HE.out]; rfl
set_option maxHeartbeats 1000000 in
theorem zg7 (s : ByteArray) (k : Nat) (w : World) (hs : s.size ≤ 1000000000) (hk : k < s.size) (hl : Lx.let_ s[k] = true) (hb : Lx.zbO (Lx.suf s k) = false) (hw : Lx.isW ((Lx.suf s k).take (Lx.many Lx.nam (Lx.suf s k))) = true) :
  Calls Tryz.prog 39 #[.string s, .int .i64 k] w fun e w' => e = tokE (Lx.tok (Lx.suf s k)) k ∧ Below w.heap.size w w' := by
 have hT : Lx.tok (Lx.suf s k) = Lx.zeR (Lx.suf s k) (Lx.many Lx.nam (Lx.suf s k)) := by
  have hb' := hb
  rw [Lx.zam hk] at hb' ⊢
  rw [Lx.tok]
  simp only [hl, if_true, hb', Bool.false_eq_true, if_false]
 rw [hT, Lx.zeR]
 have hml := Lx.zbp Lx.nam (Lx.suf s k)
 rw [Lx.zao] at hml
 obtain ⟨n, hn0⟩ : ∃ n, n = Lx.many Lx.nam (Lx.suf s k) := ⟨_, rfl⟩
 rw [← hn0] at hw hml ⊢
 obtain ⟨m, hm⟩ : ∃ m, m = k + n := ⟨_, rfl⟩
 have HM : Hid (m = k + Lx.many Lx.nam (Lx.suf s k)) := by unfold Hid; rw [hm, hn0]
 have HM2 := Lib.hid hm
 have hm1 : k ≤ m := by omega
 have hm2 : m ≤ s.size := by omega
 have hsl : s.extract k m = Lx.bs ((Lx.suf s k).take n) := by rw [Lx.zaU, hm, Nat.add_sub_cancel_left]; rfl
 have htl : ((Lx.suf s k).take n).length = n := by rw [List.length_take, Lx.zao]; omega
 obtain ⟨t, ht⟩ : ∃ t, t = (Lx.suf s k).take n := ⟨_, rfl⟩
 rw [← ht] at hsl htl hw ⊢
 have hst : (Lx.bs t).size ≤ 1000000000 := by rw [Lx.zaA, htl]; omega
 have HS := Lib.hid hsl
 have HST := Lib.hid hst
 have HW := Lib.hid hw
 have HLET := Lib.hid hl
 have HB := Lib.hid hb
 rw [if_pos hw]
 clear hl hb hT hn0 hm hsl htl hst hw ht hml
 go_enter Tryz.func39, Tryz.ntmps39
 go_wp2_with fail
 refine (zaR _ _).mono ?_
 rintro e w' ⟨rfl, rfl⟩
 rw [HLET.out]
 go_wp2_with fail
 refine (zeu s k _ hs hk).mono ?_
 rintro e w' ⟨rfl, rfl⟩
 rw [HB.out, if_neg (by decide)]
 unfold endE
 go_wp2_with fail
 refine (zdS 61 Lx.nam (by intro args w; go_simp) nam_any s k _ (by omega) (by omega)).mono ?_
 rintro e w' ⟨rfl, rfl⟩
 rw [← HM.out]
 go_wp2_with fail
 rw [HS.out]
 refine (ziQ _ _ HST.out).mono ?_
 rintro e w1 ⟨rfl, hb1⟩
 rw [Lx.zbd, HW.out]
 have hB1 := zai (w := w) zw hb1; obtain ⟨hc1, hf1⟩ := za5 hb1
 have K0 := zat (heap_alloc_new w _) hb1
 go_wp2_with fail
 refine (zbS _ _ (by have := HST.out; omega)).mono ?_
 rintro e w2 ⟨rfl, hb2⟩
 rw [Lx.zbd]
 have hB2 := zai (w := w) zw hb2; obtain ⟨hc2, hf2⟩ := za5 hb2
 have K0 := zat K0 hb2
 clear hc2 hf2
 have K1 := K0
 have K1' := K1
 obtain ⟨c, f⟩ := zad K1; have c0 := c 0 _ rfl; have c1 := c 1 _ rfl; have c2 := c 2 _ rfl; have c3 := c 3 _ rfl; have c4 := c 4 _ rfl; have c5 := c 5 _ rfl; have f0 := f 0; have f1 := f 1; have f2 := f 2; have f3 := f 3; have f4 := f 4; have f5 := f 5; clear c f
 clear K1
 clear hc1 hf1
 go_wp2
 refine zaE (B := w.heap.size) Tryz.results39 Tryz.underlying43 (by kernel_rfl) rfl (zbl K1' _ _ _ _ _ _) rfl ⟨?_, by exact zw⟩
 rw [zdb rfl, HM2.out]; rfl
set_option maxHeartbeats 1000000 in
theorem zg8 (s : ByteArray) (k : Nat) (w : World) (hs : s.size ≤ 1000000000) (hk : k < s.size) (hl : Lx.let_ s[k] = true) (hb : Lx.zbO (Lx.suf s k) = false) (hw : Lx.isW ((Lx.suf s k).take (Lx.many Lx.nam (Lx.suf s k))) = false) (hn : 32 < Lx.many Lx.nam (Lx.suf s k)) :
  Calls Tryz.prog 39 #[.string s, .int .i64 k] w fun e w' => e = tokE (Lx.tok (Lx.suf s k)) k ∧ Below w.heap.size w w' := by
 have hT : Lx.tok (Lx.suf s k) = Lx.zeR (Lx.suf s k) (Lx.many Lx.nam (Lx.suf s k)) := by
  have hb' := hb
  rw [Lx.zam hk] at hb' ⊢
  rw [Lx.tok]
  simp only [hl, if_true, hb', Bool.false_eq_true, if_false]
 rw [hT, Lx.zeR]
 have hml := Lx.zbp Lx.nam (Lx.suf s k)
 rw [Lx.zao] at hml
 obtain ⟨n, hn0⟩ : ∃ n, n = Lx.many Lx.nam (Lx.suf s k) := ⟨_, rfl⟩
 rw [← hn0] at hw hml ⊢
 rw [← hn0] at hn
 obtain ⟨m, hm⟩ : ∃ m, m = k + n := ⟨_, rfl⟩
 have HM : Hid (m = k + Lx.many Lx.nam (Lx.suf s k)) := by unfold Hid; rw [hm, hn0]
 have HM2 := Lib.hid hm
 have hm1 : k ≤ m := by omega
 have hm2 : m ≤ s.size := by omega
 have hsl : s.extract k m = Lx.bs ((Lx.suf s k).take n) := by rw [Lx.zaU, hm, Nat.add_sub_cancel_left]; rfl
 have htl : ((Lx.suf s k).take n).length = n := by rw [List.length_take, Lx.zao]; omega
 obtain ⟨t, ht⟩ : ∃ t, t = (Lx.suf s k).take n := ⟨_, rfl⟩
 rw [← ht] at hsl htl hw ⊢
 have hst : (Lx.bs t).size ≤ 1000000000 := by rw [Lx.zaA, htl]; omega
 have HS := Lib.hid hsl
 have HST := Lib.hid hst
 have HW := Lib.hid hw
 have HLET := Lib.hid hl
 have HB := Lib.hid hb
 rw [if_neg (by rw [hw]; decide), if_pos hn]
 have d1 : decide (32 < (t.length : Int)) = true := decide_eq_true (by omega)
 clear hl hb hT hn0 hm hsl htl hst hw ht hml hn
 go_enter Tryz.func39, Tryz.ntmps39
 go_wp2_with fail
 refine (zaR _ _).mono ?_
 rintro e w' ⟨rfl, rfl⟩
 rw [HLET.out]
 go_wp2_with fail
 refine (zeu s k _ hs hk).mono ?_
 rintro e w' ⟨rfl, rfl⟩
 rw [HB.out, if_neg (by decide)]
 unfold endE
 go_wp2_with fail
 refine (zdS 61 Lx.nam (by intro args w; go_simp) nam_any s k _ (by omega) (by omega)).mono ?_
 rintro e w' ⟨rfl, rfl⟩
 rw [← HM.out]
 go_wp2_with fail
 rw [HS.out]
 refine (ziQ _ _ HST.out).mono ?_
 rintro e w1 ⟨rfl, hb1⟩
 rw [Lx.zbd, HW.out]
 have hB1 := zai (w := w) zw hb1; obtain ⟨hc1, hf1⟩ := za5 hb1
 have K0 := zat (heap_alloc_new w _) hb1
 have K1 := K0
 have K1' := K1
 obtain ⟨c, f⟩ := zad K1; have c0 := c 0 _ rfl; have c1 := c 1 _ rfl; have c2 := c 2 _ rfl; have c3 := c 3 _ rfl; have c4 := c 4 _ rfl; have c5 := c 5 _ rfl; have f0 := f 0; have f1 := f 1; have f2 := f 2; have f3 := f 3; have f4 := f 4; have f5 := f 5; clear c f
 clear K1
 clear hc1 hf1
 go_wp2
 refine zaE (B := w.heap.size) Tryz.results39 Tryz.underlying43 (by kernel_rfl) rfl (zbl K1' _ _ _ _ _ _) rfl ⟨?_, by exact zw⟩
 rw [zbR (by decide)]; rfl
set_option maxHeartbeats 1000000 in
theorem zgo (s : ByteArray) (k : Nat) (w : World) (hs : s.size ≤ 1000000000) (hk : k < s.size) (hl : Lx.let_ s[k] = true) (hb : Lx.zbO (Lx.suf s k) = false) (hw : Lx.isW ((Lx.suf s k).take (Lx.many Lx.nam (Lx.suf s k))) = false) (hn : ¬ 32 < Lx.many Lx.nam (Lx.suf s k)) :
  Calls Tryz.prog 39 #[.string s, .int .i64 k] w fun e w' => e = tokE (Lx.tok (Lx.suf s k)) k ∧ Below w.heap.size w w' := by
 have hT : Lx.tok (Lx.suf s k) = Lx.zeR (Lx.suf s k) (Lx.many Lx.nam (Lx.suf s k)) := by
  have hb' := hb
  rw [Lx.zam hk] at hb' ⊢
  rw [Lx.tok]
  simp only [hl, if_true, hb', Bool.false_eq_true, if_false]
 rw [hT, Lx.zeR]
 have hml := Lx.zbp Lx.nam (Lx.suf s k)
 rw [Lx.zao] at hml
 obtain ⟨n, hn0⟩ : ∃ n, n = Lx.many Lx.nam (Lx.suf s k) := ⟨_, rfl⟩
 rw [← hn0] at hw hml ⊢
 rw [← hn0] at hn
 obtain ⟨m, hm⟩ : ∃ m, m = k + n := ⟨_, rfl⟩
 have HM : Hid (m = k + Lx.many Lx.nam (Lx.suf s k)) := by unfold Hid; rw [hm, hn0]
 have HM2 := Lib.hid hm
 have hm1 : k ≤ m := by omega
 have hm2 : m ≤ s.size := by omega
 have hsl : s.extract k m = Lx.bs ((Lx.suf s k).take n) := by rw [Lx.zaU, hm, Nat.add_sub_cancel_left]; rfl
 have htl : ((Lx.suf s k).take n).length = n := by rw [List.length_take, Lx.zao]; omega
 obtain ⟨t, ht⟩ : ∃ t, t = (Lx.suf s k).take n := ⟨_, rfl⟩
 rw [← ht] at hsl htl hw ⊢
 have hst : (Lx.bs t).size ≤ 1000000000 := by rw [Lx.zaA, htl]; omega
 have HS := Lib.hid hsl
 have HST := Lib.hid hst
 have HW := Lib.hid hw
 have HLET := Lib.hid hl
 have HB := Lib.hid hb
 rw [if_neg (by rw [hw]; decide), if_neg hn]
 have d1 : decide (32 < (t.length : Int)) = false := decide_eq_false (by omega)
 clear hl hb hT hn0 hm hsl htl hst hw ht hml hn
 go_enter Tryz.func39, Tryz.ntmps39
 go_wp2_with fail
 refine (zaR _ _).mono ?_
 rintro e w' ⟨rfl, rfl⟩
 rw [HLET.out]
 go_wp2_with fail
 refine (zeu s k _ hs hk).mono ?_
 rintro e w' ⟨rfl, rfl⟩
 rw [HB.out, if_neg (by decide)]
 unfold endE
 go_wp2_with fail
 refine (zdS 61 Lx.nam (by intro args w; go_simp) nam_any s k _ (by omega) (by omega)).mono ?_
 rintro e w' ⟨rfl, rfl⟩
 rw [← HM.out]
 go_wp2_with fail
 rw [HS.out]
 refine (ziQ _ _ HST.out).mono ?_
 rintro e w1 ⟨rfl, hb1⟩
 rw [Lx.zbd, HW.out]
 have hB1 := zai (w := w) zw hb1; obtain ⟨hc1, hf1⟩ := za5 hb1
 have K0 := zat (heap_alloc_new w _) hb1
 have K1 := K0
 have K1' := K1
 obtain ⟨c, f⟩ := zad K1; have c0 := c 0 _ rfl; have c1 := c 1 _ rfl; have c2 := c 2 _ rfl; have c3 := c 3 _ rfl; have c4 := c 4 _ rfl; have c5 := c 5 _ rfl; have f0 := f 0; have f1 := f 1; have f2 := f 2; have f3 := f 3; have f4 := f 4; have f5 := f 5; clear c f
 clear K1
 clear hc1 hf1
 go_wp2
 refine zaE (B := w.heap.size) Tryz.results39 Tryz.underlying43 (by kernel_rfl) rfl (zbl K1' _ _ _ _ _ _) rfl ⟨?_, by exact zw⟩
 rw [zdb rfl, HM2.out]; rfl
end Go.Proofs.YtakegkongmnekaaGreatDoor
namespace Go.Proofs.YtakegkongmnekaaGreatDoor
open Go.RowKit
attribute [local simp] Lx.zaA
set_option maxHeartbeats 1000000 in
theorem zgn (s : ByteArray) (k : Nat) (w : World) (hs : s.size ≤ 1000000000) (hk : k < s.size) (hl : Lx.let_ s[k] = false) (hdg : Lx.dig s[k] = true) (n : Nat) (hn0 : n = Lx.many Lx.dig (Lx.suf s k)) (he : k + n < s.size) (hle : Lx.let_ s[k + n] = true) :
  Calls Tryz.prog 39 #[.string s, .int .i64 k] w fun e w' => e = tokE (Lx.tok (Lx.suf s k)) k ∧ Below w.heap.size w w' := by
 have hT : Lx.tok (Lx.suf s k) = Lx.numT (Lx.suf s k) n := by
  rw [hn0, Lx.zam hk, Lx.tok]
  simp only [hl, hdg, Bool.false_eq_true, if_true, if_false]
 have hd : (Lx.suf s k).drop n = Lx.suf s (k + n) := by rw [Lx.zbm, Lx.zbm, List.drop_drop]
 have hh : (Lx.suf s (k + n)).head?.any Lx.let_ = true := by rw [Lx.zam he]; exact hle
 rw [hT, Lx.numT, hd, hh]
 rw [if_pos rfl]
 have hml := Lx.zbp Lx.dig (Lx.suf s k)
 rw [Lx.zao, ← hn0] at hml
 obtain ⟨m, hm⟩ : ∃ m, m = k + n := ⟨_, rfl⟩
 have HM : Hid (m = k + Lx.many Lx.dig (Lx.suf s k)) := by unfold Hid; rw [hm, hn0]
 have HM2 := Lib.hid hm
 have hm1 : k ≤ m := by omega
 have hm2 : m ≤ s.size := by omega
 have hlt : m < s.size := by omega
 have hle' : Lx.let_ s[m] = true := by subst hm; exact hle
 have HLE := Lib.hid hle'
 have d1 : decide ((m : Int) < (s.size : Int)) = true := decide_eq_true (by omega)
 have HLET := Lib.hid hl
 have HDIG := Lib.hid hdg
 clear hl hdg hT hd hh hm hn0 hml he hle hle'
 go_enter Tryz.func39, Tryz.ntmps39
 go_wp2_with fail
 refine (zaR _ _).mono ?_
 rintro e w' ⟨rfl, rfl⟩
 rw [HLET.out]
 go_wp2_with fail
 refine (digit_any _ _).mono ?_
 rintro e w' ⟨rfl, rfl⟩
 rw [HDIG.out]
 go_wp2_with fail
 refine (zdR s k _ (by omega) (by omega)).mono ?_
 rintro e w' ⟨rfl, rfl⟩
 rw [← HM.out]
 go_wp2_with fail
 refine (zaR _ _).mono ?_
 rintro e w' ⟨rfl, rfl⟩
 rw [HLE.out]
 go_wp2
 refine zaE (B := w.heap.size) Tryz.results39 Tryz.underlying43 (by kernel_rfl) rfl (heap_alloc_new w _) rfl ⟨?_, by exact zw⟩
 rw [zbR (by decide)]; rfl
set_option maxHeartbeats 1000000 in
theorem zj1 (s : ByteArray) (k : Nat) (w : World) (hs : s.size ≤ 1000000000) (hk : k < s.size) (hl : Lx.let_ s[k] = false) (hdg : Lx.dig s[k] = true) (n : Nat) (hn0 : n = Lx.many Lx.dig (Lx.suf s k)) (he : k + n < s.size) (hle : Lx.let_ s[k + n] = false) (hr : (Lx.read ((Lx.suf s k).take n)).2 = 0) :
  Calls Tryz.prog 39 #[.string s, .int .i64 k] w fun e w' => e = tokE (Lx.tok (Lx.suf s k)) k ∧ Below w.heap.size w w' := by
 have hT : Lx.tok (Lx.suf s k) = Lx.numT (Lx.suf s k) n := by
  rw [hn0, Lx.zam hk, Lx.tok]
  simp only [hl, hdg, Bool.false_eq_true, if_true, if_false]
 have hd : (Lx.suf s k).drop n = Lx.suf s (k + n) := by rw [Lx.zbm, Lx.zbm, List.drop_drop]
 have hh : (Lx.suf s (k + n)).head?.any Lx.let_ = false := by rw [Lx.zam he]; exact hle
 rw [hT, Lx.numT, hd, hh]
 rw [if_neg (by decide), if_pos hr]
 have hml := Lx.zbp Lx.dig (Lx.suf s k)
 rw [Lx.zao, ← hn0] at hml
 obtain ⟨m, hm⟩ : ∃ m, m = k + n := ⟨_, rfl⟩
 have HM : Hid (m = k + Lx.many Lx.dig (Lx.suf s k)) := by unfold Hid; rw [hm, hn0]
 have HM2 := Lib.hid hm
 have hm1 : k ≤ m := by omega
 have hm2 : m ≤ s.size := by omega
 have hlt : m < s.size := by omega
 have hle' : Lx.let_ s[m] = false := by subst hm; exact hle
 have HLE := Lib.hid hle'
 have d1 : decide ((m : Int) < (s.size : Int)) = true := decide_eq_true (by omega)
 have hsl : s.extract k m = Lx.bs ((Lx.suf s k).take n) := by rw [Lx.zaU, hm, Nat.add_sub_cancel_left]; rfl
 have hst : (Lx.bs ((Lx.suf s k).take n)).size ≤ 1000000000 := by rw [Lx.zaA, List.length_take, Lx.zao]; omega
 obtain ⟨t, ht⟩ : ∃ t, t = (Lx.suf s k).take n := ⟨_, rfl⟩
 rw [← ht] at hsl hst hr ⊢
 have HS := Lib.hid hsl
 have HST := Lib.hid hst
 obtain ⟨v, hv⟩ : ∃ v, v = Lx.read t := ⟨_, rfl⟩
 rw [← hv] at hr ⊢
 have HV := Lib.hid hv
 have HR := Lib.hid hr
 have d2 : (v.2 != 0) = false := by simp [hr]
 clear hsl hst hv ht hr
 have HLET := Lib.hid hl
 have HDIG := Lib.hid hdg
 clear hl hdg hT hd hh hm hn0 hml he hle hle'
 go_enter Tryz.func39, Tryz.ntmps39
 go_wp2_with fail
 refine (zaR _ _).mono ?_
 rintro e w' ⟨rfl, rfl⟩
 rw [HLET.out]
 go_wp2_with fail
 refine (digit_any _ _).mono ?_
 rintro e w' ⟨rfl, rfl⟩
 rw [HDIG.out]
 go_wp2_with fail
 refine (zdR s k _ (by omega) (by omega)).mono ?_
 rintro e w' ⟨rfl, rfl⟩
 rw [← HM.out]
 go_wp2_with fail
 refine (zaR _ _).mono ?_
 rintro e w' ⟨rfl, rfl⟩
 rw [HLE.out]
 go_wp2_with fail
 rw [HS.out]
 refine (zeo _ _ (by have := HST.out; omega)).mono ?_
 rintro e w1 ⟨rfl, hb1⟩
 rw [Lx.zbd, ← HV.out]
 have hB1 := zai (w := w) zw hb1; obtain ⟨hc1, hf1⟩ := za5 hb1
 have K0 := zat (heap_alloc_new w _) hb1
 have hs1 := HS.out
 have K1 := K0
 have K1' := K1
 obtain ⟨c, f⟩ := zad K1; have c0 := c 0 _ rfl; have c1 := c 1 _ rfl; have c2 := c 2 _ rfl; have c3 := c 3 _ rfl; have c4 := c 4 _ rfl; have c5 := c 5 _ rfl; have f0 := f 0; have f1 := f 1; have f2 := f 2; have f3 := f 3; have f4 := f 4; have f5 := f 5; clear c f
 clear K1
 clear hc1 hf1
 go_wp2
 refine zaE (B := w.heap.size) Tryz.results39 Tryz.underlying43 (by kernel_rfl) rfl (zbl K1' _ _ _ _ _ _) rfl ⟨?_, by exact zw⟩
 have hm := HM2.out; subst hm; rw [zdb rfl]; rfl
set_option maxHeartbeats 1000000 in
theorem zgm (s : ByteArray) (k : Nat) (w : World) (hs : s.size ≤ 1000000000) (hk : k < s.size) (hl : Lx.let_ s[k] = false) (hdg : Lx.dig s[k] = true) (n : Nat) (hn0 : n = Lx.many Lx.dig (Lx.suf s k)) (he : k + n = s.size) (hr : (Lx.read ((Lx.suf s k).take n)).2 = 0) :
  Calls Tryz.prog 39 #[.string s, .int .i64 k] w fun e w' => e = tokE (Lx.tok (Lx.suf s k)) k ∧ Below w.heap.size w w' := by
 have hT : Lx.tok (Lx.suf s k) = Lx.numT (Lx.suf s k) n := by
  rw [hn0, Lx.zam hk, Lx.tok]
  simp only [hl, hdg, Bool.false_eq_true, if_true, if_false]
 have hd : (Lx.suf s k).drop n = Lx.suf s (k + n) := by rw [Lx.zbm, Lx.zbm, List.drop_drop]
 have hh : (Lx.suf s (k + n)).head?.any Lx.let_ = false := by rw [Lx.zbG (by omega)]; rfl
 rw [hT, Lx.numT, hd, hh]
 rw [if_neg (by decide), if_pos hr]
 have hml := Lx.zbp Lx.dig (Lx.suf s k)
 rw [Lx.zao, ← hn0] at hml
 obtain ⟨m, hm⟩ : ∃ m, m = k + n := ⟨_, rfl⟩
 have HM : Hid (m = k + Lx.many Lx.dig (Lx.suf s k)) := by unfold Hid; rw [hm, hn0]
 have HM2 := Lib.hid hm
 have hm1 : k ≤ m := by omega
 have hm2 : m ≤ s.size := by omega
 have d1 : decide ((m : Int) < (s.size : Int)) = false := decide_eq_false (by omega)
 have d1n : decide (m < s.size) = false := decide_eq_false (by omega)
 have hsl : s.extract k m = Lx.bs ((Lx.suf s k).take n) := by rw [Lx.zaU, hm, Nat.add_sub_cancel_left]; rfl
 have hst : (Lx.bs ((Lx.suf s k).take n)).size ≤ 1000000000 := by rw [Lx.zaA, List.length_take, Lx.zao]; omega
 obtain ⟨t, ht⟩ : ∃ t, t = (Lx.suf s k).take n := ⟨_, rfl⟩
 rw [← ht] at hsl hst hr ⊢
 have HS := Lib.hid hsl
 have HST := Lib.hid hst
 obtain ⟨v, hv⟩ : ∃ v, v = Lx.read t := ⟨_, rfl⟩
 rw [← hv] at hr ⊢
 have HV := Lib.hid hv
 have HR := Lib.hid hr
 have d2 : (v.2 != 0) = false := by simp [hr]
 clear hsl hst hv ht hr
 have HLET := Lib.hid hl
 have HDIG := Lib.hid hdg
 clear hl hdg hT hd hh hm hn0 hml he
 go_enter Tryz.func39, Tryz.ntmps39
 go_wp2_with fail
 refine (zaR _ _).mono ?_
 rintro e w' ⟨rfl, rfl⟩
 rw [HLET.out]
 go_wp2_with fail
 refine (digit_any _ _).mono ?_
 rintro e w' ⟨rfl, rfl⟩
 rw [HDIG.out]
 go_wp2_with fail
 refine (zdR s k _ (by omega) (by omega)).mono ?_
 rintro e w' ⟨rfl, rfl⟩
 rw [← HM.out]
 go_wp2_with fail
 rw [HS.out]
 refine (zeo _ _ (by have := HST.out; omega)).mono ?_
 rintro e w1 ⟨rfl, hb1⟩
 rw [Lx.zbd, ← HV.out]
 have hB1 := zai (w := w) zw hb1; obtain ⟨hc1, hf1⟩ := za5 hb1
 have K0 := zat (heap_alloc_new w _) hb1
 have hs1 := HS.out
 have K1 := K0
 have K1' := K1
 obtain ⟨c, f⟩ := zad K1; have c0 := c 0 _ rfl; have c1 := c 1 _ rfl; have c2 := c 2 _ rfl; have c3 := c 3 _ rfl; have c4 := c 4 _ rfl; have c5 := c 5 _ rfl; have f0 := f 0; have f1 := f 1; have f2 := f 2; have f3 := f 3; have f4 := f 4; have f5 := f 5; clear c f
 clear K1
 clear hc1 hf1
 go_wp2
 refine zaE (B := w.heap.size) Tryz.results39 Tryz.underlying43 (by kernel_rfl) rfl (zbl K1' _ _ _ _ _ _) rfl ⟨?_, by exact zw⟩
 have hm := HM2.out; subst hm; rw [zdb rfl]; rfl
set_option maxHeartbeats 1000000 in
theorem ziV (s : ByteArray) (k : Nat) (w : World) (hs : s.size ≤ 1000000000) (hk : k < s.size) (hl : Lx.let_ s[k] = false) (hdg : Lx.dig s[k] = true) (n : Nat) (hn0 : n = Lx.many Lx.dig (Lx.suf s k)) (he : k + n < s.size) (hle : Lx.let_ s[k + n] = false) (hr : (Lx.read ((Lx.suf s k).take n)).2 ≠ 0) :
  Calls Tryz.prog 39 #[.string s, .int .i64 k] w fun e w' => e = tokE (Lx.tok (Lx.suf s k)) k ∧ Below w.heap.size w w' := by
 have hT : Lx.tok (Lx.suf s k) = Lx.numT (Lx.suf s k) n := by
  rw [hn0, Lx.zam hk, Lx.tok]
  simp only [hl, hdg, Bool.false_eq_true, if_true, if_false]
 have hd : (Lx.suf s k).drop n = Lx.suf s (k + n) := by rw [Lx.zbm, Lx.zbm, List.drop_drop]
 have hh : (Lx.suf s (k + n)).head?.any Lx.let_ = false := by rw [Lx.zam he]; exact hle
 rw [hT, Lx.numT, hd, hh]
 rw [if_neg (by decide), if_neg hr]
 have hml := Lx.zbp Lx.dig (Lx.suf s k)
 rw [Lx.zao, ← hn0] at hml
 obtain ⟨m, hm⟩ : ∃ m, m = k + n := ⟨_, rfl⟩
 have HM : Hid (m = k + Lx.many Lx.dig (Lx.suf s k)) := by unfold Hid; rw [hm, hn0]
 have HM2 := Lib.hid hm
 have hm1 : k ≤ m := by omega
 have hm2 : m ≤ s.size := by omega
 have hlt : m < s.size := by omega
 have hle' : Lx.let_ s[m] = false := by subst hm; exact hle
 have HLE := Lib.hid hle'
 have d1 : decide ((m : Int) < (s.size : Int)) = true := decide_eq_true (by omega)
 have hsl : s.extract k m = Lx.bs ((Lx.suf s k).take n) := by rw [Lx.zaU, hm, Nat.add_sub_cancel_left]; rfl
 have hst : (Lx.bs ((Lx.suf s k).take n)).size ≤ 1000000000 := by rw [Lx.zaA, List.length_take, Lx.zao]; omega
 obtain ⟨t, ht⟩ : ∃ t, t = (Lx.suf s k).take n := ⟨_, rfl⟩
 rw [← ht] at hsl hst hr ⊢
 have HS := Lib.hid hsl
 have HST := Lib.hid hst
 obtain ⟨v, hv⟩ : ∃ v, v = Lx.read t := ⟨_, rfl⟩
 rw [← hv] at hr ⊢
 have HV := Lib.hid hv
 have HR := Lib.hid hr
 have d2 : (v.2 != 0) = true := by simp [hr]
 clear hsl hst hv ht hr
 have HLET := Lib.hid hl
 have HDIG := Lib.hid hdg
 clear hl hdg hT hd hh hm hn0 hml he hle hle'
 go_enter Tryz.func39, Tryz.ntmps39
 go_wp2_with fail
 refine (zaR _ _).mono ?_
 rintro e w' ⟨rfl, rfl⟩
 rw [HLET.out]
 go_wp2_with fail
 refine (digit_any _ _).mono ?_
 rintro e w' ⟨rfl, rfl⟩
 rw [HDIG.out]
 go_wp2_with fail
 refine (zdR s k _ (by omega) (by omega)).mono ?_
 rintro e w' ⟨rfl, rfl⟩
 rw [← HM.out]
 go_wp2_with fail
 refine (zaR _ _).mono ?_
 rintro e w' ⟨rfl, rfl⟩
 rw [HLE.out]
 go_wp2_with fail
 rw [HS.out]
 refine (zeo _ _ (by have := HST.out; omega)).mono ?_
 rintro e w1 ⟨rfl, hb1⟩
 rw [Lx.zbd, ← HV.out]
 have hB1 := zai (w := w) zw hb1; obtain ⟨hc1, hf1⟩ := za5 hb1
 have K0 := zat (heap_alloc_new w _) hb1
 have K1 := K0
 have K1' := K1
 obtain ⟨c, f⟩ := zad K1; have c0 := c 0 _ rfl; have c1 := c 1 _ rfl; have c2 := c 2 _ rfl; have c3 := c 3 _ rfl; have c4 := c 4 _ rfl; have c5 := c 5 _ rfl; have f0 := f 0; have f1 := f 1; have f2 := f 2; have f3 := f 3; have f4 := f 4; have f5 := f 5; clear c f
 clear K1
 clear hc1 hf1
 go_wp2
 refine zaE (B := w.heap.size) Tryz.results39 Tryz.underlying43 (by kernel_rfl) rfl (zbl K1' _ _ _ _ _ _) rfl ⟨?_, by exact zw⟩
 rw [zbR HR.out]; rfl
set_option maxHeartbeats 1000000 in
theorem zfG (s : ByteArray) (k : Nat) (w : World) (hs : s.size ≤ 1000000000) (hk : k < s.size) (hl : Lx.let_ s[k] = false) (hdg : Lx.dig s[k] = true) (n : Nat) (hn0 : n = Lx.many Lx.dig (Lx.suf s k)) (he : k + n = s.size) (hr : (Lx.read ((Lx.suf s k).take n)).2 ≠ 0) :
  Calls Tryz.prog 39 #[.string s, .int .i64 k] w fun e w' => e = tokE (Lx.tok (Lx.suf s k)) k ∧ Below w.heap.size w w' := by
 have hT : Lx.tok (Lx.suf s k) = Lx.numT (Lx.suf s k) n := by
  rw [hn0, Lx.zam hk, Lx.tok]
  simp only [hl, hdg, Bool.false_eq_true, if_true, if_false]
 have hd : (Lx.suf s k).drop n = Lx.suf s (k + n) := by rw [Lx.zbm, Lx.zbm, List.drop_drop]
 have hh : (Lx.suf s (k + n)).head?.any Lx.let_ = false := by rw [Lx.zbG (by omega)]; rfl
 rw [hT, Lx.numT, hd, hh]
 rw [if_neg (by decide), if_neg hr]
 have hml := Lx.zbp Lx.dig (Lx.suf s k)
 rw [Lx.zao, ← hn0] at hml
 obtain ⟨m, hm⟩ : ∃ m, m = k + n := ⟨_, rfl⟩
 have HM : Hid (m = k + Lx.many Lx.dig (Lx.suf s k)) := by unfold Hid; rw [hm, hn0]
 have HM2 := Lib.hid hm
 have hm1 : k ≤ m := by omega
 have hm2 : m ≤ s.size := by omega
 have d1 : decide ((m : Int) < (s.size : Int)) = false := decide_eq_false (by omega)
 have d1n : decide (m < s.size) = false := decide_eq_false (by omega)
 have hsl : s.extract k m = Lx.bs ((Lx.suf s k).take n) := by rw [Lx.zaU, hm, Nat.add_sub_cancel_left]; rfl
 have hst : (Lx.bs ((Lx.suf s k).take n)).size ≤ 1000000000 := by rw [Lx.zaA, List.length_take, Lx.zao]; omega
 obtain ⟨t, ht⟩ : ∃ t, t = (Lx.suf s k).take n := ⟨_, rfl⟩
 rw [← ht] at hsl hst hr ⊢
 have HS := Lib.hid hsl
 have HST := Lib.hid hst
 obtain ⟨v, hv⟩ : ∃ v, v = Lx.read t := ⟨_, rfl⟩
 rw [← hv] at hr ⊢
 have HV := Lib.hid hv
 have HR := Lib.hid hr
 have d2 : (v.2 != 0) = true := by simp [hr]
 clear hsl hst hv ht hr
 have HLET := Lib.hid hl
 have HDIG := Lib.hid hdg
 clear hl hdg hT hd hh hm hn0 hml he
 go_enter Tryz.func39, Tryz.ntmps39
 go_wp2_with fail
 refine (zaR _ _).mono ?_
 rintro e w' ⟨rfl, rfl⟩
 rw [HLET.out]
 go_wp2_with fail
 refine (digit_any _ _).mono ?_
 rintro e w' ⟨rfl, rfl⟩
 rw [HDIG.out]
 go_wp2_with fail
 refine (zdR s k _ (by omega) (by omega)).mono ?_
 rintro e w' ⟨rfl, rfl⟩
 rw [← HM.out]
 go_wp2_with fail
 rw [HS.out]
 refine (zeo _ _ (by have := HST.out; omega)).mono ?_
 rintro e w1 ⟨rfl, hb1⟩
 rw [Lx.zbd, ← HV.out]
 have hB1 := zai (w := w) zw hb1; obtain ⟨hc1, hf1⟩ := za5 hb1
 have K0 := zat (heap_alloc_new w _) hb1
 have K1 := K0
 have K1' := K1
 obtain ⟨c, f⟩ := zad K1; have c0 := c 0 _ rfl; have c1 := c 1 _ rfl; have c2 := c 2 _ rfl; have c3 := c 3 _ rfl; have c4 := c 4 _ rfl; have c5 := c 5 _ rfl; have f0 := f 0; have f1 := f 1; have f2 := f 2; have f3 := f 3; have f4 := f 4; have f5 := f 5; clear c f
 clear K1
 clear hc1 hf1
 go_wp2
 refine zaE (B := w.heap.size) Tryz.results39 Tryz.underlying43 (by kernel_rfl) rfl (zbl K1' _ _ _ _ _ _) rfl ⟨?_, by exact zw⟩
 rw [zbR HR.out]; rfl
set_option maxHeartbeats 1000000 in
theorem zhW (s : ByteArray) (k : Nat) (w : World) (hs : s.size ≤ 1000000000) (hk : k < s.size) (hc : s[k].toNat = 39) (hq : Lx.qEnd (Lx.suf s (k + 1)) = none) :
  Calls Tryz.prog 39 #[.string s, .int .i64 k] w fun e w' => e = tokE (Lx.tok (Lx.suf s k)) k ∧ Below w.heap.size w w' := by
 have e39 : s[k] = 39 := Lx.u8_of (n := 39) (by omega) hc
 have hl : Lx.let_ s[k] = false := by rw [e39]; rfl
 have hdg : Lx.dig s[k] = false := by rw [e39]; rfl
 have hT : Lx.tok (Lx.suf s k) = Lx.bad 8 := by
  rw [Lx.zam hk, Lx.tok]
  simp only [hl, hdg, Bool.false_eq_true, if_false]
  rw [if_pos (by rw [e39]; rfl), hq]
  rfl
 rw [hT]
 have d1 : ((s[k].toNat : Int) == 39) = true := by rw [hc]; rfl
 have HLET := Lib.hid hl
 have HDIG := Lib.hid hdg
 have hsh : Lx.shift (Lx.qEnd (Lx.suf s (k + 1))) (k + 1) = none := by rw [hq]; rfl
 have HQ := Lib.hid hsh
 clear hl hdg hT e39 hc hq hsh
 go_enter Tryz.func39, Tryz.ntmps39
 go_wp2_with fail
 refine (zaR _ _).mono ?_
 rintro e w' ⟨rfl, rfl⟩
 rw [HLET.out]
 go_wp2_with fail
 refine (digit_any _ _).mono ?_
 rintro e w' ⟨rfl, rfl⟩
 rw [HDIG.out]
 go_wp2_with fail
 refine (zfT s k _ hs hk).mono ?_
 rintro e w' ⟨rfl, rfl⟩
 rw [HQ.out]
 unfold endE
 go_wp2
 refine zaE (B := w.heap.size) Tryz.results39 Tryz.underlying43 (by kernel_rfl) rfl (heap_alloc_new w _) rfl ⟨?_, by exact zw⟩
 rw [zbR (by decide)]; rfl
set_option maxHeartbeats 1000000 in
theorem zj0 (s : ByteArray) (k : Nat) (w : World) (hs : s.size ≤ 1000000000) (hk : k < s.size) (hc : s[k].toNat = 39) (n : Nat) (hq : (Lx.qEnd (Lx.suf s (k + 1))).map (· + 1) = some n) (hn : k + n ≤ s.size) (he : (Lx.valT (Lx.suf s k) n).1 = 0) :
  Calls Tryz.prog 39 #[.string s, .int .i64 k] w fun e w' => e = tokE (Lx.tok (Lx.suf s k)) k ∧ Below w.heap.size w w' := by
 have e39 : s[k] = 39 := Lx.u8_of (n := 39) (by omega) hc
 have hl : Lx.let_ s[k] = false := by rw [e39]; rfl
 have hdg : Lx.dig s[k] = false := by rw [e39]; rfl
 have hT : Lx.tok (Lx.suf s k) = Lx.valT (Lx.suf s k) n := by
  rw [Lx.zam hk, Lx.tok]
  simp only [hl, hdg, Bool.false_eq_true, if_false]
  rw [if_pos (by rw [e39]; rfl), hq]
  rfl
 rw [hT]
 obtain ⟨r, hr⟩ : ∃ r, r = Lx.valT (Lx.suf s k) n := ⟨_, rfl⟩
 rw [← hr]
 have HR := Lib.hid hr
 rw [← hr] at he
 have HE := Lib.hid he
 clear hr he
 have d1 : ((s[k].toNat : Int) == 39) = true := by rw [hc]; rfl
 have HLET := Lib.hid hl
 have HDIG := Lib.hid hdg
 have hsh : Lx.shift (Lx.qEnd (Lx.suf s (k + 1))) (k + 1) = some (k + n) := by
  cases h : Lx.qEnd (Lx.suf s (k + 1)) with
  | none => rw [h] at hq; cases hq
  | some q => rw [h] at hq; simp at hq; simp [Lx.shift]; omega
 have HQ := Lib.hid hsh
 clear hl hdg hT e39 hc hq hsh
 go_enter Tryz.func39, Tryz.ntmps39
 go_wp2_with fail
 refine (zaR _ _).mono ?_
 rintro e w' ⟨rfl, rfl⟩
 rw [HLET.out]
 go_wp2_with fail
 refine (digit_any _ _).mono ?_
 rintro e w' ⟨rfl, rfl⟩
 rw [HDIG.out]
 go_wp2_with fail
 refine (zfT s k _ hs hk).mono ?_
 rintro e w' ⟨rfl, rfl⟩
 rw [HQ.out]
 unfold endE
 go_wp2_with fail
 refine (zfh s k n _ _ hs (by omega) (by omega)).mono ?_
 rintro e w1 ⟨he, hb1⟩
 rw [← HR.out, zdb HE.out] at he
 subst he
 have hB1 := zai (w := w) zw hb1; obtain ⟨hc1, hf1⟩ := za5 hb1
 have K0 := zat (heap_alloc_new w _) hb1
 have K1 := K0
 have K1' := K1
 obtain ⟨c, f⟩ := zad K1; have c0 := c 0 _ rfl; have c1 := c 1 _ rfl; have c2 := c 2 _ rfl; have c3 := c 3 _ rfl; have c4 := c 4 _ rfl; have c5 := c 5 _ rfl; have f0 := f 0; have f1 := f 1; have f2 := f 2; have f3 := f 3; have f4 := f 4; have f5 := f 5; clear c f
 clear K1
 clear hc1 hf1
 go_wp2
 refine zaE (B := w.heap.size) Tryz.results39 Tryz.underlying43 (by kernel_rfl) rfl (zbl K1' _ _ _ _ _ _) rfl ⟨?_, by exact zw⟩
 rw [zdb HE.out]; rfl
set_option maxHeartbeats 1000000 in
theorem ziU (s : ByteArray) (k : Nat) (w : World) (hs : s.size ≤ 1000000000) (hk : k < s.size) (hc : s[k].toNat = 39) (n : Nat) (hq : (Lx.qEnd (Lx.suf s (k + 1))).map (· + 1) = some n) (hn : k + n ≤ s.size) (he : (Lx.valT (Lx.suf s k) n).1 ≠ 0) :
  Calls Tryz.prog 39 #[.string s, .int .i64 k] w fun e w' => e = tokE (Lx.tok (Lx.suf s k)) k ∧ Below w.heap.size w w' := by
 have e39 : s[k] = 39 := Lx.u8_of (n := 39) (by omega) hc
 have hl : Lx.let_ s[k] = false := by rw [e39]; rfl
 have hdg : Lx.dig s[k] = false := by rw [e39]; rfl
 have hT : Lx.tok (Lx.suf s k) = Lx.valT (Lx.suf s k) n := by
  rw [Lx.zam hk, Lx.tok]
  simp only [hl, hdg, Bool.false_eq_true, if_false]
  rw [if_pos (by rw [e39]; rfl), hq]
  rfl
 rw [hT]
 obtain ⟨r, hr⟩ : ∃ r, r = Lx.valT (Lx.suf s k) n := ⟨_, rfl⟩
 rw [← hr]
 have HR := Lib.hid hr
 rw [← hr] at he
 have HE := Lib.hid he
 clear hr he
 have d1 : ((s[k].toNat : Int) == 39) = true := by rw [hc]; rfl
 have HLET := Lib.hid hl
 have HDIG := Lib.hid hdg
 have hsh : Lx.shift (Lx.qEnd (Lx.suf s (k + 1))) (k + 1) = some (k + n) := by
  cases h : Lx.qEnd (Lx.suf s (k + 1)) with
  | none => rw [h] at hq; cases hq
  | some q => rw [h] at hq; simp at hq; simp [Lx.shift]; omega
 have HQ := Lib.hid hsh
 clear hl hdg hT e39 hc hq hsh
 go_enter Tryz.func39, Tryz.ntmps39
 go_wp2_with fail
 refine (zaR _ _).mono ?_
 rintro e w' ⟨rfl, rfl⟩
 rw [HLET.out]
 go_wp2_with fail
 refine (digit_any _ _).mono ?_
 rintro e w' ⟨rfl, rfl⟩
 rw [HDIG.out]
 go_wp2_with fail
 refine (zfT s k _ hs hk).mono ?_
 rintro e w' ⟨rfl, rfl⟩
 rw [HQ.out]
 unfold endE
 go_wp2_with fail
 refine (zfh s k n _ _ hs (by omega) (by omega)).mono ?_
 rintro e w1 ⟨he, hb1⟩
 rw [← HR.out, zbR HE.out] at he
 subst he
 have hB1 := zai (w := w) zw hb1; obtain ⟨hc1, hf1⟩ := za5 hb1
 have K0 := zat (heap_alloc_new w _) hb1
 have K1 := K0
 have K1' := K1
 obtain ⟨c, f⟩ := zad K1; have c0 := c 0 _ rfl; have c1 := c 1 _ rfl; have c2 := c 2 _ rfl; have c3 := c 3 _ rfl; have c4 := c 4 _ rfl; have c5 := c 5 _ rfl; have f0 := f 0; have f1 := f 1; have f2 := f 2; have f3 := f 3; have f4 := f 4; have f5 := f 5; clear c f
 clear K1
 clear hc1 hf1
 go_wp2
 refine zaE (B := w.heap.size) Tryz.results39 Tryz.underlying43 (by kernel_rfl) rfl (zbl K1' _ _ _ _ _ _) rfl ⟨?_, by exact zw⟩
 rw [zbR HE.out]; rfl
set_option maxHeartbeats 1000000 in
theorem zha (s : ByteArray) (k : Nat) (w : World) (hs : s.size ≤ 1000000000) (hk : k < s.size) (hl : Lx.let_ s[k] = false) (hdg : Lx.dig s[k] = false) (hc : s[k].toNat ≠ 39) (n : Nat) (hn0 : n = Lx.za9 (Lx.suf s k)) (hz : n = 0) (hn : k + n ≤ s.size) :
  Calls Tryz.prog 39 #[.string s, .int .i64 k] w fun e w' => e = tokE (Lx.tok (Lx.suf s k)) k ∧ Below w.heap.size w w' := by
 have hT : Lx.tok (Lx.suf s k) = Lx.zhE (Lx.suf s k) := by
  have hq : (s[k] == 39) = false := by simp [Lx.zcG, hc]
  rw [Lx.zam hk, Lx.tok]
  simp only [hl, hdg, hq, Bool.false_eq_true, if_false]
 rw [hT, Lx.zhE, ← hn0]
 have d1 : ((s[k].toNat : Int) == 39) = false := by simp; omega
 have HLET := Lib.hid hl
 have HDIG := Lib.hid hdg
 have HN := Lib.hid hn0
 rw [if_pos hz]
 subst hz
 clear hl hdg hT hc hn0
 go_enter Tryz.func39, Tryz.ntmps39
 go_wp2_with fail
 refine (zaR _ _).mono ?_
 rintro e w' ⟨rfl, rfl⟩
 rw [HLET.out]
 go_wp2_with fail
 refine (digit_any _ _).mono ?_
 rintro e w' ⟨rfl, rfl⟩
 rw [HDIG.out]
 go_wp2_with fail
 refine (zl1 s k _ hs hk).mono ?_
 rintro e w' ⟨rfl, rfl⟩
 rw [← HN.out]
 unfold zk4
 go_wp2
 refine zaE (B := w.heap.size) Tryz.results39 Tryz.underlying43 (by kernel_rfl) rfl (heap_alloc_new w _) rfl ⟨?_, by exact zw⟩
 rw [zbR (by decide)]; rfl
set_option maxHeartbeats 1000000 in
theorem zg9 (s : ByteArray) (k : Nat) (w : World) (hs : s.size ≤ 1000000000) (hk : k < s.size) (hl : Lx.let_ s[k] = false) (hdg : Lx.dig s[k] = false) (hc : s[k].toNat ≠ 39) (n : Nat) (hn0 : n = Lx.za9 (Lx.suf s k)) (hz : n ≠ 0) (hn : k + n ≤ s.size) :
  Calls Tryz.prog 39 #[.string s, .int .i64 k] w fun e w' => e = tokE (Lx.tok (Lx.suf s k)) k ∧ Below w.heap.size w w' := by
 have hT : Lx.tok (Lx.suf s k) = Lx.zhE (Lx.suf s k) := by
  have hq : (s[k] == 39) = false := by simp [Lx.zcG, hc]
  rw [Lx.zam hk, Lx.tok]
  simp only [hl, hdg, hq, Bool.false_eq_true, if_false]
 rw [hT, Lx.zhE, ← hn0]
 have d1 : ((s[k].toNat : Int) == 39) = false := by simp; omega
 have HLET := Lib.hid hl
 have HDIG := Lib.hid hdg
 have HN := Lib.hid hn0
 rw [if_neg hz]
 obtain ⟨m, hm⟩ : ∃ m, m = k + n := ⟨_, rfl⟩
 have HM2 := Lib.hid hm
 have hm1 : k ≤ m := by omega
 have hm2 : m ≤ s.size := by omega
 have hsl : s.extract k m = Lx.bs ((Lx.suf s k).take n) := by rw [Lx.zaU, hm, Nat.add_sub_cancel_left]; rfl
 have hE : zk4 k n = .returned (.tuple #[.int .i64 (m : Int), .bool true]) := by rw [hm]; simp [zk4, hz]
 have HE := Lib.hid hE
 clear hl hdg hT hc hn0 hz hE hm
 go_enter Tryz.func39, Tryz.ntmps39
 go_wp2_with fail
 refine (zaR _ _).mono ?_
 rintro e w' ⟨rfl, rfl⟩
 rw [HLET.out]
 go_wp2_with fail
 refine (digit_any _ _).mono ?_
 rintro e w' ⟨rfl, rfl⟩
 rw [HDIG.out]
 go_wp2_with fail
 refine (zl1 s k _ hs hk).mono ?_
 rintro e w' ⟨rfl, rfl⟩
 rw [← HN.out]
 rw [HE.out]
 go_wp2
 refine zaE (B := w.heap.size) Tryz.results39 Tryz.underlying43 (by kernel_rfl) rfl (heap_alloc_new w _) rfl ⟨?_, by exact zw⟩
 rw [zdb rfl, HM2.out]; rfl
theorem zj2 (s : ByteArray) (k : Nat) (w : World) (hs : s.size ≤ 1000000000) (hk : k < s.size) :
  Calls Tryz.prog 39 #[.string s, .int .i64 k] w fun e w' => e = tokE (Lx.tok (Lx.suf s k)) k ∧ Below w.heap.size w w' := by
 by_cases hl : Lx.let_ s[k] = true
 ·by_cases hb : Lx.zbO (Lx.suf s k) = true
  ·by_cases hm : s.size ≤ k + 2 + Lx.many Lx.noq (Lx.suf s (k + 2))
   ·exact zhb s k w hs hk hl hb hm
   ·by_cases he : (Lx.valT (Lx.suf s k) (2 + Lx.many Lx.noq (Lx.suf s (k + 2)) + 1)).1 = 0
    ·exact ziW s k w hs hk hl hb _ rfl (by omega) he
    ·exact zhX s k w hs hk hl hb _ rfl (by omega) he
  ·have hb : Lx.zbO (Lx.suf s k) = false := by simpa using hb
   by_cases hw : Lx.isW ((Lx.suf s k).take (Lx.many Lx.nam (Lx.suf s k))) = true
   ·exact zg7 s k w hs hk hl hb hw
   ·have hw : Lx.isW ((Lx.suf s k).take (Lx.many Lx.nam (Lx.suf s k))) = false := by simpa using hw
    by_cases hn : 32 < Lx.many Lx.nam (Lx.suf s k)
    ·exact zg8 s k w hs hk hl hb hw hn
    ·exact zgo s k w hs hk hl hb hw hn
 ·have hl : Lx.let_ s[k] = false := by simpa using hl
  by_cases hdg : Lx.dig s[k] = true
  ·have hml := Lx.zbp Lx.dig (Lx.suf s k)
   rw [Lx.zao] at hml
   by_cases he : k + Lx.many Lx.dig (Lx.suf s k) < s.size
   ·by_cases hle : Lx.let_ s[k + Lx.many Lx.dig (Lx.suf s k)] = true
    ·exact zgn s k w hs hk hl hdg _ rfl he hle
    ·have hle : Lx.let_ s[k + Lx.many Lx.dig (Lx.suf s k)] = false := by simpa using hle
     by_cases hr : (Lx.read ((Lx.suf s k).take (Lx.many Lx.dig (Lx.suf s k)))).2 = 0
     ·exact zj1 s k w hs hk hl hdg _ rfl he hle hr
     ·exact ziV s k w hs hk hl hdg _ rfl he hle hr
   ·by_cases hr : (Lx.read ((Lx.suf s k).take (Lx.many Lx.dig (Lx.suf s k)))).2 = 0
    ·exact zgm s k w hs hk hl hdg _ rfl (by omega) hr
    ·exact zfG s k w hs hk hl hdg _ rfl (by omega) hr
  ·have hdg : Lx.dig s[k] = false := by simpa using hdg
   by_cases hc : s[k].toNat = 39
   ·cases hq : Lx.qEnd (Lx.suf s (k + 1)) with
    | none => exact zhW s k w hs hk hc hq
    | some q =>
     have hql := Lx.zlk _ q hq
     rw [Lx.zao] at hql
     by_cases he : (Lx.valT (Lx.suf s k) (q + 1)).1 = 0
     ·exact zj0 s k w hs hk hc (q + 1) (by rw [hq]; rfl) (by omega) he
     ·exact ziU s k w hs hk hc (q + 1) (by rw [hq]; rfl) (by omega) he
   ·have hml := Lx.zmt (Lx.suf s k)
    rw [Lx.zao] at hml
    by_cases hz : Lx.za9 (Lx.suf s k) = 0
    ·exact zha s k w hs hk hl hdg hc _ rfl hz (by omega)
    ·exact zg9 s k w hs hk hl hdg hc _ rfl hz (by omega)
end Go.Proofs.YtakegkongmnekaaGreatDoor
namespace Go.Proofs.YtakegkongmnekaaGreatDoor
open Go.RowKit
theorem ziL (s : ByteArray) (k0 : Nat) (w : World) (hs : s.size ≤ 1000000000) (hk : k0 ≤ s.size) :
    Calls Tryz.prog 38 #[.string s, .int .i64 k0] w fun e w' => e = .returned (.int .i64 ((k0 + Lx.skipN false (Lx.suf s k0) : Nat) : Int)) ∧ w = w' := by
  generalize hR : k0 + Lx.skipN false (Lx.suf s k0) = R
  have HR := Lib.hid hR
  clear hR
  go_enter Tryz.func38, Tryz.ntmps38
  go_wp2
  go_step3
  go_wp2
  go_step3
  go_wp2
  go_loop [1] (fun i => ∃ k : Nat, k ≤ s.size ∧ i = .int .i64 k ∧ Hid (k + Lx.skipN false (Lx.suf s k) = R)) (fun i => s.size - (intOf i).toNat)
  case atStart => exact ⟨k0, hk, rfl, HR⟩
  case round =>
    obtain ⟨k, hk, rfl, HK⟩ := hrel
    by_cases hlt : k < s.size
    · go_wp2
      all_goals (try simp only [bne_iff_ne, bne_eq_false_iff_eq, beq_iff_eq, beq_eq_false_iff_ne, ne_eq, Bool.not_eq_true', Bool.not_eq_false', Bool.not_eq_true, Bool.not_eq_false] at *)
      all_goals first
        | (go_round
           case rel => exact ⟨k + 1, by omega, by go_num, Lib.hid (by rw [← HK.out, Lx.zig hlt (by omega)])⟩
           case measure => simp [intOf]; omega)
        | (skip
           go_ret
           exact ⟨zhv (by rw [← HK.out, Lx.zhe hlt (by omega) (by omega) (by omega) (by omega) (by intro h1 h2; omega)]), rfl⟩)
        | skip
      rotate_left
      · go_wp2
        rw [Exit.noGoto_ret]
        go_ret
        exact ⟨zhv (by rw [← HK.out, Lx.zhe hlt (by omega) (by omega) (by omega) (by omega) (by intro h1 h2; omega)]), rfl⟩
      have HK1 : Hid (k + Lx.skipN true (Lx.suf s k) = R) := Lib.hid (by rw [← HK.out, Lx.zlZ (by omega) (by omega) (by omega)])
      go_loop [1] (fun i => ∃ j : Nat, k ≤ j ∧ j ≤ s.size ∧ i = .int .i64 j ∧ Hid (j + Lx.skipN true (Lx.suf s j) = R)) (fun i => s.size - (intOf i).toNat)
      case atStart => exact ⟨k, by omega, by omega, rfl, HK1⟩
      case round =>
        obtain ⟨j, hkj, hj, rfl, HJ⟩ := hrel
        by_cases hltj : j < s.size
        · go_wp2
          all_goals (try simp only [bne_iff_ne, bne_eq_false_iff_eq, beq_iff_eq, beq_eq_false_iff_ne, ne_eq, Bool.not_eq_true', Bool.not_eq_false', Bool.not_eq_true, Bool.not_eq_false] at *)
          · go_round
            case rel => exact ⟨j + 1, by omega, by omega, by go_num, Lib.hid (by rw [← HJ.out, Lx.zn7 hltj (by omega)])⟩
            case measure => simp [intOf]; omega
          · have hne : k ≠ j := by
              intro e
              subst e
              omega
            go_round
            case rel => exact ⟨j, by omega, rfl, Lib.hid (by rw [← HJ.out, Lx.zlY hltj (by omega)])⟩
            case measure => simp [intOf]; omega
        · go_wp2
          go_round
          case rel => exact ⟨j, by omega, rfl, Lib.hid (by rw [← HJ.out, Lx.zej (by omega), Lx.zej (by omega)])⟩
          case measure => simp [intOf]; omega
    · go_wp2
      go_ret
      exact ⟨zhv (by rw [← HK.out, Lx.zej (by omega)]), rfl⟩
end Go.Proofs.YtakegkongmnekaaGreatDoor
namespace Go.Proofs.YtakegkongmnekaaGreatDoor
open Go.RowKit
attribute [local simp] Lx.zaA
theorem wpList_app2 {P : Program} {ops : Array Oper} {rest : List Oper} {o : Oper} {a : Act} {Q : Exit → Act → World → Prop} (hgd : o.guard = none) (s x : Operand) (t e : TypeId)
  (ho : o.op = .call { callee := .builtin .append, args := #[s, x], argTypes := #[t, t] })
  (ht : P.underlying t = some (.slice e)) {z : Value} {size bytes : Nat} (hinfo : (P.info? e).map (fun i => (i.zero, i.size, i.bytes)) = some (some z, size, bytes))
  (hzs : z.cells.size = size) (hsz : 0 < size) (W : World) (C : Array Value) (hC : C.size = size) (h1 : ∀ u ∈ C.toList, u.oneCell' = true)
  (base : Nat) (v : Value) (n : Nat) (xs : List Value) (hs : a.eval s = v) (hown : W.ownsRow base e size v n xs) (g : Nat) (hx : a.eval x = .slice (some ⟨g, 0, none⟩) 1 1) (hg : g = W.heap.size)
  (hn : n + 1 ≤ maxLen) (hbytes : (n + 1) * bytes ≤ 140737488355328) (hbase : base ≤ W.heap.size) (B : Nat) (hB : B ≤ base)
  (h : ∀ v' w', w'.ownsRow base e size v' (n + 1) (xs ++ C.toList) → Below B W w' → wpList P ops Q rest (a.put o.dst v') w') :
  wpList P ops Q (o :: rest) a (W.alloc (.cells C e)) :=
 wpList_app1 hgd s x t e ho ht hinfo hzs hsz W C hC h1 base v n xs hs hown (by rw [hx, hg]) hn hbytes hbase B hB h
def zey (t : Lx.TA) : List Value := [.int .i64 t.1.kind, .string (Lx.bs t.1.text), .int .i64 t.1.val.1, .int .i64 t.1.val.2.1, .string (Lx.bs t.1.val.2.2), .int .i64 (t.2 : Int)]
theorem zeh : (Tryz.prog.info? 43).map (fun i => (i.zero, i.size, i.bytes)) = some (some (.agg #[.int .i64 0, .string ⟨#[]⟩, .int .i64 0, .int .i64 0, .string ⟨#[]⟩, .int .i64 0]), 6, 64) := by kernel_rfl
def scanE (w : World) (R : Lx.SR) (e : Ending) (w' : World) : Prop :=
 ∃ v, e = .returned (.tuple #[v, .int .i64 (R.2.1 : Int), .int .i64 R.2.2]) ∧ w'.ownsRow w.heap.size 43 6 v R.1.length (R.1.flatMap zey) ∧ Below w.heap.size w w'
theorem zdn {w w' : World} {a : Nat} {x : Int} (hb : Below w.heap.size w w') : scanE w ([], a, x) (.returned (.tuple #[.slice none 0 0, .int .i64 (a : Int), .int .i64 x])) w' :=
 ⟨_, rfl, World.ownsRow_nil _ _ _ _, hb⟩
set_option maxHeartbeats 2000000 in
theorem scan_any (s : ByteArray) (w : World) (hs : s.size ≤ 1000000000) :
  Calls Tryz.prog 17 #[.string s] w fun e w' => scanE w (Lx.scan (Lx.ls s)) e w' := by
 by_cases hlong : 65536 < s.size
 ·have hR : Lx.scan (Lx.ls s) = ([], 0, 3) := by rw [Lx.scan, Lx.zay, if_pos hlong]
  rw [hR]
  have d1 : decide (65536 < (s.size : Int)) = true := decide_eq_true (by omega)
  go_enter Tryz.func17, Tryz.ntmps17
  go_wp2
  go_step3
  go_wp2
  try rw [Exit.noGoto_ret]
  go_ret3
  exact zdn (Below.refl _ _)
 ·have hR : Lx.scan (Lx.ls s) = Lx.zdE (Lx.ls s) (s.size + 1) [] (Lx.skipN false (Lx.ls s)) := by rw [Lx.scan, Lx.zay, if_neg hlong]
  rw [hR]
  generalize hR2 : Lx.zdE (Lx.ls s) (s.size + 1) [] (Lx.skipN false (Lx.ls s)) = R
  have HR := Lib.hid hR2
  have d1 : decide (65536 < (s.size : Int)) = false := decide_eq_false (by omega)
  clear hR hR2
  have hsk := Lx.zek false (Lx.ls s)
  rw [Lx.zay] at hsk
  obtain ⟨k0, hk0⟩ : ∃ k0, k0 = Lx.skipN false (Lx.ls s) := ⟨_, rfl⟩
  rw [← hk0] at HR hsk
  have HK0 := Lib.hid hk0
  clear hk0
  go_enter Tryz.func17, Tryz.ntmps17
  go_wp2
  go_step3
  go_wp2_with fail
  refine (ziL s 0 _ hs (by omega)).mono ?_
  rintro e w' ⟨rfl, rfl⟩
  rw [Lx.zcJ, ← HK0.out, Nat.zero_add]
  go_wp2
  go_step3
  go_wp2
  go_loopw [5, 6] (fun v i wr => ∃ (acc : List Lx.TA) (k f : Nat), i = .int .i64 k ∧ k ≤ s.size ∧ s.size - k < f ∧ acc.length ≤ k ∧ wr.ownsRow w.heap.size 43 6 v acc.length (acc.flatMap zey) ∧ Below w.heap.size w wr ∧ Hid (Lx.zdE (Lx.ls s) f acc k = R)) (fun _ i _ => s.size - (intOf i).toNat)
  case atStart => exact ⟨[], k0, s.size + 1, rfl, hsk, by omega, by simp, World.ownsRow_nil _ _ _ _, Below.refl _ _, HR⟩
  case round =>
   obtain ⟨acc, k, f, rfl, hk, hf, hal, hown, hb, HK⟩ := hrel
   obtain ⟨f, rfl⟩ : ∃ f', f = f' + 1 := ⟨f - 1, by omega⟩
   obtain ⟨va, vc, hv⟩ := zmi hown
   subst hv
   by_cases hend : k = s.size
   ·subst hend
    have d2 : ((s.size : Int) == (s.size : Int)) = true := by simp
    have hfin := Lx.zj9 (l := Lx.ls s) (f := f) (acc := acc) (a := s.size) (Lx.zay s).symm
    rw [HK.out] at hfin
    have HFIN := Lib.hid hfin
    clear hfin
    go_wp2_with (at_builtin; refine wpList_app1 rfl (.tmp 41) (.tmp 45) 39 43 rfl Tryz.underlying39 zeh rfl (by decide) _ _ rfl (by intro u hu; simp at hu; rcases hu with rfl | rfl | rfl | rfl | rfl | rfl <;> rfl) w.heap.size _ _ _ rfl hown rfl (by simp only [maxLen]; omega) (by omega) hb.size w.heap.size (Nat.le_refl _) ?_; intro v1 w1 hown1 hb1)
    try rw [Exit.noGoto_ret]
    go_ret3
    refine ⟨_, by rw [HFIN.out]; rfl, ?_, hb.trans hb1⟩
    rw [HFIN.out]
    simpa [zey, Lx.zay, Lx.bs_nil] using hown1
   ·have d2 : ((k : Int) == (s.size : Int)) = false := by simp; omega
    have hlt : k < s.size := by omega
    have hne : k ≠ (Lx.ls s).length := by rw [Lx.zay]; exact hend
    by_cases hfull : acc.length = 4096
    ·have d3 : ((acc.length : Int) == 4096) = true := by rw [hfull]; rfl
     have hfin := Lx.zim (f := f) hne hfull
     rw [HK.out] at hfin
     have HFIN := Lib.hid hfin
     clear hfin hfull hne hend
     go_wp2
     try rw [Exit.noGoto_ret]
     go_ret3
     rw [HFIN.out]
     exact zdn hb
    ·have d3 : ((acc.length : Int) == 4096) = false := by simp; omega
     obtain ⟨r, hr⟩ : ∃ r, r = Lx.tok (Lx.suf s k) := ⟨_, rfl⟩
     have hr' : Lx.tok ((Lx.ls s).drop k) = r := hr.symm
     by_cases he : r.1 = 0
     ·have hfin := Lx.zl8 (f := f) hne hfull (by rw [hr']; exact he)
      rw [hr', HK.out] at hfin
      have htl := Lx.zk1 (l := Lx.suf s k) (by rw [← hr]; exact he)
      rw [← hr, Lx.zao] at htl
      obtain ⟨q1, q2, q3⟩ := htl
      have hsk2 := Lx.zek false (Lx.suf s (k + r.2.2))
      rw [Lx.zao] at hsk2
      have HFIN := Lib.hid hfin
      have HR2 := Lib.hid hr
      have HE := Lib.hid he
      have Q3 := Lib.hid q3
      clear hfin hr hr' he hfull hne hend q3
      go_wp2_with fail
      refine (zj2 s k _ hs hlt).mono ?_
      rintro e w1 ⟨he1, hb1⟩
      rw [← HR2.out, zdb HE.out] at he1
      subst he1
      have hB1 := zai (w := w) hb hb1
      have hown1 := zmh hown hb1
      go_wp2_with (at_builtin; refine wpList_app2 rfl (.tmp 34) (.tmp 36) 39 43 rfl Tryz.underlying39 zeh rfl (by decide) _ _ rfl (by intro u hu; simp at hu; rcases hu with rfl | rfl | rfl | rfl | rfl | rfl <;> rfl) w.heap.size _ _ _ rfl (hown1.alloc _) _ rfl (by simp) (by simp only [maxLen]; omega) (by omega) (by have := hB1.size; simp; omega) w.heap.size (Nat.le_refl _) ?_; intro v2 w2 hown2 hb2)
      go_wp2_with fail
      refine (ziL s (k + r.2.2) _ hs (by omega)).mono ?_
      rintro e w' ⟨rfl, rfl⟩
      go_wp2
      go_roundw
      case rel =>
       refine ⟨acc ++ [(r.2.1, k)], k + r.2.2 + Lx.skipN false (Lx.suf s (k + r.2.2)), f, by congr 1, by omega, by omega, by simp; omega, ?_, (by exact zw : Below w.heap.size w _).trans hb2, Lib.hid HFIN.out.symm⟩
       simpa [zey] using hown2
      case measure => simp [intOf]; omega
     ·have hfin := Lx.zka (f := f) hne hfull (by rw [hr']; exact he)
      rw [hr', HK.out] at hfin
      have HFIN := Lib.hid hfin
      have HR2 := Lib.hid hr
      have HE := Lib.hid he
      have d4 : (r.1 != 0) = true := by simp [he]
      clear hfin hr hr' he hfull hne hend
      go_wp2_with fail
      refine (zj2 s k _ hs hlt).mono ?_
      rintro e w1 ⟨he1, hb1⟩
      rw [← HR2.out, zbR HE.out] at he1
      subst he1
      have hB1 := zai (w := w) hb hb1
      go_wp2
      try rw [Exit.noGoto_ret]
      go_ret3
      rw [HFIN.out]
      exact zdn zw
end Go.Proofs.YtakegkongmnekaaGreatDoor
