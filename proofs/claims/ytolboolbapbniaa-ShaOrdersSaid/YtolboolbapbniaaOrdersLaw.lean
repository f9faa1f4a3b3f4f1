/- ShaOrders: which of two digests comes first: it returns true. -/
import Derived.Test.YtolboolbapbniaaOrders
namespace Go.Proofs.Ytolboolbapbniaa
open Go.RowKit Sp

attribute [local go_sem ↓] ldSt stSt ldD stD
attribute [local go_sem] run_ldA run_stA arrSt arrD loadX_at loadY_some storeX_at storeY_true wcs_size ones_wcs St.list_length ucs_size ones_ucs dg_length sha_length

set_option maxHeartbeats 4000000 in
set_option maxRecDepth 100000 in
theorem orders_any (w : World) (l m : List UInt8) (hl : l.length = 32) (hm : m.length = 32) :
    Calls Try.prog 5 #[.agg (ucs l), .agg (ucs m)] w fun e w' => e = .returned (.bool true) ∧ Below w.heap.size w w' := by
  have hlm := fun W => compare_any W l m hl hm
  have hml := fun W => compare_any W m l hm hl
  have hll := fun W => compare_any W l l hl hl
  have hrlm := fun W => rcompare_any W l m hl hm
  rw [cmp_flip l m] at hml
  rw [cmp_refl l] at hll
  have hc := cmp_cases l m
  revert hlm hml hll hrlm hc
  generalize Lib.compareBytes l m = c
  intro hlm hml hll hrlm hc
  have hneg : IntKind.i64.wrap (-c) = -c := IntWalk.i64_in _ (by omega)
  have HLM := hd hlm
  have HML := hd hml
  have HLL := hd hll
  have HRLM := hd hrlm
  clear hlm hml hll hrlm hc
  go_enter Try.func5, Try.ntmps5
  go_upto_region 1 with (fail)
  obtain ⟨g1, hg1e⟩ : ∃ g, w.heap.size = g := ⟨_, rfl⟩
  obtain ⟨g2, hg2e⟩ : ∃ g, w.heap.size + 1 = g := ⟨_, rfl⟩
  obtain ⟨wr, hwr⟩ : ∃ W, (w.alloc (.cells (ucs l) 23)).alloc (.cells (ucs m) 23) = W := ⟨_, rfl⟩
  have HG1 : Hid (wr.heap[g1]? = some (.cells (ucs l) 23 (0, 0))) := hd (by rw [← hwr, ← hg1e]; exact blk_alloc (heap_alloc_new w _) _)
  have HG2 : Hid (wr.heap[g2]? = some (.cells (ucs m) 23 (0, 0))) := hd (by rw [← hwr, ← hg2e]; exact blk_new1 w _ _)
  have Hl : Hid (HoldS 32 g1 0 (ucs l) wr) := hd ⟨sub_row HG1.out (by rw [ucs_size, hl]), blk_lt HG1.out⟩
  have Hm : Hid (HoldS 32 g2 0 (ucs m) wr) := hd ⟨sub_row HG2.out (by rw [ucs_size, hm]), blk_lt HG2.out⟩
  have HBW : Hid (Below w.heap.size w wr) := hd (by rw [← hwr]; exact ((Below.refl _ w).alloc (Nat.le_refl _) _).alloc (by simp) _)
  rw [hwr, hg2e, hg1e]
  clear hwr hg1e hg2e HG1 HG2 hl hm
  refine wp_region_inv [5, 6, 7, 8, 9, 10, 11, 12, 13, 14, 15, 16, 17, 18, 19, 20, 21, 22, 23, 24, 25, 26, 27, 28, 29, 30, 4] (fun done σ w' => Below wr.heap.size wr w' ∧
    (done 0 = true → σ 5 = .agg (ucs l)) ∧
    (done 1 = true → σ 6 = .agg (ucs m)) ∧
    (done 2 = true → σ 7 = .int .i64 c) ∧
    (done 3 = true → σ 8 = .agg (ucs l)) ∧
    (done 4 = true → σ 9 = .agg (ucs m)) ∧
    (done 5 = true → σ 10 = .int .i64 c) ∧
    (done 6 = true → σ 11 = .bool true) ∧
    (done 7 = true → σ 12 = .bool true) ∧
    (done 8 = true → σ 13 = .agg (ucs m)) ∧
    (done 9 = true → σ 14 = .agg (ucs l)) ∧
    (done 10 = true → σ 15 = .int .i64 (-c)) ∧
    (done 11 = true → σ 16 = .agg (ucs l)) ∧
    (done 12 = true → σ 17 = .agg (ucs m)) ∧
    (done 13 = true → σ 18 = .int .i64 c) ∧
    (done 14 = true → σ 19 = .int .i64 (-c)) ∧
    (done 15 = true → σ 20 = .bool true) ∧
    (done 16 = true → σ 21 = .bool true) ∧
    (done 17 = true → σ 22 = .bool true) ∧
    (done 18 = true → σ 23 = .agg (ucs l)) ∧
    (done 19 = true → σ 24 = .agg (ucs l)) ∧
    (done 20 = true → σ 25 = .int .i64 0) ∧
    (done 21 = true → σ 26 = .bool true) ∧
    (done 22 = true → σ 27 = .bool true) ∧
    (done 23 = true → σ 28 = .bool true) ∧
    (done 24 = true → σ 29 = .bool true) ∧
    (done 25 = true → σ 30 = .bool true) ∧
    (done 26 = true → σ 4 = .bool true)) (by kernel_rfl) (by kernel_rfl) ?_ ?_ ?_
  · simp
    exact Below.drew (Below.refl _ _)
  · refine ⟨fun done σ w' a hi hA hC ha hσ ⟨hR, r0, r1, r2, r3, r4, r5, r6, r7, r8, r9, r10, r11, r12, r13, r14, r15, r16, r17, r18, r19, r20, r21, r22, r23, r24, r25, r26⟩ => ?_, ?_⟩
    · have e0 := hσ 2 (by simp)
      simp only [List.getElem?_toArray] at e0
      have e9 := (Hl.out.below hR).sub
      refine stepG_plain rfl fun K hK => ?_
      go_simp
      refine hK _ _ ?_
      simp [mk, up]
      exact ⟨hR, r1, r2, r3, r4, r5, r6, r7, r8, r9, r10, r11, r12, r13, r14, r15, r16, r17, r18, r19, r20, r21, r22, r23, r24, r25, r26⟩
    refine ⟨fun done σ w' a hi hA hC ha hσ ⟨hR, r0, r1, r2, r3, r4, r5, r6, r7, r8, r9, r10, r11, r12, r13, r14, r15, r16, r17, r18, r19, r20, r21, r22, r23, r24, r25, r26⟩ => ?_, ?_⟩
    · have e0 := hσ 3 (by simp)
      simp only [List.getElem?_toArray] at e0
      have e9 := (Hm.out.below hR).sub
      refine stepG_plain rfl fun K hK => ?_
      go_simp
      refine hK _ _ ?_
      simp [mk, up]
      exact ⟨hR, r0, r2, r3, r4, r5, r6, r7, r8, r9, r10, r11, r12, r13, r14, r15, r16, r17, r18, r19, r20, r21, r22, r23, r24, r25, r26⟩
    refine ⟨fun done σ w' a hi hA hC ha hσ ⟨hR, r0, r1, r2, r3, r4, r5, r6, r7, r8, r9, r10, r11, r12, r13, r14, r15, r16, r17, r18, r19, r20, r21, r22, r23, r24, r25, r26⟩ => ?_, ?_⟩
    · simp [After, Region.binds] at hA
      have e0 := r0 (by first | exact hA | exact hA.1 | exact hA.2 | exact hA.2.1 | exact hA.2.2 | exact hA.2.2.1 | exact hA.2.2.2 | exact hA.2.2.2.1)
      have e1 := r1 (by first | exact hA | exact hA.1 | exact hA.2 | exact hA.2.1 | exact hA.2.2 | exact hA.2.2.1 | exact hA.2.2.2 | exact hA.2.2.2.1)
      refine stepG_plain rfl fun K hK => ?_
      go_simp
      refine (HLM.out w').mono ?_
      rintro e w2 ⟨rfl, hb2⟩
      refine hK _ _ ?_
      simp [mk, up]
      exact ⟨hR.trans (hb2.mono hR.size), r0, r1, r3, r4, r5, r6, r7, r8, r9, r10, r11, r12, r13, r14, r15, r16, r17, r18, r19, r20, r21, r22, r23, r24, r25, r26⟩
    refine ⟨fun done σ w' a hi hA hC ha hσ ⟨hR, r0, r1, r2, r3, r4, r5, r6, r7, r8, r9, r10, r11, r12, r13, r14, r15, r16, r17, r18, r19, r20, r21, r22, r23, r24, r25, r26⟩ => ?_, ?_⟩
    · have e0 := hσ 2 (by simp)
      simp only [List.getElem?_toArray] at e0
      have e9 := (Hl.out.below hR).sub
      refine stepG_plain rfl fun K hK => ?_
      go_simp
      refine hK _ _ ?_
      simp [mk, up]
      exact ⟨hR, r0, r1, r2, r4, r5, r6, r7, r8, r9, r10, r11, r12, r13, r14, r15, r16, r17, r18, r19, r20, r21, r22, r23, r24, r25, r26⟩
    refine ⟨fun done σ w' a hi hA hC ha hσ ⟨hR, r0, r1, r2, r3, r4, r5, r6, r7, r8, r9, r10, r11, r12, r13, r14, r15, r16, r17, r18, r19, r20, r21, r22, r23, r24, r25, r26⟩ => ?_, ?_⟩
    · have e0 := hσ 3 (by simp)
      simp only [List.getElem?_toArray] at e0
      have e9 := (Hm.out.below hR).sub
      refine stepG_plain rfl fun K hK => ?_
      go_simp
      refine hK _ _ ?_
      simp [mk, up]
      exact ⟨hR, r0, r1, r2, r3, r5, r6, r7, r8, r9, r10, r11, r12, r13, r14, r15, r16, r17, r18, r19, r20, r21, r22, r23, r24, r25, r26⟩
    refine ⟨fun done σ w' a hi hA hC ha hσ ⟨hR, r0, r1, r2, r3, r4, r5, r6, r7, r8, r9, r10, r11, r12, r13, r14, r15, r16, r17, r18, r19, r20, r21, r22, r23, r24, r25, r26⟩ => ?_, ?_⟩
    · simp [After, Region.binds] at hA
      have e0 := r3 (by first | exact hA | exact hA.1 | exact hA.2 | exact hA.2.1 | exact hA.2.2 | exact hA.2.2.1 | exact hA.2.2.2 | exact hA.2.2.2.1)
      have e1 := r4 (by first | exact hA | exact hA.1 | exact hA.2 | exact hA.2.1 | exact hA.2.2 | exact hA.2.2.1 | exact hA.2.2.2 | exact hA.2.2.2.1)
      refine stepG_plain rfl fun K hK => ?_
      go_simp
      refine (HRLM.out w').mono ?_
      rintro e w2 ⟨rfl, hb2⟩
      refine hK _ _ ?_
      simp [mk, up]
      exact ⟨hR.trans (hb2.mono hR.size), r0, r1, r2, r3, r4, r6, r7, r8, r9, r10, r11, r12, r13, r14, r15, r16, r17, r18, r19, r20, r21, r22, r23, r24, r25, r26⟩
    refine ⟨fun done σ w' a hi hA hC ha hσ ⟨hR, r0, r1, r2, r3, r4, r5, r6, r7, r8, r9, r10, r11, r12, r13, r14, r15, r16, r17, r18, r19, r20, r21, r22, r23, r24, r25, r26⟩ => ?_, ?_⟩
    · simp [After, Region.binds] at hA
      have e0 := r2 (by first | exact hA | exact hA.1 | exact hA.2 | exact hA.2.1 | exact hA.2.2 | exact hA.2.2.1 | exact hA.2.2.2 | exact hA.2.2.2.1)
      have e1 := r5 (by first | exact hA | exact hA.1 | exact hA.2 | exact hA.2.1 | exact hA.2.2 | exact hA.2.2.1 | exact hA.2.2.2 | exact hA.2.2.2.1)
      refine stepG_plain rfl fun K hK => ?_
      go_simp
      refine hK _ _ ?_
      simp [mk, up]
      exact ⟨hR, r0, r1, r2, r3, r4, r5, r7, r8, r9, r10, r11, r12, r13, r14, r15, r16, r17, r18, r19, r20, r21, r22, r23, r24, r25, r26⟩
    refine ⟨fun done σ w' a hi hA hC ha hσ ⟨hR, r0, r1, r2, r3, r4, r5, r6, r7, r8, r9, r10, r11, r12, r13, r14, r15, r16, r17, r18, r19, r20, r21, r22, r23, r24, r25, r26⟩ => ?_, ?_⟩
    · simp [After, Region.binds] at hA
      have e0 := r6 (by first | exact hA | exact hA.1 | exact hA.2 | exact hA.2.1 | exact hA.2.2 | exact hA.2.2.1 | exact hA.2.2.2 | exact hA.2.2.2.1)
      refine stepG_plain rfl fun K hK => ?_
      go_simp
      refine hK _ _ ?_
      simp [mk, up]
      exact ⟨hR, r0, r1, r2, r3, r4, r5, r6, r8, r9, r10, r11, r12, r13, r14, r15, r16, r17, r18, r19, r20, r21, r22, r23, r24, r25, r26⟩
    refine ⟨fun done σ w' a hi hA hC ha hσ ⟨hR, r0, r1, r2, r3, r4, r5, r6, r7, r8, r9, r10, r11, r12, r13, r14, r15, r16, r17, r18, r19, r20, r21, r22, r23, r24, r25, r26⟩ => ?_, ?_⟩
    · simp [After, Region.binds] at hA
      have e0 := hσ 3 (by simp)
      simp only [List.getElem?_toArray] at e0
      have e9 := (Hm.out.below hR).sub
      refine stepG_on 7 12 rfl rfl (r7 (by first | exact hA | exact hA.1 | exact hA.2 | exact hA.2.1 | exact hA.2.2 | exact hA.2.2.1 | exact hA.2.2.2 | exact hA.2.2.2.1)) ha fun K hK => ?_
      go_simp
      refine hK _ _ ?_
      simp [mk, up]
      exact ⟨hR, r0, r1, r2, r3, r4, r5, r6, r7, r9, r10, r11, r12, r13, r14, r15, r16, r17, r18, r19, r20, r21, r22, r23, r24, r25, r26⟩
    refine ⟨fun done σ w' a hi hA hC ha hσ ⟨hR, r0, r1, r2, r3, r4, r5, r6, r7, r8, r9, r10, r11, r12, r13, r14, r15, r16, r17, r18, r19, r20, r21, r22, r23, r24, r25, r26⟩ => ?_, ?_⟩
    · simp [After, Region.binds] at hA
      have e0 := hσ 2 (by simp)
      simp only [List.getElem?_toArray] at e0
      have e9 := (Hl.out.below hR).sub
      refine stepG_on 7 12 rfl rfl (r7 (by first | exact hA | exact hA.1 | exact hA.2 | exact hA.2.1 | exact hA.2.2 | exact hA.2.2.1 | exact hA.2.2.2 | exact hA.2.2.2.1)) ha fun K hK => ?_
      go_simp
      refine hK _ _ ?_
      simp [mk, up]
      exact ⟨hR, r0, r1, r2, r3, r4, r5, r6, r7, r8, r10, r11, r12, r13, r14, r15, r16, r17, r18, r19, r20, r21, r22, r23, r24, r25, r26⟩
    refine ⟨fun done σ w' a hi hA hC ha hσ ⟨hR, r0, r1, r2, r3, r4, r5, r6, r7, r8, r9, r10, r11, r12, r13, r14, r15, r16, r17, r18, r19, r20, r21, r22, r23, r24, r25, r26⟩ => ?_, ?_⟩
    · simp [After, Region.binds] at hA
      have e0 := r8 (by first | exact hA | exact hA.1 | exact hA.2 | exact hA.2.1 | exact hA.2.2 | exact hA.2.2.1 | exact hA.2.2.2 | exact hA.2.2.2.1)
      have e1 := r9 (by first | exact hA | exact hA.1 | exact hA.2 | exact hA.2.1 | exact hA.2.2 | exact hA.2.2.1 | exact hA.2.2.2 | exact hA.2.2.2.1)
      refine stepG_on 7 12 rfl rfl (r7 (by first | exact hA | exact hA.1 | exact hA.2 | exact hA.2.1 | exact hA.2.2 | exact hA.2.2.1 | exact hA.2.2.2 | exact hA.2.2.2.1)) ha fun K hK => ?_
      go_simp
      refine (HML.out w').mono ?_
      rintro e w2 ⟨rfl, hb2⟩
      refine hK _ _ ?_
      simp [mk, up]
      exact ⟨hR.trans (hb2.mono hR.size), r0, r1, r2, r3, r4, r5, r6, r7, r8, r9, r11, r12, r13, r14, r15, r16, r17, r18, r19, r20, r21, r22, r23, r24, r25, r26⟩
    refine ⟨fun done σ w' a hi hA hC ha hσ ⟨hR, r0, r1, r2, r3, r4, r5, r6, r7, r8, r9, r10, r11, r12, r13, r14, r15, r16, r17, r18, r19, r20, r21, r22, r23, r24, r25, r26⟩ => ?_, ?_⟩
    · simp [After, Region.binds] at hA
      have e0 := hσ 2 (by simp)
      simp only [List.getElem?_toArray] at e0
      have e9 := (Hl.out.below hR).sub
      refine stepG_on 7 12 rfl rfl (r7 (by first | exact hA | exact hA.1 | exact hA.2 | exact hA.2.1 | exact hA.2.2 | exact hA.2.2.1 | exact hA.2.2.2 | exact hA.2.2.2.1)) ha fun K hK => ?_
      go_simp
      refine hK _ _ ?_
      simp [mk, up]
      exact ⟨hR, r0, r1, r2, r3, r4, r5, r6, r7, r8, r9, r10, r12, r13, r14, r15, r16, r17, r18, r19, r20, r21, r22, r23, r24, r25, r26⟩
    refine ⟨fun done σ w' a hi hA hC ha hσ ⟨hR, r0, r1, r2, r3, r4, r5, r6, r7, r8, r9, r10, r11, r12, r13, r14, r15, r16, r17, r18, r19, r20, r21, r22, r23, r24, r25, r26⟩ => ?_, ?_⟩
    · simp [After, Region.binds] at hA
      have e0 := hσ 3 (by simp)
      simp only [List.getElem?_toArray] at e0
      have e9 := (Hm.out.below hR).sub
      refine stepG_on 7 12 rfl rfl (r7 (by first | exact hA | exact hA.1 | exact hA.2 | exact hA.2.1 | exact hA.2.2 | exact hA.2.2.1 | exact hA.2.2.2 | exact hA.2.2.2.1)) ha fun K hK => ?_
      go_simp
      refine hK _ _ ?_
      simp [mk, up]
      exact ⟨hR, r0, r1, r2, r3, r4, r5, r6, r7, r8, r9, r10, r11, r13, r14, r15, r16, r17, r18, r19, r20, r21, r22, r23, r24, r25, r26⟩
    refine ⟨fun done σ w' a hi hA hC ha hσ ⟨hR, r0, r1, r2, r3, r4, r5, r6, r7, r8, r9, r10, r11, r12, r13, r14, r15, r16, r17, r18, r19, r20, r21, r22, r23, r24, r25, r26⟩ => ?_, ?_⟩
    · simp [After, Region.binds] at hA
      have e0 := r11 (by first | exact hA | exact hA.1 | exact hA.2 | exact hA.2.1 | exact hA.2.2 | exact hA.2.2.1 | exact hA.2.2.2 | exact hA.2.2.2.1)
      have e1 := r12 (by first | exact hA | exact hA.1 | exact hA.2 | exact hA.2.1 | exact hA.2.2 | exact hA.2.2.1 | exact hA.2.2.2 | exact hA.2.2.2.1)
      refine stepG_on 7 12 rfl rfl (r7 (by first | exact hA | exact hA.1 | exact hA.2 | exact hA.2.1 | exact hA.2.2 | exact hA.2.2.1 | exact hA.2.2.2 | exact hA.2.2.2.1)) ha fun K hK => ?_
      go_simp
      refine (HRLM.out w').mono ?_
      rintro e w2 ⟨rfl, hb2⟩
      refine hK _ _ ?_
      simp [mk, up]
      exact ⟨hR.trans (hb2.mono hR.size), r0, r1, r2, r3, r4, r5, r6, r7, r8, r9, r10, r11, r12, r14, r15, r16, r17, r18, r19, r20, r21, r22, r23, r24, r25, r26⟩
    refine ⟨fun done σ w' a hi hA hC ha hσ ⟨hR, r0, r1, r2, r3, r4, r5, r6, r7, r8, r9, r10, r11, r12, r13, r14, r15, r16, r17, r18, r19, r20, r21, r22, r23, r24, r25, r26⟩ => ?_, ?_⟩
    · simp [After, Region.binds] at hA
      have e0 := r13 (by first | exact hA | exact hA.1 | exact hA.2 | exact hA.2.1 | exact hA.2.2 | exact hA.2.2.1 | exact hA.2.2.2 | exact hA.2.2.2.1)
      have e9 := hneg
      refine stepG_on 7 12 rfl rfl (r7 (by first | exact hA | exact hA.1 | exact hA.2 | exact hA.2.1 | exact hA.2.2 | exact hA.2.2.1 | exact hA.2.2.2 | exact hA.2.2.2.1)) ha fun K hK => ?_
      go_simp
      refine hK _ _ ?_
      simp [mk, up]
      exact ⟨hR, r0, r1, r2, r3, r4, r5, r6, r7, r8, r9, r10, r11, r12, r13, r15, r16, r17, r18, r19, r20, r21, r22, r23, r24, r25, r26⟩
    refine ⟨fun done σ w' a hi hA hC ha hσ ⟨hR, r0, r1, r2, r3, r4, r5, r6, r7, r8, r9, r10, r11, r12, r13, r14, r15, r16, r17, r18, r19, r20, r21, r22, r23, r24, r25, r26⟩ => ?_, ?_⟩
    · simp [After, Region.binds] at hA
      have e0 := r10 (by first | exact hA | exact hA.1 | exact hA.2 | exact hA.2.1 | exact hA.2.2 | exact hA.2.2.1 | exact hA.2.2.2 | exact hA.2.2.2.1)
      have e1 := r14 (by first | exact hA | exact hA.1 | exact hA.2 | exact hA.2.1 | exact hA.2.2 | exact hA.2.2.1 | exact hA.2.2.2 | exact hA.2.2.2.1)
      refine stepG_on 7 12 rfl rfl (r7 (by first | exact hA | exact hA.1 | exact hA.2 | exact hA.2.1 | exact hA.2.2 | exact hA.2.2.1 | exact hA.2.2.2 | exact hA.2.2.2.1)) ha fun K hK => ?_
      go_simp
      refine hK _ _ ?_
      simp [mk, up]
      exact ⟨hR, r0, r1, r2, r3, r4, r5, r6, r7, r8, r9, r10, r11, r12, r13, r14, r16, r17, r18, r19, r20, r21, r22, r23, r24, r25, r26⟩
    refine ⟨fun done σ w' a hi hA hC ha hσ ⟨hR, r0, r1, r2, r3, r4, r5, r6, r7, r8, r9, r10, r11, r12, r13, r14, r15, r16, r17, r18, r19, r20, r21, r22, r23, r24, r25, r26⟩ => ?_, ?_⟩
    · simp [After, Region.binds] at hA
      have e0 := r7 (by first | exact hA | exact hA.1 | exact hA.2 | exact hA.2.1 | exact hA.2.2 | exact hA.2.2.1 | exact hA.2.2.2 | exact hA.2.2.2.1)
      have e1 := r15 (by first | exact hA | exact hA.1 | exact hA.2 | exact hA.2.1 | exact hA.2.2 | exact hA.2.2.1 | exact hA.2.2.2 | exact hA.2.2.2.1)
      refine stepG_plain rfl fun K hK => ?_
      go_simp
      refine hK _ _ ?_
      simp [mk, up]
      exact ⟨hR, r0, r1, r2, r3, r4, r5, r6, r7, r8, r9, r10, r11, r12, r13, r14, r15, r17, r18, r19, r20, r21, r22, r23, r24, r25, r26⟩
    refine ⟨fun done σ w' a hi hA hC ha hσ ⟨hR, r0, r1, r2, r3, r4, r5, r6, r7, r8, r9, r10, r11, r12, r13, r14, r15, r16, r17, r18, r19, r20, r21, r22, r23, r24, r25, r26⟩ => ?_, ?_⟩
    · simp [After, Region.binds] at hA
      have e0 := r16 (by first | exact hA | exact hA.1 | exact hA.2 | exact hA.2.1 | exact hA.2.2 | exact hA.2.2.1 | exact hA.2.2.2 | exact hA.2.2.2.1)
      refine stepG_plain rfl fun K hK => ?_
      go_simp
      refine hK _ _ ?_
      simp [mk, up]
      exact ⟨hR, r0, r1, r2, r3, r4, r5, r6, r7, r8, r9, r10, r11, r12, r13, r14, r15, r16, r18, r19, r20, r21, r22, r23, r24, r25, r26⟩
    refine ⟨fun done σ w' a hi hA hC ha hσ ⟨hR, r0, r1, r2, r3, r4, r5, r6, r7, r8, r9, r10, r11, r12, r13, r14, r15, r16, r17, r18, r19, r20, r21, r22, r23, r24, r25, r26⟩ => ?_, ?_⟩
    · simp [After, Region.binds] at hA
      have e0 := hσ 2 (by simp)
      simp only [List.getElem?_toArray] at e0
      have e9 := (Hl.out.below hR).sub
      refine stepG_on 17 22 rfl rfl (r17 (by first | exact hA | exact hA.1 | exact hA.2 | exact hA.2.1 | exact hA.2.2 | exact hA.2.2.1 | exact hA.2.2.2 | exact hA.2.2.2.1)) ha fun K hK => ?_
      go_simp
      refine hK _ _ ?_
      simp [mk, up]
      exact ⟨hR, r0, r1, r2, r3, r4, r5, r6, r7, r8, r9, r10, r11, r12, r13, r14, r15, r16, r17, r19, r20, r21, r22, r23, r24, r25, r26⟩
    refine ⟨fun done σ w' a hi hA hC ha hσ ⟨hR, r0, r1, r2, r3, r4, r5, r6, r7, r8, r9, r10, r11, r12, r13, r14, r15, r16, r17, r18, r19, r20, r21, r22, r23, r24, r25, r26⟩ => ?_, ?_⟩
    · simp [After, Region.binds] at hA
      have e0 := hσ 2 (by simp)
      simp only [List.getElem?_toArray] at e0
      have e9 := (Hl.out.below hR).sub
      refine stepG_on 17 22 rfl rfl (r17 (by first | exact hA | exact hA.1 | exact hA.2 | exact hA.2.1 | exact hA.2.2 | exact hA.2.2.1 | exact hA.2.2.2 | exact hA.2.2.2.1)) ha fun K hK => ?_
      go_simp
      refine hK _ _ ?_
      simp [mk, up]
      exact ⟨hR, r0, r1, r2, r3, r4, r5, r6, r7, r8, r9, r10, r11, r12, r13, r14, r15, r16, r17, r18, r20, r21, r22, r23, r24, r25, r26⟩
    refine ⟨fun done σ w' a hi hA hC ha hσ ⟨hR, r0, r1, r2, r3, r4, r5, r6, r7, r8, r9, r10, r11, r12, r13, r14, r15, r16, r17, r18, r19, r20, r21, r22, r23, r24, r25, r26⟩ => ?_, ?_⟩
    · simp [After, Region.binds] at hA
      have e0 := r18 (by first | exact hA | exact hA.1 | exact hA.2 | exact hA.2.1 | exact hA.2.2 | exact hA.2.2.1 | exact hA.2.2.2 | exact hA.2.2.2.1)
      have e1 := r19 (by first | exact hA | exact hA.1 | exact hA.2 | exact hA.2.1 | exact hA.2.2 | exact hA.2.2.1 | exact hA.2.2.2 | exact hA.2.2.2.1)
      refine stepG_on 17 22 rfl rfl (r17 (by first | exact hA | exact hA.1 | exact hA.2 | exact hA.2.1 | exact hA.2.2 | exact hA.2.2.1 | exact hA.2.2.2 | exact hA.2.2.2.1)) ha fun K hK => ?_
      go_simp
      refine (HLL.out w').mono ?_
      rintro e w2 ⟨rfl, hb2⟩
      refine hK _ _ ?_
      simp [mk, up]
      exact ⟨hR.trans (hb2.mono hR.size), r0, r1, r2, r3, r4, r5, r6, r7, r8, r9, r10, r11, r12, r13, r14, r15, r16, r17, r18, r19, r21, r22, r23, r24, r25, r26⟩
    refine ⟨fun done σ w' a hi hA hC ha hσ ⟨hR, r0, r1, r2, r3, r4, r5, r6, r7, r8, r9, r10, r11, r12, r13, r14, r15, r16, r17, r18, r19, r20, r21, r22, r23, r24, r25, r26⟩ => ?_, ?_⟩
    · simp [After, Region.binds] at hA
      have e0 := r20 (by first | exact hA | exact hA.1 | exact hA.2 | exact hA.2.1 | exact hA.2.2 | exact hA.2.2.1 | exact hA.2.2.2 | exact hA.2.2.2.1)
      refine stepG_on 17 22 rfl rfl (r17 (by first | exact hA | exact hA.1 | exact hA.2 | exact hA.2.1 | exact hA.2.2 | exact hA.2.2.1 | exact hA.2.2.2 | exact hA.2.2.2.1)) ha fun K hK => ?_
      go_simp
      refine hK _ _ ?_
      simp [mk, up]
      exact ⟨hR, r0, r1, r2, r3, r4, r5, r6, r7, r8, r9, r10, r11, r12, r13, r14, r15, r16, r17, r18, r19, r20, r22, r23, r24, r25, r26⟩
    refine ⟨fun done σ w' a hi hA hC ha hσ ⟨hR, r0, r1, r2, r3, r4, r5, r6, r7, r8, r9, r10, r11, r12, r13, r14, r15, r16, r17, r18, r19, r20, r21, r22, r23, r24, r25, r26⟩ => ?_, ?_⟩
    · simp [After, Region.binds] at hA
      have e0 := r17 (by first | exact hA | exact hA.1 | exact hA.2 | exact hA.2.1 | exact hA.2.2 | exact hA.2.2.1 | exact hA.2.2.2 | exact hA.2.2.2.1)
      have e1 := r21 (by first | exact hA | exact hA.1 | exact hA.2 | exact hA.2.1 | exact hA.2.2 | exact hA.2.2.1 | exact hA.2.2.2 | exact hA.2.2.2.1)
      refine stepG_plain rfl fun K hK => ?_
      go_simp
      refine hK _ _ ?_
      simp [mk, up]
      exact ⟨hR, r0, r1, r2, r3, r4, r5, r6, r7, r8, r9, r10, r11, r12, r13, r14, r15, r16, r17, r18, r19, r20, r21, r23, r24, r25, r26⟩
    refine ⟨fun done σ w' a hi hA hC ha hσ ⟨hR, r0, r1, r2, r3, r4, r5, r6, r7, r8, r9, r10, r11, r12, r13, r14, r15, r16, r17, r18, r19, r20, r21, r22, r23, r24, r25, r26⟩ => ?_, ?_⟩
    · simp [After, Region.binds] at hA
      have e0 := r22 (by first | exact hA | exact hA.1 | exact hA.2 | exact hA.2.1 | exact hA.2.2 | exact hA.2.2.1 | exact hA.2.2.2 | exact hA.2.2.2.1)
      refine stepG_plain rfl fun K hK => ?_
      go_simp
      refine hK _ _ ?_
      simp [mk, up]
      exact ⟨hR, r0, r1, r2, r3, r4, r5, r6, r7, r8, r9, r10, r11, r12, r13, r14, r15, r16, r17, r18, r19, r20, r21, r22, r24, r25, r26⟩
    refine ⟨fun done σ w' a hi hA hC ha hσ ⟨hR, r0, r1, r2, r3, r4, r5, r6, r7, r8, r9, r10, r11, r12, r13, r14, r15, r16, r17, r18, r19, r20, r21, r22, r23, r24, r25, r26⟩ => ?_, ?_⟩
    · simp [After, Region.binds] at hA
      refine stepG_on 23 28 rfl rfl (r23 (by first | exact hA | exact hA.1 | exact hA.2 | exact hA.2.1 | exact hA.2.2 | exact hA.2.2.1 | exact hA.2.2.2 | exact hA.2.2.2.1)) ha fun K hK => ?_
      go_simp
      refine (works_any w').mono ?_
      rintro e w2 ⟨rfl, hb2⟩
      refine hK _ _ ?_
      simp [mk, up]
      exact ⟨hR.trans (hb2.mono hR.size), r0, r1, r2, r3, r4, r5, r6, r7, r8, r9, r10, r11, r12, r13, r14, r15, r16, r17, r18, r19, r20, r21, r22, r23, r25, r26⟩
    refine ⟨fun done σ w' a hi hA hC ha hσ ⟨hR, r0, r1, r2, r3, r4, r5, r6, r7, r8, r9, r10, r11, r12, r13, r14, r15, r16, r17, r18, r19, r20, r21, r22, r23, r24, r25, r26⟩ => ?_, ?_⟩
    · simp [After, Region.binds] at hA
      have e0 := r23 (by first | exact hA | exact hA.1 | exact hA.2 | exact hA.2.1 | exact hA.2.2 | exact hA.2.2.1 | exact hA.2.2.2 | exact hA.2.2.2.1)
      have e1 := r24 (by first | exact hA | exact hA.1 | exact hA.2 | exact hA.2.1 | exact hA.2.2 | exact hA.2.2.1 | exact hA.2.2.2 | exact hA.2.2.2.1)
      refine stepG_plain rfl fun K hK => ?_
      go_simp
      refine hK _ _ ?_
      simp [mk, up]
      exact ⟨hR, r0, r1, r2, r3, r4, r5, r6, r7, r8, r9, r10, r11, r12, r13, r14, r15, r16, r17, r18, r19, r20, r21, r22, r23, r24, r26⟩
    refine ⟨fun done σ w' a hi hA hC ha hσ ⟨hR, r0, r1, r2, r3, r4, r5, r6, r7, r8, r9, r10, r11, r12, r13, r14, r15, r16, r17, r18, r19, r20, r21, r22, r23, r24, r25, r26⟩ => ?_, trivial⟩
    · simp [After, Region.binds] at hA
      have e0 := r25 (by first | exact hA | exact hA.1 | exact hA.2 | exact hA.2.1 | exact hA.2.2 | exact hA.2.2.1 | exact hA.2.2.2 | exact hA.2.2.2.1)
      refine stepG_plain rfl fun K hK => ?_
      go_simp
      refine hK _ _ ?_
      simp [mk, up]
      exact ⟨hR, r0, r1, r2, r3, r4, r5, r6, r7, r8, r9, r10, r11, r12, r13, r14, r15, r16, r17, r18, r19, r20, r21, r22, r23, r24, r25⟩
  · rintro done σ w' hall hσ ⟨hR, r0, r1, r2, r3, r4, r5, r6, r7, r8, r9, r10, r11, r12, r13, r14, r15, r16, r17, r18, r19, r20, r21, r22, r23, r24, r25, r26⟩
    have h26 := r26 (hall 26 (by simp))
    simp only [putF, List.foldl_cons, List.foldl_nil, Act.put, List.setIfInBounds_toArray, List.set_cons_succ, List.set_cons_zero]
    rw [h26]
    have HR := hd hR
    clear hσ r0 r1 r2 r3 r4 r5 r6 r7 r8 r9 r10 r11 r12 r13 r14 r15 r16 r17 r18 r19 r20 r21 r22 r23 r24 r25 r26 hall h26 hR
    go_wp2_with fail
    go_ret
    exact ⟨rfl, HBW.out.trans (HR.out.mono HBW.out.size)⟩

end Go.Proofs.Ytolboolbapbniaa
