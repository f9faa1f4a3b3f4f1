/- The document's text of a digest. -/
import Derived.Test.YtolboolbapbniaaParse
namespace Go.Proofs.Ytolboolbapbniaa
open Go.RowKit Sp

theorem sl_any (n : Nat) (h : n < 16) (W : World) : (Instr.slice 9 (.string ⟨#[48, 49, 50, 51, 52, 53, 54, 55, 56, 57, 97, 98, 99, 100, 101, 102]⟩) (some (.int .u8 (n : Int))) (some (.int .u8 ((n : Int) + 1))) none).run Try.prog W = .ok (.string ⟨#[hexd n]⟩) W := by
  have h1 := run_slice_string (P := Try.prog) W 9 ⟨#[48, 49, 50, 51, 52, 53, 54, 55, 56, 57, 97, 98, 99, 100, 101, 102]⟩ .u8 .u8 (n : Int) ((n : Int) + 1) (by kernel_rfl) (by omega) (by omega) (by show (n : Int) + 1 ≤ 16; omega)
  rw [h1]
  have : n = 0 ∨ n = 1 ∨ n = 2 ∨ n = 3 ∨ n = 4 ∨ n = 5 ∨ n = 6 ∨ n = 7 ∨ n = 8 ∨ n = 9 ∨ n = 10 ∨ n = 11 ∨ n = 12 ∨ n = 13 ∨ n = 14 ∨ n = 15 := by omega
  rcases this with rfl | rfl | rfl | rfl | rfl | rfl | rfl | rfl | rfl | rfl | rfl | rfl | rfl | rfl | rfl | rfl <;> rfl
theorem sl_hi (x : UInt8) (W : World) : (Instr.slice 9 (.string ⟨#[48, 49, 50, 51, 52, 53, 54, 55, 56, 57, 97, 98, 99, 100, 101, 102]⟩) (some (.int .u8 (ib x / 16))) (some (.int .u8 (ib x / 16 + 1))) none).run Try.prog W = .ok (.string ⟨#[hexd (x.toNat / 16)]⟩) W := by
  have h := x.toNat_lt
  exact sl_any (x.toNat / 16) (by omega) W
theorem sl_lo (x : UInt8) (W : World) : (Instr.slice 9 (.string ⟨#[48, 49, 50, 51, 52, 53, 54, 55, 56, 57, 97, 98, 99, 100, 101, 102]⟩) (some (.int .u8 (ib x % 16))) (some (.int .u8 (ib x % 16 + 1))) none).run Try.prog W = .ok (.string ⟨#[hexd (x.toNat % 16)]⟩) W := by
  exact sl_any (x.toNat % 16) (by omega) W
theorem add1_hi (x : UInt8) : IntKind.u8.wrap (ib x / 16 + 1) = ib x / 16 + 1 := by rw [IntKind.wrap_u8]; have := ib_lo x; have := ib_hi x; omega
theorem add1_lo (x : UInt8) : IntKind.u8.wrap (ib x % 16 + 1) = ib x % 16 + 1 := by rw [IntKind.wrap_u8]; have := ib_lo x; have := ib_hi x; omega
theorem quo16 (x : UInt8) : IntKind.u8.wrap ((ib x).tdiv 16) = ib x / 16 := by
  have h := ib_lo x; have h2 := ib_hi x
  rw [Int.tdiv_eq_ediv_of_nonneg h, IntKind.wrap_u8]; omega
theorem rem16 (x : UInt8) : (ib x).tmod 16 = ib x % 16 := Int.tmod_eq_emod_of_nonneg (ib_lo x)
theorem str_add (l : List UInt8) (h : UInt8) : (⟨l.toArray⟩ : ByteArray) ++ ⟨#[h]⟩ = ⟨(l ++ [h]).toArray⟩ := by
  apply ByteArray.ext
  simp

set_option maxHeartbeats 2000000 in
set_option maxRecDepth 100000 in
theorem rtext_any (w : World) (l : List UInt8) (hl : l.length = 32) :
    Calls Try.prog 19 #[.agg (ucs l)] w fun e w' => e = .returned (str (hexT l)) ∧ Below w.heap.size w w' := by
  go_enter Try.func19, Try.ntmps19
  go_upto_block 0 with (fail)
  go_wp2_with fail
  go_loopw [4, 5] (fun v i wr => ∃ k : Nat, k ≤ 32 ∧ i = .int .i64 k ∧ v = str (hexT (l.take k)) ∧ wr.heap[w.heap.size]? = some (.cells (ucs l) 23 (0, 0)) ∧ Below w.heap.size w wr) (fun _ i _ => 32 - (intOf i).toNat)
  case atStart => exact ⟨0, by omega, rfl, by rfl, heap_alloc_new w _, (Below.refl _ _).alloc (Nat.le_refl _) _⟩
  case round =>
    obtain ⟨k, hk, rfl, rfl, hd1, hb1⟩ := hrel
    have HD := hd hd1
    have HB := hd hb1
    clear hd1 hb1
    by_cases hlt : k < 32
    · have hcell := (blk_cell HD.out k).trans (ucs_get _ _ (by omega))
      have hwl : w.heap.size < wr.heap.size := blk_lt HD.out
      have hnx := hexT_take l k (by omega)
      have HNX := hd hnx
      clear hnx
      revert hcell HNX
      obtain ⟨pre, hpre⟩ : ∃ pre, hexT (l.take k) = pre := ⟨_, rfl⟩
      obtain ⟨x, hx⟩ : ∃ x, bg l k = x := ⟨_, rfl⟩
      rw [hpre, hx]
      intro hcell HNX
      have hpl : pre.length ≤ 64 := by rw [← hpre, hexT_length, List.length_take]; omega
      have q1 : pre.length + 1 ≤ 9223372036854775807 := by omega
      have q2 : pre.length + 1 + 1 ≤ 9223372036854775807 := by omega
      clear hpre hx
      unfold str
      go_upto_region 6 with (fail)
      refine wp_region_inv [10, 11, 12, 13, 14, 15, 16, 17, 18, 19, 20, 21, 22, 23, 24, 25, 26, 27, 28, 29, 30, 31, 32, 33, 34, 4] (fun done σ w' => Below wr.heap.size wr w' ∧
        (done 0 = true → σ 10 = .string ⟨pre.toArray⟩) ∧
        (done 1 = true → σ 11 = Value.string ⟨#[48, 49, 50, 51, 52, 53, 54, 55, 56, 57, 97, 98, 99, 100, 101, 102]⟩) ∧
        (done 2 = true → σ 12 = .int .i64 k) ∧
        (done 3 = true → σ 13 = Value.pointer (some ⟨w.heap.size, k, none⟩)) ∧
        (done 4 = true → σ 14 = .int .u8 (ib x)) ∧
        (done 5 = true → σ 15 = .int .u8 (ib x / 16)) ∧
        (done 6 = true → σ 16 = .int .i64 k) ∧
        (done 7 = true → σ 17 = Value.pointer (some ⟨w.heap.size, k, none⟩)) ∧
        (done 8 = true → σ 18 = .int .u8 (ib x)) ∧
        (done 9 = true → σ 19 = .int .u8 (ib x / 16)) ∧
        (done 10 = true → σ 20 = .int .u8 (ib x / 16 + 1)) ∧
        (done 11 = true → σ 21 = .string ⟨#[hexd (x.toNat / 16)]⟩) ∧
        (done 12 = true → σ 22 = .string ⟨(pre ++ [hexd (x.toNat / 16)]).toArray⟩) ∧
        (done 13 = true → σ 23 = Value.string ⟨#[48, 49, 50, 51, 52, 53, 54, 55, 56, 57, 97, 98, 99, 100, 101, 102]⟩) ∧
        (done 14 = true → σ 24 = .int .i64 k) ∧
        (done 15 = true → σ 25 = Value.pointer (some ⟨w.heap.size, k, none⟩)) ∧
        (done 16 = true → σ 26 = .int .u8 (ib x)) ∧
        (done 17 = true → σ 27 = .int .u8 (ib x % 16)) ∧
        (done 18 = true → σ 28 = .int .i64 k) ∧
        (done 19 = true → σ 29 = Value.pointer (some ⟨w.heap.size, k, none⟩)) ∧
        (done 20 = true → σ 30 = .int .u8 (ib x)) ∧
        (done 21 = true → σ 31 = .int .u8 (ib x % 16)) ∧
        (done 22 = true → σ 32 = .int .u8 (ib x % 16 + 1)) ∧
        (done 23 = true → σ 33 = .string ⟨#[hexd (x.toNat % 16)]⟩) ∧
        (done 24 = true → σ 34 = .string ⟨(pre ++ [hexd (x.toNat / 16), hexd (x.toNat % 16)]).toArray⟩) ∧
        (done 25 = true → σ 4 = .string ⟨(pre ++ [hexd (x.toNat / 16), hexd (x.toNat % 16)]).toArray⟩) ∧
        (done 25 = false → σ 4 = .string ⟨pre.toArray⟩)) (by kernel_rfl) (by kernel_rfl) ?_ ?_ ?_
      · simp
        exact Below.drew (Below.refl _ _)
      · refine ⟨fun done σ w' a hi hA hC ha hσ ⟨hR, r0, r1, r2, r3, r4, r5, r6, r7, r8, r9, r10, r11, r12, r13, r14, r15, r16, r17, r18, r19, r20, r21, r22, r23, r24, r25, r26⟩ => ?_, ?_⟩
        · have d12 := hC.at 0 12 _ rfl hi rfl
          have d24 := hC.at 12 24 _ rfl d12 rfl
          have d25 := hC.at 24 25 _ rfl d24 rfl
          have e0 := r26 d25
          refine stepG_plain rfl fun K hK => ?_
          go_simp
          refine hK _ _ ?_
          simp [mk, up]
          exact ⟨hR, r1, r2, r3, r4, r5, r6, r7, r8, r9, r10, r11, r12, r13, r14, r15, r16, r17, r18, r19, r20, r21, r22, r23, r24, r25, r26⟩
        refine ⟨fun done σ w' a hi hA hC ha hσ ⟨hR, r0, r1, r2, r3, r4, r5, r6, r7, r8, r9, r10, r11, r12, r13, r14, r15, r16, r17, r18, r19, r20, r21, r22, r23, r24, r25, r26⟩ => ?_, ?_⟩
        · have e0 := hσ 3 (by simp)
          simp only [List.getElem?_toArray] at e0
          refine stepG_plain rfl fun K hK => ?_
          go_simp
          refine hK _ _ ?_
          simp [mk, up]
          exact ⟨hR, r0, r2, r3, r4, r5, r6, r7, r8, r9, r10, r11, r12, r13, r14, r15, r16, r17, r18, r19, r20, r21, r22, r23, r24, r25, r26⟩
        refine ⟨fun done σ w' a hi hA hC ha hσ ⟨hR, r0, r1, r2, r3, r4, r5, r6, r7, r8, r9, r10, r11, r12, r13, r14, r15, r16, r17, r18, r19, r20, r21, r22, r23, r24, r25, r26⟩ => ?_, ?_⟩
        · have e0 := hσ 5 (by simp)
          simp only [List.getElem?_toArray] at e0
          refine stepG_plain rfl fun K hK => ?_
          go_simp
          refine hK _ _ ?_
          simp [mk, up]
          exact ⟨hR, r0, r1, r3, r4, r5, r6, r7, r8, r9, r10, r11, r12, r13, r14, r15, r16, r17, r18, r19, r20, r21, r22, r23, r24, r25, r26⟩
        refine ⟨fun done σ w' a hi hA hC ha hσ ⟨hR, r0, r1, r2, r3, r4, r5, r6, r7, r8, r9, r10, r11, r12, r13, r14, r15, r16, r17, r18, r19, r20, r21, r22, r23, r24, r25, r26⟩ => ?_, ?_⟩
        · simp [After, Region.binds] at hA
          have e0 := r2 hA
          refine stepG_plain rfl fun K hK => ?_
          go_simp
          refine hK _ _ ?_
          simp [mk, up]
          exact ⟨hR, r0, r1, r2, r4, r5, r6, r7, r8, r9, r10, r11, r12, r13, r14, r15, r16, r17, r18, r19, r20, r21, r22, r23, r24, r25, r26⟩
        refine ⟨fun done σ w' a hi hA hC ha hσ ⟨hR, r0, r1, r2, r3, r4, r5, r6, r7, r8, r9, r10, r11, r12, r13, r14, r15, r16, r17, r18, r19, r20, r21, r22, r23, r24, r25, r26⟩ => ?_, ?_⟩
        · simp [After, Region.binds] at hA
          have e0 := r3 hA
          have e1 := (hR.cell (p := ⟨w.heap.size, k, none⟩) hwl).trans hcell
          refine stepG_plain rfl fun K hK => ?_
          go_simp
          refine hK _ _ ?_
          simp [mk, up]
          exact ⟨hR, r0, r1, r2, r3, r5, r6, r7, r8, r9, r10, r11, r12, r13, r14, r15, r16, r17, r18, r19, r20, r21, r22, r23, r24, r25, r26⟩
        refine ⟨fun done σ w' a hi hA hC ha hσ ⟨hR, r0, r1, r2, r3, r4, r5, r6, r7, r8, r9, r10, r11, r12, r13, r14, r15, r16, r17, r18, r19, r20, r21, r22, r23, r24, r25, r26⟩ => ?_, ?_⟩
        · simp [After, Region.binds] at hA
          have e0 := r4 hA
          have e1 := quo16 x
          refine stepG_plain rfl fun K hK => ?_
          go_simp
          refine hK _ _ ?_
          simp [mk, up]
          exact ⟨hR, r0, r1, r2, r3, r4, r6, r7, r8, r9, r10, r11, r12, r13, r14, r15, r16, r17, r18, r19, r20, r21, r22, r23, r24, r25, r26⟩
        refine ⟨fun done σ w' a hi hA hC ha hσ ⟨hR, r0, r1, r2, r3, r4, r5, r6, r7, r8, r9, r10, r11, r12, r13, r14, r15, r16, r17, r18, r19, r20, r21, r22, r23, r24, r25, r26⟩ => ?_, ?_⟩
        · have e0 := hσ 5 (by simp)
          simp only [List.getElem?_toArray] at e0
          refine stepG_plain rfl fun K hK => ?_
          go_simp
          refine hK _ _ ?_
          simp [mk, up]
          exact ⟨hR, r0, r1, r2, r3, r4, r5, r7, r8, r9, r10, r11, r12, r13, r14, r15, r16, r17, r18, r19, r20, r21, r22, r23, r24, r25, r26⟩
        refine ⟨fun done σ w' a hi hA hC ha hσ ⟨hR, r0, r1, r2, r3, r4, r5, r6, r7, r8, r9, r10, r11, r12, r13, r14, r15, r16, r17, r18, r19, r20, r21, r22, r23, r24, r25, r26⟩ => ?_, ?_⟩
        · simp [After, Region.binds] at hA
          have e0 := r6 hA
          refine stepG_plain rfl fun K hK => ?_
          go_simp
          refine hK _ _ ?_
          simp [mk, up]
          exact ⟨hR, r0, r1, r2, r3, r4, r5, r6, r8, r9, r10, r11, r12, r13, r14, r15, r16, r17, r18, r19, r20, r21, r22, r23, r24, r25, r26⟩
        refine ⟨fun done σ w' a hi hA hC ha hσ ⟨hR, r0, r1, r2, r3, r4, r5, r6, r7, r8, r9, r10, r11, r12, r13, r14, r15, r16, r17, r18, r19, r20, r21, r22, r23, r24, r25, r26⟩ => ?_, ?_⟩
        · simp [After, Region.binds] at hA
          have e0 := r7 hA
          have e1 := (hR.cell (p := ⟨w.heap.size, k, none⟩) hwl).trans hcell
          refine stepG_plain rfl fun K hK => ?_
          go_simp
          refine hK _ _ ?_
          simp [mk, up]
          exact ⟨hR, r0, r1, r2, r3, r4, r5, r6, r7, r9, r10, r11, r12, r13, r14, r15, r16, r17, r18, r19, r20, r21, r22, r23, r24, r25, r26⟩
        refine ⟨fun done σ w' a hi hA hC ha hσ ⟨hR, r0, r1, r2, r3, r4, r5, r6, r7, r8, r9, r10, r11, r12, r13, r14, r15, r16, r17, r18, r19, r20, r21, r22, r23, r24, r25, r26⟩ => ?_, ?_⟩
        · simp [After, Region.binds] at hA
          have e0 := r8 hA
          have e1 := quo16 x
          refine stepG_plain rfl fun K hK => ?_
          go_simp
          refine hK _ _ ?_
          simp [mk, up]
          exact ⟨hR, r0, r1, r2, r3, r4, r5, r6, r7, r8, r10, r11, r12, r13, r14, r15, r16, r17, r18, r19, r20, r21, r22, r23, r24, r25, r26⟩
        refine ⟨fun done σ w' a hi hA hC ha hσ ⟨hR, r0, r1, r2, r3, r4, r5, r6, r7, r8, r9, r10, r11, r12, r13, r14, r15, r16, r17, r18, r19, r20, r21, r22, r23, r24, r25, r26⟩ => ?_, ?_⟩
        · simp [After, Region.binds] at hA
          have e0 := r9 hA
          have e1 := add1_hi x
          refine stepG_plain rfl fun K hK => ?_
          go_simp
          refine hK _ _ ?_
          simp [mk, up]
          exact ⟨hR, r0, r1, r2, r3, r4, r5, r6, r7, r8, r9, r11, r12, r13, r14, r15, r16, r17, r18, r19, r20, r21, r22, r23, r24, r25, r26⟩
        refine ⟨fun done σ w' a hi hA hC ha hσ ⟨hR, r0, r1, r2, r3, r4, r5, r6, r7, r8, r9, r10, r11, r12, r13, r14, r15, r16, r17, r18, r19, r20, r21, r22, r23, r24, r25, r26⟩ => ?_, ?_⟩
        · simp [After, Region.binds] at hA
          have e0 := r1 hA.1
          have e1 := r5 hA.2.1
          have e2 := r10 hA.2.2
          have e3 := sl_hi x
          refine stepG_plain rfl fun K hK => ?_
          go_simp
          refine hK _ _ ?_
          simp [mk, up]
          exact ⟨hR, r0, r1, r2, r3, r4, r5, r6, r7, r8, r9, r10, r12, r13, r14, r15, r16, r17, r18, r19, r20, r21, r22, r23, r24, r25, r26⟩
        refine ⟨fun done σ w' a hi hA hC ha hσ ⟨hR, r0, r1, r2, r3, r4, r5, r6, r7, r8, r9, r10, r11, r12, r13, r14, r15, r16, r17, r18, r19, r20, r21, r22, r23, r24, r25, r26⟩ => ?_, ?_⟩
        · simp [After, Region.binds] at hA
          have e0 := r0 hA.1
          have e1 := r11 hA.2
          have e2 := str_add pre (hexd (x.toNat / 16))
          refine stepG_plain rfl fun K hK => ?_
          go_simp
          rw [if_neg (by omega), Oper.upon_value]
          refine hK _ _ ?_
          simp [mk, up]
          exact ⟨hR, r0, r1, r2, r3, r4, r5, r6, r7, r8, r9, r10, r11, r13, r14, r15, r16, r17, r18, r19, r20, r21, r22, r23, r24, r25, r26⟩
        refine ⟨fun done σ w' a hi hA hC ha hσ ⟨hR, r0, r1, r2, r3, r4, r5, r6, r7, r8, r9, r10, r11, r12, r13, r14, r15, r16, r17, r18, r19, r20, r21, r22, r23, r24, r25, r26⟩ => ?_, ?_⟩
        · have e0 := hσ 3 (by simp)
          simp only [List.getElem?_toArray] at e0
          refine stepG_plain rfl fun K hK => ?_
          go_simp
          refine hK _ _ ?_
          simp [mk, up]
          exact ⟨hR, r0, r1, r2, r3, r4, r5, r6, r7, r8, r9, r10, r11, r12, r14, r15, r16, r17, r18, r19, r20, r21, r22, r23, r24, r25, r26⟩
        refine ⟨fun done σ w' a hi hA hC ha hσ ⟨hR, r0, r1, r2, r3, r4, r5, r6, r7, r8, r9, r10, r11, r12, r13, r14, r15, r16, r17, r18, r19, r20, r21, r22, r23, r24, r25, r26⟩ => ?_, ?_⟩
        · have e0 := hσ 5 (by simp)
          simp only [List.getElem?_toArray] at e0
          refine stepG_plain rfl fun K hK => ?_
          go_simp
          refine hK _ _ ?_
          simp [mk, up]
          exact ⟨hR, r0, r1, r2, r3, r4, r5, r6, r7, r8, r9, r10, r11, r12, r13, r15, r16, r17, r18, r19, r20, r21, r22, r23, r24, r25, r26⟩
        refine ⟨fun done σ w' a hi hA hC ha hσ ⟨hR, r0, r1, r2, r3, r4, r5, r6, r7, r8, r9, r10, r11, r12, r13, r14, r15, r16, r17, r18, r19, r20, r21, r22, r23, r24, r25, r26⟩ => ?_, ?_⟩
        · simp [After, Region.binds] at hA
          have e0 := r14 hA
          refine stepG_plain rfl fun K hK => ?_
          go_simp
          refine hK _ _ ?_
          simp [mk, up]
          exact ⟨hR, r0, r1, r2, r3, r4, r5, r6, r7, r8, r9, r10, r11, r12, r13, r14, r16, r17, r18, r19, r20, r21, r22, r23, r24, r25, r26⟩
        refine ⟨fun done σ w' a hi hA hC ha hσ ⟨hR, r0, r1, r2, r3, r4, r5, r6, r7, r8, r9, r10, r11, r12, r13, r14, r15, r16, r17, r18, r19, r20, r21, r22, r23, r24, r25, r26⟩ => ?_, ?_⟩
        · simp [After, Region.binds] at hA
          have e0 := r15 hA
          have e1 := (hR.cell (p := ⟨w.heap.size, k, none⟩) hwl).trans hcell
          refine stepG_plain rfl fun K hK => ?_
          go_simp
          refine hK _ _ ?_
          simp [mk, up]
          exact ⟨hR, r0, r1, r2, r3, r4, r5, r6, r7, r8, r9, r10, r11, r12, r13, r14, r15, r17, r18, r19, r20, r21, r22, r23, r24, r25, r26⟩
        refine ⟨fun done σ w' a hi hA hC ha hσ ⟨hR, r0, r1, r2, r3, r4, r5, r6, r7, r8, r9, r10, r11, r12, r13, r14, r15, r16, r17, r18, r19, r20, r21, r22, r23, r24, r25, r26⟩ => ?_, ?_⟩
        · simp [After, Region.binds] at hA
          have e0 := r16 hA
          have e1 := rem16 x
          refine stepG_plain rfl fun K hK => ?_
          go_simp
          refine hK _ _ ?_
          simp [mk, up]
          exact ⟨hR, r0, r1, r2, r3, r4, r5, r6, r7, r8, r9, r10, r11, r12, r13, r14, r15, r16, r18, r19, r20, r21, r22, r23, r24, r25, r26⟩
        refine ⟨fun done σ w' a hi hA hC ha hσ ⟨hR, r0, r1, r2, r3, r4, r5, r6, r7, r8, r9, r10, r11, r12, r13, r14, r15, r16, r17, r18, r19, r20, r21, r22, r23, r24, r25, r26⟩ => ?_, ?_⟩
        · have e0 := hσ 5 (by simp)
          simp only [List.getElem?_toArray] at e0
          refine stepG_plain rfl fun K hK => ?_
          go_simp
          refine hK _ _ ?_
          simp [mk, up]
          exact ⟨hR, r0, r1, r2, r3, r4, r5, r6, r7, r8, r9, r10, r11, r12, r13, r14, r15, r16, r17, r19, r20, r21, r22, r23, r24, r25, r26⟩
        refine ⟨fun done σ w' a hi hA hC ha hσ ⟨hR, r0, r1, r2, r3, r4, r5, r6, r7, r8, r9, r10, r11, r12, r13, r14, r15, r16, r17, r18, r19, r20, r21, r22, r23, r24, r25, r26⟩ => ?_, ?_⟩
        · simp [After, Region.binds] at hA
          have e0 := r18 hA
          refine stepG_plain rfl fun K hK => ?_
          go_simp
          refine hK _ _ ?_
          simp [mk, up]
          exact ⟨hR, r0, r1, r2, r3, r4, r5, r6, r7, r8, r9, r10, r11, r12, r13, r14, r15, r16, r17, r18, r20, r21, r22, r23, r24, r25, r26⟩
        refine ⟨fun done σ w' a hi hA hC ha hσ ⟨hR, r0, r1, r2, r3, r4, r5, r6, r7, r8, r9, r10, r11, r12, r13, r14, r15, r16, r17, r18, r19, r20, r21, r22, r23, r24, r25, r26⟩ => ?_, ?_⟩
        · simp [After, Region.binds] at hA
          have e0 := r19 hA
          have e1 := (hR.cell (p := ⟨w.heap.size, k, none⟩) hwl).trans hcell
          refine stepG_plain rfl fun K hK => ?_
          go_simp
          refine hK _ _ ?_
          simp [mk, up]
          exact ⟨hR, r0, r1, r2, r3, r4, r5, r6, r7, r8, r9, r10, r11, r12, r13, r14, r15, r16, r17, r18, r19, r21, r22, r23, r24, r25, r26⟩
        refine ⟨fun done σ w' a hi hA hC ha hσ ⟨hR, r0, r1, r2, r3, r4, r5, r6, r7, r8, r9, r10, r11, r12, r13, r14, r15, r16, r17, r18, r19, r20, r21, r22, r23, r24, r25, r26⟩ => ?_, ?_⟩
        · simp [After, Region.binds] at hA
          have e0 := r20 hA
          have e1 := rem16 x
          refine stepG_plain rfl fun K hK => ?_
          go_simp
          refine hK _ _ ?_
          simp [mk, up]
          exact ⟨hR, r0, r1, r2, r3, r4, r5, r6, r7, r8, r9, r10, r11, r12, r13, r14, r15, r16, r17, r18, r19, r20, r22, r23, r24, r25, r26⟩
        refine ⟨fun done σ w' a hi hA hC ha hσ ⟨hR, r0, r1, r2, r3, r4, r5, r6, r7, r8, r9, r10, r11, r12, r13, r14, r15, r16, r17, r18, r19, r20, r21, r22, r23, r24, r25, r26⟩ => ?_, ?_⟩
        · simp [After, Region.binds] at hA
          have e0 := r21 hA
          have e1 := add1_lo x
          refine stepG_plain rfl fun K hK => ?_
          go_simp
          refine hK _ _ ?_
          simp [mk, up]
          exact ⟨hR, r0, r1, r2, r3, r4, r5, r6, r7, r8, r9, r10, r11, r12, r13, r14, r15, r16, r17, r18, r19, r20, r21, r23, r24, r25, r26⟩
        refine ⟨fun done σ w' a hi hA hC ha hσ ⟨hR, r0, r1, r2, r3, r4, r5, r6, r7, r8, r9, r10, r11, r12, r13, r14, r15, r16, r17, r18, r19, r20, r21, r22, r23, r24, r25, r26⟩ => ?_, ?_⟩
        · simp [After, Region.binds] at hA
          have e0 := r13 hA.1
          have e1 := r17 hA.2.1
          have e2 := r22 hA.2.2
          have e3 := sl_lo x
          refine stepG_plain rfl fun K hK => ?_
          go_simp
          refine hK _ _ ?_
          simp [mk, up]
          exact ⟨hR, r0, r1, r2, r3, r4, r5, r6, r7, r8, r9, r10, r11, r12, r13, r14, r15, r16, r17, r18, r19, r20, r21, r22, r24, r25, r26⟩
        refine ⟨fun done σ w' a hi hA hC ha hσ ⟨hR, r0, r1, r2, r3, r4, r5, r6, r7, r8, r9, r10, r11, r12, r13, r14, r15, r16, r17, r18, r19, r20, r21, r22, r23, r24, r25, r26⟩ => ?_, ?_⟩
        · simp [After, Region.binds] at hA
          have e0 := r12 hA.1
          have e1 := r23 hA.2
          have e2 := str_add (pre ++ [hexd (x.toNat / 16)]) (hexd (x.toNat % 16))
          refine stepG_plain rfl fun K hK => ?_
          go_simp
          rw [if_neg (by omega), Oper.upon_value]
          refine hK _ _ ?_
          simp [mk, up]
          exact ⟨hR, r0, r1, r2, r3, r4, r5, r6, r7, r8, r9, r10, r11, r12, r13, r14, r15, r16, r17, r18, r19, r20, r21, r22, r23, r25, r26⟩
        refine ⟨fun done σ w' a hi hA hC ha hσ ⟨hR, r0, r1, r2, r3, r4, r5, r6, r7, r8, r9, r10, r11, r12, r13, r14, r15, r16, r17, r18, r19, r20, r21, r22, r23, r24, r25, r26⟩ => ?_, trivial⟩
        · simp [After, Region.binds] at hA
          have e0 := r24 hA.1
          refine stepG_plain rfl fun K hK => ?_
          go_simp
          refine hK _ _ ?_
          simp [mk, up]
          exact ⟨hR, r0, r1, r2, r3, r4, r5, r6, r7, r8, r9, r10, r11, r12, r13, r14, r15, r16, r17, r18, r19, r20, r21, r22, r23, r24⟩
      · rintro done σ w' hall hσ ⟨hR, r0, r1, r2, r3, r4, r5, r6, r7, r8, r9, r10, r11, r12, r13, r14, r15, r16, r17, r18, r19, r20, r21, r22, r23, r24, r25, r26⟩
        have h25 := r25 (hall 25 (by simp))
        simp only [putF, List.foldl_cons, List.foldl_nil, Act.put, List.setIfInBounds_toArray, List.set_cons_succ, List.set_cons_zero]
        rw [h25]
        clear hσ r0 r1 r2 r3 r4 r5 r6 r7 r8 r9 r10 r11 r12 r13 r14 r15 r16 r17 r18 r19 r20 r21 r22 r23 r24 r25 r26 hall h25
        have HR := hd hR
        clear hR
        go_wp2_with fail
        go_roundw
        case rel =>
          refine ⟨k + 1, by omega, by go_num, ?_, (HR.out.block _ hwl).trans HD.out, HB.out.trans (HR.out.mono HB.out.size)⟩
          rw [HNX.out]
        case measure => simp [intOf]; omega
    · obtain rfl : k = 32 := by omega
      have ht : l.take 32 = l := List.take_of_length_le (by omega)
      rw [ht]
      go_wp2_with fail
      go_ret
      exact ⟨rfl, HB.out⟩

end Go.Proofs.Ytolboolbapbniaa
