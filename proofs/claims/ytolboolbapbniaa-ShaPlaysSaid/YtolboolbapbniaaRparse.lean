/- The document's digest of a text. -/
import Derived.Test.YtolboolbapbniaaRtext
namespace Go.Proofs.Ytolboolbapbniaa
open Go.RowKit Sp

theorem sum_dig (a b : Int) (ha : 0 ≤ a) (ha2 : a < 16) (hb : 0 ≤ b) (hb2 : b < 16) : 16 * a + b = ib (UInt8.ofNat (a.toNat * 16 + b.toNat)) := by
  unfold ib
  rw [UInt8.toNat_ofNat']
  omega

attribute [local go_sem ↓] ldSt stSt ldD stD
attribute [local go_sem] run_ldA run_stA arrSt arrD loadX_at loadY_some storeX_at storeY_true wcs_size ones_wcs St.list_length ucs_size ones_ucs dg_length sha_length

set_option maxHeartbeats 4000000 in
set_option maxRecDepth 100000 in
theorem rparse_any (w : World) (s : List UInt8) :
    Calls Try.prog 18 #[.string ⟨s.toArray⟩] w fun e w' => e = .returned (parseV s) ∧ Below w.heap.size w w' := by
  have hsz : (⟨s.toArray⟩ : ByteArray).size = s.length := by simp [ByteArray.size]
  have hrl : (List.replicate 32 (0 : UInt8)).length = 32 := List.length_replicate
  go_enter Try.func18, Try.ntmps18
  go_upto_region 0 with (fail)
  go_cut [2] (fun d wx => d = .pointer (some ⟨w.heap.size, 0, none⟩) ∧ wx.heap[w.heap.size]? = some (.cells (ucs (List.replicate 32 0)) 23 (0, 0)) ∧ wx.heap.size = w.heap.size + 1 ∧ Below w.heap.size w wx)
  case first =>
    go_wp2_with fail
    go_meet
    exact ⟨rfl, heap_alloc_new w _, by simp, (Below.refl _ _).alloc (Nat.le_refl _) _⟩
  case rest =>
    obtain ⟨rfl, hD, hz, hB⟩ := hcut
    have HD := hd hD
    have HB := hd hB
    clear hD hB
    by_cases h64 : s.length = 64
    · have hsz64 : (⟨s.toArray⟩ : ByteArray).size = 64 := by rw [hsz, h64]
      have H64 := hd h64
      clear hsz h64
      go_upto_region 3 with (fail)
      go_cut [4] (fun d wx => d = .pointer (some ⟨w.heap.size + 1, 0, none⟩) ∧ wx.heap[w.heap.size]? = some (.cells (ucs (List.replicate 32 0)) 23 (0, 0)) ∧ wx.heap[w.heap.size + 1]? = some (.cells (ucs (List.replicate 32 0)) 23 (0, 0)) ∧ Below w.heap.size w wx)
      case first =>
        go_wp2_with fail
        go_meet
        exact ⟨by first | rfl | simp [hz], blk_alloc HD.out _, by rw [← hz]; exact heap_alloc_new _ _, HB.out.alloc HB.out.size _⟩
      rename_i wc0
      obtain ⟨rfl, hD, hE, hB⟩ := hcut
      clear HD HB
      have HD := hd hD
      have HE := hd hE
      have HB := hd hB
      clear hD hE hB
      go_wp2_with fail
      go_loopw [5] (fun i wr => ∃ k : Nat, k ≤ 32 ∧ i = .int .i64 k ∧ wr.heap[w.heap.size]? = some (.cells (ucs (List.replicate 32 0)) 23 (0, 0)) ∧ wr.heap[w.heap.size + 1]? = some (.cells (ucs (pk s k)) 23 (0, 0)) ∧ Below w.heap.size w wr ∧ okB s k = true) (fun i _ => 32 - (intOf i).toNat)
      case atStart => exact ⟨0, by omega, rfl, HD.out, HE.out, HB.out, rfl⟩
      case round =>
        obtain ⟨k, hk, rfl, hd1, he1, hb1, hok⟩ := hrel
        clear HD HE HB
        have HD := hd hd1
        have HE := hd he1
        have HB := hd hb1
        have HOK := hd hok
        clear hd1 he1 hb1 hok
        by_cases hlt : k < 32
        · have HI0 : Hid (∀ W, (Instr.index 9 (.string ⟨s.toArray⟩) (.int .i64 (2 * (k : Int)))).run Try.prog W = .ok (.int .u8 (ib (bg s (2 * k)))) W) := hd (fun W => str_index s (2 * k) (by rw [H64.out]; omega) W)
          have HI1 : Hid (∀ W, (Instr.index 9 (.string ⟨s.toArray⟩) (.int .i64 (2 * (k : Int) + 1))).run Try.prog W = .ok (.int .u8 (ib (bg s (2 * k + 1)))) W) := hd (fun W => str_index s (2 * k + 1) (by rw [H64.out]; omega) W)
          have e2k : IntKind.i64.wrap (2 * (k : Int)) = 2 * (k : Int) := IntWalk.i64_in _ (by omega)
          have e2k1 : IntKind.i64.wrap (2 * (k : Int) + 1) = 2 * (k : Int) + 1 := IntWalk.i64_in _ (by omega)
          go_upto_region 7 with (fail)
          refine wp_region_inv [16, 17, 18, 19, 20, 21, 22, 23, 24, 25, 26, 6, 7] (fun done σ w' => Below wr.heap.size wr w' ∧
            (done 0 = true → σ 16 = Value.string ⟨s.toArray⟩) ∧
            (done 1 = true → σ 17 = .int .i64 k) ∧
            (done 2 = true → σ 18 = .int .i64 (2 * (k : Int))) ∧
            (done 3 = true → σ 19 = .int .u8 (ib (bg s (2 * k)))) ∧
            (done 4 = true → σ 20 = .int .i64 (digI (bg s (2 * k)))) ∧
            (done 5 = true → σ 21 = Value.string ⟨s.toArray⟩) ∧
            (done 6 = true → σ 22 = .int .i64 k) ∧
            (done 7 = true → σ 23 = .int .i64 (2 * (k : Int))) ∧
            (done 8 = true → σ 24 = .int .i64 (2 * (k : Int) + 1)) ∧
            (done 9 = true → σ 25 = .int .u8 (ib (bg s (2 * k + 1)))) ∧
            (done 10 = true → σ 26 = .int .i64 (digI (bg s (2 * k + 1)))) ∧
            (done 11 = true → σ 6 = .int .i64 (digI (bg s (2 * k)))) ∧
            (done 12 = true → σ 7 = .int .i64 (digI (bg s (2 * k + 1))))) (by kernel_rfl) (by kernel_rfl) ?_ ?_ ?_
          · simp
            exact Below.drew (Below.refl _ _)
          · refine ⟨fun done σ w' a hi hA hC ha hσ ⟨hR, r0, r1, r2, r3, r4, r5, r6, r7, r8, r9, r10, r11, r12⟩ => ?_, ?_⟩
            · have e0 := hσ 0 (by simp)
              simp only [List.getElem?_toArray] at e0
              refine stepG_plain rfl fun K hK => ?_
              go_simp
              refine hK _ _ ?_
              simp [mk, up]
              exact ⟨hR, r1, r2, r3, r4, r5, r6, r7, r8, r9, r10, r11, r12⟩
            refine ⟨fun done σ w' a hi hA hC ha hσ ⟨hR, r0, r1, r2, r3, r4, r5, r6, r7, r8, r9, r10, r11, r12⟩ => ?_, ?_⟩
            · have e0 := hσ 5 (by simp)
              simp only [List.getElem?_toArray] at e0
              refine stepG_plain rfl fun K hK => ?_
              go_simp
              refine hK _ _ ?_
              simp [mk, up]
              exact ⟨hR, r0, r2, r3, r4, r5, r6, r7, r8, r9, r10, r11, r12⟩
            refine ⟨fun done σ w' a hi hA hC ha hσ ⟨hR, r0, r1, r2, r3, r4, r5, r6, r7, r8, r9, r10, r11, r12⟩ => ?_, ?_⟩
            · simp [After, Region.binds] at hA
              have e0 := r1 hA
              refine stepG_plain rfl fun K hK => ?_
              go_simp
              refine hK _ _ ?_
              simp [mk, up]
              exact ⟨hR, r0, r1, r3, r4, r5, r6, r7, r8, r9, r10, r11, r12⟩
            refine ⟨fun done σ w' a hi hA hC ha hσ ⟨hR, r0, r1, r2, r3, r4, r5, r6, r7, r8, r9, r10, r11, r12⟩ => ?_, ?_⟩
            · simp [After, Region.binds] at hA
              have e0 := r0 hA.1
              have e1 := r2 hA.2
              have e2 := HI0.out
              refine stepG_plain rfl fun K hK => ?_
              go_simp
              refine hK _ _ ?_
              simp [mk, up]
              exact ⟨hR, r0, r1, r2, r4, r5, r6, r7, r8, r9, r10, r11, r12⟩
            refine ⟨fun done σ w' a hi hA hC ha hσ ⟨hR, r0, r1, r2, r3, r4, r5, r6, r7, r8, r9, r10, r11, r12⟩ => ?_, ?_⟩
            · simp [After, Region.binds] at hA
              have e0 := r3 hA
              have HC := hd (digit_any w' (bg s (2 * k)))
              refine stepG_plain rfl fun K hK => ?_
              go_simp
              refine HC.out.mono ?_
              rintro e w2 ⟨rfl, rfl⟩
              refine hK _ _ ?_
              simp [mk, up]
              exact ⟨hR, r0, r1, r2, r3, r5, r6, r7, r8, r9, r10, r11, r12⟩
            refine ⟨fun done σ w' a hi hA hC ha hσ ⟨hR, r0, r1, r2, r3, r4, r5, r6, r7, r8, r9, r10, r11, r12⟩ => ?_, ?_⟩
            · have e0 := hσ 0 (by simp)
              simp only [List.getElem?_toArray] at e0
              refine stepG_plain rfl fun K hK => ?_
              go_simp
              refine hK _ _ ?_
              simp [mk, up]
              exact ⟨hR, r0, r1, r2, r3, r4, r6, r7, r8, r9, r10, r11, r12⟩
            refine ⟨fun done σ w' a hi hA hC ha hσ ⟨hR, r0, r1, r2, r3, r4, r5, r6, r7, r8, r9, r10, r11, r12⟩ => ?_, ?_⟩
            · have e0 := hσ 5 (by simp)
              simp only [List.getElem?_toArray] at e0
              refine stepG_plain rfl fun K hK => ?_
              go_simp
              refine hK _ _ ?_
              simp [mk, up]
              exact ⟨hR, r0, r1, r2, r3, r4, r5, r7, r8, r9, r10, r11, r12⟩
            refine ⟨fun done σ w' a hi hA hC ha hσ ⟨hR, r0, r1, r2, r3, r4, r5, r6, r7, r8, r9, r10, r11, r12⟩ => ?_, ?_⟩
            · simp [After, Region.binds] at hA
              have e0 := r6 hA
              refine stepG_plain rfl fun K hK => ?_
              go_simp
              refine hK _ _ ?_
              simp [mk, up]
              exact ⟨hR, r0, r1, r2, r3, r4, r5, r6, r8, r9, r10, r11, r12⟩
            refine ⟨fun done σ w' a hi hA hC ha hσ ⟨hR, r0, r1, r2, r3, r4, r5, r6, r7, r8, r9, r10, r11, r12⟩ => ?_, ?_⟩
            · simp [After, Region.binds] at hA
              have e0 := r7 hA
              refine stepG_plain rfl fun K hK => ?_
              go_simp
              refine hK _ _ ?_
              simp [mk, up]
              exact ⟨hR, r0, r1, r2, r3, r4, r5, r6, r7, r9, r10, r11, r12⟩
            refine ⟨fun done σ w' a hi hA hC ha hσ ⟨hR, r0, r1, r2, r3, r4, r5, r6, r7, r8, r9, r10, r11, r12⟩ => ?_, ?_⟩
            · simp [After, Region.binds] at hA
              have e0 := r5 hA.1
              have e1 := r8 hA.2
              have e2 := HI1.out
              refine stepG_plain rfl fun K hK => ?_
              go_simp
              refine hK _ _ ?_
              simp [mk, up]
              exact ⟨hR, r0, r1, r2, r3, r4, r5, r6, r7, r8, r10, r11, r12⟩
            refine ⟨fun done σ w' a hi hA hC ha hσ ⟨hR, r0, r1, r2, r3, r4, r5, r6, r7, r8, r9, r10, r11, r12⟩ => ?_, ?_⟩
            · simp [After, Region.binds] at hA
              have e0 := r9 hA.1
              have HC := hd (digit_any w' (bg s (2 * k + 1)))
              refine stepG_plain rfl fun K hK => ?_
              go_simp
              refine HC.out.mono ?_
              rintro e w2 ⟨rfl, rfl⟩
              refine hK _ _ ?_
              simp [mk, up]
              exact ⟨hR, r0, r1, r2, r3, r4, r5, r6, r7, r8, r9, r11, r12⟩
            refine ⟨fun done σ w' a hi hA hC ha hσ ⟨hR, r0, r1, r2, r3, r4, r5, r6, r7, r8, r9, r10, r11, r12⟩ => ?_, ?_⟩
            · simp [After, Region.binds] at hA
              have e0 := r4 hA.1
              refine stepG_plain rfl fun K hK => ?_
              go_simp
              refine hK _ _ ?_
              simp [mk, up]
              exact ⟨hR, r0, r1, r2, r3, r4, r5, r6, r7, r8, r9, r10, r12⟩
            refine ⟨fun done σ w' a hi hA hC ha hσ ⟨hR, r0, r1, r2, r3, r4, r5, r6, r7, r8, r9, r10, r11, r12⟩ => ?_, trivial⟩
            · simp [After, Region.binds] at hA
              have e0 := r10 hA.1
              refine stepG_plain rfl fun K hK => ?_
              go_simp
              refine hK _ _ ?_
              simp [mk, up]
              exact ⟨hR, r0, r1, r2, r3, r4, r5, r6, r7, r8, r9, r10, r11⟩
          · rintro done σ w' hall hσ ⟨hR, r0, r1, r2, r3, r4, r5, r6, r7, r8, r9, r10, r11, r12⟩
            have h15 := r11 (hall 11 (by simp))
            have h16 := r12 (hall 12 (by simp))
            simp only [putF, List.foldl_cons, List.foldl_nil, Act.put, List.setIfInBounds_toArray, List.set_cons_succ, List.set_cons_zero]
            rw [h15, h16]
            clear hσ r0 r1 r2 r3 r4 r5 r6 r7 r8 r9 r10 r11 r12 hall h15 h16 HI0 HI1
            have hD3 := (hR.block _ (blk_lt HD.out)).trans HD.out
            have hE3 := (hR.block _ (blk_lt HE.out)).trans HE.out
            have HB3 := hd (HB.out.trans (hR.mono HB.out.size))
            have hdlt : w.heap.size < w'.heap.size := blk_lt hD3
            have hcan := can_row (o := 0) (n := 32) hD3 (by simp [ucs_size])
            have hokS := okB_succ s k
            rw [HOK.out, Bool.true_and] at hokS
            have hpb : pb s k = UInt8.ofNat ((digI (bg s (2 * k))).toNat * 16 + (digI (bg s (2 * k + 1))).toNat) := rfl
            have hal := digI_lo (bg s (2 * k))
            have hah := digI_hi (bg s (2 * k))
            have hbl := digI_lo (bg s (2 * k + 1))
            have hbh := digI_hi (bg s (2 * k + 1))
            revert hokS hpb hal hah hbl hbh
            generalize digI (bg s (2 * k)) = a
            generalize digI (bg s (2 * k + 1)) = b
            intro hokS hpb hal hah hbl hbh
            have HD3 := hd hD3
            have HE3 := hd hE3
            clear hD3 hE3 hR
            have HP := hd hpb
            have HO := hd hokS
            clear hpb hokS
            by_cases ha0 : a < 0
            · have hno := hd (parse_no s (k + 1) (by omega) (by rw [HO.out]; simp; omega))
              go_wp2_with (refine wpList_built rfl 23 _ rfl (ucs (List.replicate 32 0)) (by kernel_rfl) ?_)
              have hrow := putSub_row (c := ucs (List.replicate 32 0)) HD3.out rfl
              refine bodyPost_ret (ret_row2 rfl (n := 32) (by kernel_rfl) _ _ w.heap.size 0 (ucs (List.replicate 32 0)) rfl _ rfl (sub_row hrow (by simp [ucs_size]))) rfl ⟨by rw [hno.out]; rfl, Below.putSub HB3.out (Nat.le_refl _)⟩
            · have ha1 : 0 ≤ a := by omega
              clear ha0
              by_cases hb0 : b < 0
              · have hno := hd (parse_no s (k + 1) (by omega) (by rw [HO.out]; simp; omega))
                go_wp2_with (refine wpList_built rfl 23 _ rfl (ucs (List.replicate 32 0)) (by kernel_rfl) ?_)
                have hrow := putSub_row (c := ucs (List.replicate 32 0)) HD3.out rfl
                refine bodyPost_ret (ret_row2 rfl (n := 32) (by kernel_rfl) _ _ w.heap.size 0 (ucs (List.replicate 32 0)) rfl _ rfl (sub_row hrow (by simp [ucs_size]))) rfl ⟨by rw [hno.out]; rfl, Below.putSub HB3.out (Nat.le_refl _)⟩
              · have hb1 : 0 ≤ b := by omega
                clear hb0
                have hcell := (blk_cell HE3.out k).trans (ucs_get _ _ (by rw [pk_length _ _ hk]; omega))
                have hf := blk_frozen HE3.out k
                have hval : 16 * a + b = ib (pb s k) := by rw [HP.out]; exact sum_dig a b ha1 hah hb1 hbh
                have hset := blk_set HE3.out k (.int .u8 (ib (pb s k)))
                rw [ucs_set, pk_set s k hlt, ← hval] at hset
                have HSET := hd hset
                clear hset hval
                go_wp2_with fail
                go_roundw
                case rel => exact ⟨k + 1, by omega, by go_num, blk_far HD3.out (by show w.heap.size ≠ w.heap.size + 1; omega) _, HSET.out, HB3.out.setCell (by show w.heap.size ≤ w.heap.size + 1; omega) _, by rw [HO.out]; simp; omega⟩
                case measure => simp [intOf]; omega
        · obtain rfl : k = 32 := by omega
          have hsub := sub_row (n := 32) HE.out (by rw [ucs_size, pk_length _ _ hk])
          have hcan := can_row (o := 0) (n := 32) HD.out (by simp [ucs_size])
          have hpl : (pk s 32).length = 32 := pk_length s 32 hk
          have hyes := hd (parse_yes s H64.out HOK.out)
          go_wp2_with fail
          have hrow := putSub_row (c := ucs (pk s 32)) HD.out (by simp [ucs_size, hpl])
          refine bodyPost_ret (ret_row2 rfl (n := 32) (by kernel_rfl) _ _ w.heap.size 0 (ucs (pk s 32)) rfl _ rfl (sub_row hrow (by simp [ucs_size, hpl]))) rfl ⟨by rw [hyes.out]; rfl, Below.putSub HB.out (Nat.le_refl _)⟩
    · have hno := hd (parse_len s h64)
      have h64I : ((s.length : Int) != 64) = true := by simp; omega
      have hcan := can_row (o := 0) (n := 32) HD.out (by simp [ucs_size])
      clear h64
      go_wp2_with (refine wpList_built rfl 23 _ rfl (ucs (List.replicate 32 0)) (by kernel_rfl) ?_)
      have hrow := putSub_row (c := ucs (List.replicate 32 0)) HD.out rfl
      refine bodyPost_ret (ret_row2 rfl (n := 32) (by kernel_rfl) _ _ w.heap.size 0 (ucs (List.replicate 32 0)) rfl _ rfl (sub_row hrow (by simp [ucs_size]))) rfl ⟨by rw [hno.out]; rfl, Below.putSub HB.out (Nat.le_refl _)⟩

end Go.Proofs.Ytolboolbapbniaa
