/- The law MerkleLike, walked. -/
import Derived.Test.YtjfplkndngmgdaaGE
namespace Go.Proofs.Ytjfplkndngmgdaa
set_option maxRecDepth 20000
open Go.RowKit Go.Shelf Sp

attribute [local go_sem ↓] ldD stD
attribute [local go_sem] run_ldA run_stA arrD loadX_at loadY_some storeX_at storeY_true ucs_size ones_ucs sha_length
attribute [local go_sem] fold_fill

theorem llike_out (w : World) (d : Dg) (n : Int) (h : n < 1 ∨ 16 < n) :
    Calls Try.prog 10 #[.agg (ucs d), .int .i64 n] w fun e w' => e = .returned (.bool true) ∧ Below w.heap.size w w' := by
  have hb0 : Below w.heap.size w (w.alloc (.cells (ucs d) 35)) := (Below.refl _ _).alloc (Nat.le_refl _) _
  have HB0 := hd hb0
  have HZ0 := hd hb0.size
  clear hb0
  by_cases h1 : n < 1
  · clear h
    go_enter Try.func10, Try.ntmps10
    go_wp2_with (go_at_call 16; refine (works_any _).mono ?_; rintro e w4 ⟨rfl, hb4⟩; have HB4 := hd hb4; clear hb4)
    go_ret
    exact ⟨rfl, HB0.out.trans (HB4.out.mono HZ0.out)⟩
  · have h2 : 16 < n := by omega
    clear h
    go_enter Try.func10, Try.ntmps10
    go_wp2_with (go_at_call 16; refine (works_any _).mono ?_; rintro e w4 ⟨rfl, hb4⟩; have HB4 := hd hb4; clear hb4)
    go_ret
    exact ⟨rfl, HB0.out.trans (HB4.out.mono HZ0.out)⟩

set_option maxHeartbeats 4000000 in
set_option maxRecDepth 100000 in
theorem llike_in (w : World) (d : Dg) (hd0 : d.length = 32) (n : Nat) (h0 : 0 < n) (h16 : n ≤ 16) :
    Calls Try.prog 10 #[.agg (ucs d), .int .i64 (n : Int)] w fun e w' => e = .returned (.bool true) ∧ Below w.heap.size w w' := by
  have h1I : ¬ (n : Int) < 1 := by omega
  have h2I : ¬ (16 : Int) < (n : Int) := by omega
  have h32 : ∀ k, All32 (List.replicate k d) := fun k x hx => by rw [List.eq_of_mem_replicate hx]; exact hd0
  have HA := hd h32
  clear h32
  go_enter Try.func10, Try.ntmps10
  go_upto_region 0 with (fail)
  go_cut [2, 4] from 2 to 4 (fun v3 v4 wx => v3 = .pointer (some ⟨w.heap.size, 0, none⟩) ∧ v4 = .bool false ∧ wx.heap[w.heap.size]? = some (.cells (ucs d) 35 (0, 0)) ∧ Below w.heap.size w wx)
  case first =>
    go_wp2_with fail
    go_meet
    exact ⟨rfl, rfl, heap_alloc_new w _, (Below.refl _ _).alloc (Nat.le_refl _) _⟩
  case rest =>
    obtain ⟨rfl, rfl, hD, hB⟩ := hcut
    obtain ⟨wz, rfl⟩ : ∃ wz : World, wz = wc := ⟨_, rfl⟩
    have HD := hd hD
    have HBz := hd hB
    have hszz := hB.size
    have hltz := blk_lt hD
    clear hD hB
    go_upto_block 0 with (fail)
    go_cut [5, 6] from 18 to 26 (fun v5 _ wx => ∃ A5 c5, v5 = .slice A5 n c5 ∧ SlD wx (.slice A5 n c5) (List.replicate n d) n ∧ Below wz.heap.size wz wx)
    case first =>
      go_wp2_with fail
      go_loopw [5, 6] (fun x y wr => ∃ (k : Nat) (A5 : Option Addr) (c5 : Nat), x = .slice A5 k c5 ∧ y = .int .i64 (k : Int) ∧ k ≤ n ∧ wr.ownsRow wz.heap.size 35 32 (.slice A5 k c5) k (dcs (List.replicate k d)) ∧ Below wz.heap.size wz wr) (fun _ y _ => n - (intOf y).toNat)
      case atStart => exact ⟨0, none, 0, rfl, rfl, Nat.zero_le _, World.ownsRow_nil _ _ _ _, Below.refl _ _⟩
      case round =>
        obtain ⟨k, A5, c5, rfl, rfl, hk, hown, hbr⟩ := hrel
        by_cases hlt : k < n
        · have hltI : (k : Int) < (n : Int) := by omega
          have hsub := sub_row (n := 32) ((hbr.block _ hltz).trans HD.out) (by rw [ucs_size, hd0])
          have HO := hd hown
          have HBR := hd hbr
          have hszr := hbr.size
          have HOA := hd (own_below hown ((Below.refl wr.heap.size wr).alloc (Nat.le_refl _) (.cells (ucs d) 35)))
          have HREP := hd (show List.replicate (k + 1) d = List.replicate k d ++ [d] from List.replicate_succ')
          clear hown hbr
          go_wp2_with (at_builtin; refine wpList_app rfl (.tmp 23) (.tmp 25) 30 rfl wz.heap.size 35 (.agg (ucs (List.replicate 32 0))) 32 32 (by kernel_rfl) infoD rfl (by decide) (.slice A5 k c5) k _ rfl HOA.out (some ⟨wr.heap.size, 0, none⟩) 1 1 (dcs [d]) rfl (by rw [dcs_single, bcs_length, hd0]) (fun e => nomatch e) (by rw [dcs_single]; exact row_cl (heap_alloc_new wr _)) (dcs_one _) (by unfold maxLen; omega) (by omega) (by simp; omega) ?_; intro v8 w8 ho8 hg8 _; rw [← dcs_append] at ho8; obtain ⟨A8, c8, rfl, _⟩ := own_cl ho8; have HO8 := hd ho8; have HG8 := hd hg8; clear ho8 hg8)
          go_roundw
          case rel =>
            refine ⟨k + 1, A8, c8, rfl, by go_num, by omega, by rw [HREP.out]; exact HO8.out, ?_⟩
            have h1 : Below wz.heap.size wz (wr.alloc (.cells (ucs d) 35)) := HBR.out.alloc hszr _
            exact h1.grown HG8.out h1.size (fun i hi => (HO.out.lt i hi).1)
          case measure => simp [intOf]; omega
        · obtain rfl : k = n := by omega
          have hge : ¬ (k : Int) < (k : Int) := by omega
          have HO := hd (own_sld hown (HA.out k))
          have HBR := hd hbr
          clear hown hbr
          go_wp2_with fail
          go_meet
          exact ⟨A5, c5, rfl, HO.out, HBR.out⟩
    case rest =>
      obtain ⟨A5, c5, rfl, hs, hb5⟩ := hcut
      obtain ⟨wa, rfl⟩ : ∃ wa : World, wa = wc := ⟨_, rfl⟩
      have HS := hd hs
      have HBa := hd (HBz.out.trans (hb5.mono hszz))
      have hsza := HBa.out.size
      have HNEW := hd (newt_any wa A5 n c5 _ hs h0 h16)
      have hlen : (List.replicate n d).length = n := List.length_replicate
      obtain ⟨ds, hds⟩ : ∃ ds, List.replicate n d = ds := ⟨_, rfl⟩
      rw [hds] at HS HNEW hlen
      have HLEN := hd hlen
      clear hs hb5 hds HA hlen
      go_upto_region 8 with (fail)
      go_cut [7, 8] from 27 to 31 (fun v7 v8 wx => ∃ g, v7 = .pointer (some ⟨g, 0, none⟩) ∧ v8 = .int .i64 0 ∧ TreeAt wx wa.heap.size wx.heap.size g ds ∧ Below wa.heap.size wa wx)
      case first =>
        go_wp2_with (go_at_call 17; refine HNEW.out.mono ?_; rintro e w1 ⟨g, rfl, ht, hb1⟩; have HT := hd ht; have HB1 := hd hb1; clear ht hb1)
        go_meet
        exact ⟨g, rfl, rfl, HT.out, HB1.out⟩
      case rest =>
        obtain ⟨g, rfl, rfl, ht, hb⟩ := hcut
        obtain ⟨wb, rfl⟩ : ∃ wb : World, wb = wc := ⟨_, rfl⟩
        have HB := hd (HBa.out.trans (hb.mono hsza))
        have hszb := HB.out.size
        have HT := hd ht
        have HSb := hd (HS.out.below hb)
        have hr32 : (rootOf ds).length = 32 := by
          have hl := HLEN.out
          obtain ⟨L, hLk⟩ : ∃ d, ds[0]? = some d := ⟨ds[0]'(by omega), List.getElem?_eq_getElem (by omega)⟩
          have h1 := upAll32 (oths 0 ds.length) (mrk L) (pathOf ds 0) (mrk_length L)
          rw [leads ds 0 L hLk] at h1
          exact h1
        obtain ⟨r, hr⟩ : ∃ r, rootOf ds = r := ⟨_, rfl⟩
        rw [hr] at hr32
        have HROOT := hd (show Calls Try.prog 18 #[.pointer (some ⟨g, 0, none⟩)] wb fun e w' => e = .returned (.tuple #[.agg (ucs r), .int .i64 0]) ∧ Below wb.heap.size wb w' from by
          have h5 := root_any wb _ _ g ds ht (by rw [HLEN.out]; exact h0) (by rw [HLEN.out]; exact h16)
          rwa [hr] at h5)
        have HRR := hd (fun (W : World) (hW : Below wb.heap.size wb W) => show Calls Try.prog 26 #[.slice A5 n c5] W fun e w' => e = .returned (.agg (ucs r)) ∧ Below W.heap.size W w' from by
          have h5 := rroot_any W A5 n c5 ds (HSb.out.below hW) h0 h16
          rwa [hr] at h5)
        have HLN := hd (fun (W : World) (hW : Below wb.heap.size wb W) => show Calls Try.prog 27 #[.pointer (some ⟨g, 0, none⟩)] W fun e w' => e = .returned (.int .i64 (n : Int)) ∧ W = w' from by
          have h5 := tlen_tree W _ _ g ds (HT.out.below (Nat.le_refl _) hW) (by rw [HLEN.out]; exact h0)
          rwa [HLEN.out] at h5)
        clear ht hb hr HNEW HS
        go_upto_region 9 with (fail)
        go_cut [9, 10] from 32 to 36 (fun v12 v13 wx => ∃ D1, v12 = .pointer (some ⟨D1, 0, none⟩) ∧ v13 = .int .i64 0 ∧ wx.heap[D1]? = some (.cells (ucs r) 35 (0, 0)) ∧ Below wb.heap.size wb wx)
        case first =>
          go_wp2_with (go_at_call 18; refine HROOT.out.mono ?_; rintro e w4 ⟨rfl, hb4⟩; have HB4 := hd hb4; have hcan := can_row (o := 0) (n := 32) (heap_alloc_new w4 (.cells (ucs (List.replicate 32 0)) 35)) (by simp [ucs_size]); clear hb4)
          go_meet
          exact ⟨w4.heap.size, rfl, rfl, heap_alloc_new w4 _, HB4.out.alloc HB4.out.size _⟩
        case rest =>
          obtain ⟨D1, rfl, rfl, hd1, hb1⟩ := hcut
          obtain ⟨we, rfl⟩ : ∃ we : World, we = wc := ⟨_, rfl⟩
          have HB1 := hd hb1
          have HB9 := hd (HB.out.trans (hb1.mono hszb))
          have hx1 := sub_row (n := 32) hd1 (by rw [ucs_size, hr32])
          have t1 := blk_lt hd1
          have hq : ∀ W : World, (Op.equalIn 10000 35 (.agg (ucs r)) (.agg (ucs r))).run Try.prog W = .ok true W := fun W => by
            have h := eq_dig r r hr32 hr32 W
            rwa [decide_eq_true rfl] at h
          have HQ := hd hq
          have wz0 : IntKind.i64.wrap 0 = 0 := by decide
          clear hd1 hb1 hq
          go_wp2_with fail
          refine wp_region_inv [37, 38, 39, 40, 41, 42, 43, 44, 45, 46, 47, 48, 49, 50, 51, 52, 53, 54, 55, 56, 57, 4] (fun done σ w' => Below we.heap.size we w' ∧
            (done 0 = true → σ 37 = .int .i64 0) ∧
            (done 1 = true → σ 38 = .int .i64 0) ∧
            (done 2 = true → σ 39 = .int .i64 0) ∧
            (done 3 = true → σ 40 = .int .i64 0) ∧
            (done 4 = true → σ 41 = .int .i64 0) ∧
            (done 5 = true → σ 42 = .bool true) ∧
            (done 6 = true → σ 43 = .bool true) ∧
            (done 7 = true → σ 44 = .agg (ucs r)) ∧
            (done 8 = true → σ 45 = .slice A5 n c5) ∧
            (done 9 = true → σ 46 = .agg (ucs r)) ∧
            (done 10 = true → σ 47 = .bool true) ∧
            (done 11 = true → σ 48 = .bool true) ∧
            (done 12 = true → σ 49 = .bool true) ∧
            (done 13 = true → σ 50 = .pointer (some ⟨g, 0, none⟩)) ∧
            (done 14 = true → σ 51 = .int .i64 (n : Int)) ∧
            (done 15 = true → σ 52 = .int .i64 (n : Int)) ∧
            (done 16 = true → σ 53 = .bool true) ∧
            (done 17 = true → σ 54 = .bool true) ∧
            (done 18 = true → σ 55 = .bool true) ∧
            (done 19 = true → σ 56 = .bool true) ∧
            (done 20 = true → σ 57 = .bool true) ∧
            (done 21 = true → σ 4 = .bool true)) (by kernel_rfl) (by kernel_rfl) ?_ ?_ ?_
          · simp
            exact Below.drew (Below.refl _ _)
          · refine ⟨fun done σ w' a hi hA hC ha hσ ⟨hR, r0, r1, r2, r3, r4, r5, r6, r7, r8, r9, r10, r11, r12, r13, r14, r15, r16, r17, r18, r19, r20, r21⟩ => ?_, ?_⟩
            · have e0 := hσ 8 (by simp)
              simp only [List.getElem?_toArray] at e0
              refine stepG_plain rfl fun K hK => ?_
              go_simp
              refine hK _ _ ?_
              simp [mk, up]
              exact ⟨hR, r1, r2, r3, r4, r5, r6, r7, r8, r9, r10, r11, r12, r13, r14, r15, r16, r17, r18, r19, r20, r21⟩
            refine ⟨fun done σ w' a hi hA hC ha hσ ⟨hR, r0, r1, r2, r3, r4, r5, r6, r7, r8, r9, r10, r11, r12, r13, r14, r15, r16, r17, r18, r19, r20, r21⟩ => ?_, ?_⟩
            · simp [After, Region.binds] at hA
              have e0 := r0 (by first | exact hA | exact hA.1 | exact hA.2 | exact hA.2.1 | exact hA.2.2 | exact hA.2.2.1 | exact hA.2.2.2 | exact hA.2.2.2.1 | exact hA.2.2.2.2 | exact hA.2.2.2.2.1 | exact hA.2.2.2.2.2 | exact hA.2.2.2.2.2.1 | exact hA.2.2.2.2.2.2 | exact hA.2.2.2.2.2.2.1 | exact hA.2.2.2.2.2.2.2 | exact hA.2.2.2.2.2.2.2.1 | exact hA.2.2.2.2.2.2.2.2 | exact hA.2.2.2.2.2.2.2.2.1 | exact hA.2.2.2.2.2.2.2.2.2)
              refine stepG_plain rfl fun K hK => ?_
              go_simp
              refine (num_any w' 0).mono ?_
              rintro e w2 ⟨rfl, rfl⟩
              refine hK _ _ ?_
              simp [mk, up]
              exact ⟨hR, r0, r2, r3, r4, r5, r6, r7, r8, r9, r10, r11, r12, r13, r14, r15, r16, r17, r18, r19, r20, r21⟩
            refine ⟨fun done σ w' a hi hA hC ha hσ ⟨hR, r0, r1, r2, r3, r4, r5, r6, r7, r8, r9, r10, r11, r12, r13, r14, r15, r16, r17, r18, r19, r20, r21⟩ => ?_, ?_⟩
            · have e0 := hσ 10 (by simp)
              simp only [List.getElem?_toArray] at e0
              refine stepG_plain rfl fun K hK => ?_
              go_simp
              refine hK _ _ ?_
              simp [mk, up]
              exact ⟨hR, r0, r1, r3, r4, r5, r6, r7, r8, r9, r10, r11, r12, r13, r14, r15, r16, r17, r18, r19, r20, r21⟩
            refine ⟨fun done σ w' a hi hA hC ha hσ ⟨hR, r0, r1, r2, r3, r4, r5, r6, r7, r8, r9, r10, r11, r12, r13, r14, r15, r16, r17, r18, r19, r20, r21⟩ => ?_, ?_⟩
            · simp [After, Region.binds] at hA
              have e0 := r2 (by first | exact hA | exact hA.1 | exact hA.2 | exact hA.2.1 | exact hA.2.2 | exact hA.2.2.1 | exact hA.2.2.2 | exact hA.2.2.2.1 | exact hA.2.2.2.2 | exact hA.2.2.2.2.1 | exact hA.2.2.2.2.2 | exact hA.2.2.2.2.2.1 | exact hA.2.2.2.2.2.2 | exact hA.2.2.2.2.2.2.1 | exact hA.2.2.2.2.2.2.2 | exact hA.2.2.2.2.2.2.2.1 | exact hA.2.2.2.2.2.2.2.2 | exact hA.2.2.2.2.2.2.2.2.1 | exact hA.2.2.2.2.2.2.2.2.2)
              refine stepG_plain rfl fun K hK => ?_
              go_simp
              refine (num_any w' 0).mono ?_
              rintro e w2 ⟨rfl, rfl⟩
              refine hK _ _ ?_
              simp [mk, up]
              exact ⟨hR, r0, r1, r2, r4, r5, r6, r7, r8, r9, r10, r11, r12, r13, r14, r15, r16, r17, r18, r19, r20, r21⟩
            refine ⟨fun done σ w' a hi hA hC ha hσ ⟨hR, r0, r1, r2, r3, r4, r5, r6, r7, r8, r9, r10, r11, r12, r13, r14, r15, r16, r17, r18, r19, r20, r21⟩ => ?_, ?_⟩
            · simp [After, Region.binds] at hA
              have e0 := r1 (by first | exact hA | exact hA.1 | exact hA.2 | exact hA.2.1 | exact hA.2.2 | exact hA.2.2.1 | exact hA.2.2.2 | exact hA.2.2.2.1 | exact hA.2.2.2.2 | exact hA.2.2.2.2.1 | exact hA.2.2.2.2.2 | exact hA.2.2.2.2.2.1 | exact hA.2.2.2.2.2.2 | exact hA.2.2.2.2.2.2.1 | exact hA.2.2.2.2.2.2.2 | exact hA.2.2.2.2.2.2.2.1 | exact hA.2.2.2.2.2.2.2.2 | exact hA.2.2.2.2.2.2.2.2.1 | exact hA.2.2.2.2.2.2.2.2.2)
              have e1 := r3 (by first | exact hA | exact hA.1 | exact hA.2 | exact hA.2.1 | exact hA.2.2 | exact hA.2.2.1 | exact hA.2.2.2 | exact hA.2.2.2.1 | exact hA.2.2.2.2 | exact hA.2.2.2.2.1 | exact hA.2.2.2.2.2 | exact hA.2.2.2.2.2.1 | exact hA.2.2.2.2.2.2 | exact hA.2.2.2.2.2.2.1 | exact hA.2.2.2.2.2.2.2 | exact hA.2.2.2.2.2.2.2.1 | exact hA.2.2.2.2.2.2.2.2 | exact hA.2.2.2.2.2.2.2.2.1 | exact hA.2.2.2.2.2.2.2.2.2)
              refine stepG_plain rfl fun K hK => ?_
              go_simp
              refine hK _ _ ?_
              simp [mk, up]
              exact ⟨hR, r0, r1, r2, r3, r5, r6, r7, r8, r9, r10, r11, r12, r13, r14, r15, r16, r17, r18, r19, r20, r21⟩
            refine ⟨fun done σ w' a hi hA hC ha hσ ⟨hR, r0, r1, r2, r3, r4, r5, r6, r7, r8, r9, r10, r11, r12, r13, r14, r15, r16, r17, r18, r19, r20, r21⟩ => ?_, ?_⟩
            · simp [After, Region.binds] at hA
              have e0 := r4 (by first | exact hA | exact hA.1 | exact hA.2 | exact hA.2.1 | exact hA.2.2 | exact hA.2.2.1 | exact hA.2.2.2 | exact hA.2.2.2.1 | exact hA.2.2.2.2 | exact hA.2.2.2.2.1 | exact hA.2.2.2.2.2 | exact hA.2.2.2.2.2.1 | exact hA.2.2.2.2.2.2 | exact hA.2.2.2.2.2.2.1 | exact hA.2.2.2.2.2.2.2 | exact hA.2.2.2.2.2.2.2.1 | exact hA.2.2.2.2.2.2.2.2 | exact hA.2.2.2.2.2.2.2.2.1 | exact hA.2.2.2.2.2.2.2.2.2)
              refine stepG_plain rfl fun K hK => ?_
              go_simp
              refine hK _ _ ?_
              simp [mk, up]
              exact ⟨hR, r0, r1, r2, r3, r4, r6, r7, r8, r9, r10, r11, r12, r13, r14, r15, r16, r17, r18, r19, r20, r21⟩
            refine ⟨fun done σ w' a hi hA hC ha hσ ⟨hR, r0, r1, r2, r3, r4, r5, r6, r7, r8, r9, r10, r11, r12, r13, r14, r15, r16, r17, r18, r19, r20, r21⟩ => ?_, ?_⟩
            · simp [After, Region.binds] at hA
              have e0 := r5 (by first | exact hA | exact hA.1 | exact hA.2 | exact hA.2.1 | exact hA.2.2 | exact hA.2.2.1 | exact hA.2.2.2 | exact hA.2.2.2.1 | exact hA.2.2.2.2 | exact hA.2.2.2.2.1 | exact hA.2.2.2.2.2 | exact hA.2.2.2.2.2.1 | exact hA.2.2.2.2.2.2 | exact hA.2.2.2.2.2.2.1 | exact hA.2.2.2.2.2.2.2 | exact hA.2.2.2.2.2.2.2.1 | exact hA.2.2.2.2.2.2.2.2 | exact hA.2.2.2.2.2.2.2.2.1 | exact hA.2.2.2.2.2.2.2.2.2)
              refine stepG_plain rfl fun K hK => ?_
              go_simp
              refine hK _ _ ?_
              simp [mk, up]
              exact ⟨hR, r0, r1, r2, r3, r4, r5, r7, r8, r9, r10, r11, r12, r13, r14, r15, r16, r17, r18, r19, r20, r21⟩
            refine ⟨fun done σ w' a hi hA hC ha hσ ⟨hR, r0, r1, r2, r3, r4, r5, r6, r7, r8, r9, r10, r11, r12, r13, r14, r15, r16, r17, r18, r19, r20, r21⟩ => ?_, ?_⟩
            · simp [After, Region.binds] at hA
              have e0 := hσ 9 (by simp)
              simp only [List.getElem?_toArray] at e0
              have e9 := (sub_of_heap (hR.block _ t1)).trans hx1
              refine stepG_on 6 43 rfl rfl (r6 (by first | exact hA | exact hA.1 | exact hA.2 | exact hA.2.1 | exact hA.2.2 | exact hA.2.2.1 | exact hA.2.2.2 | exact hA.2.2.2.1 | exact hA.2.2.2.2 | exact hA.2.2.2.2.1 | exact hA.2.2.2.2.2 | exact hA.2.2.2.2.2.1 | exact hA.2.2.2.2.2.2 | exact hA.2.2.2.2.2.2.1 | exact hA.2.2.2.2.2.2.2 | exact hA.2.2.2.2.2.2.2.1 | exact hA.2.2.2.2.2.2.2.2 | exact hA.2.2.2.2.2.2.2.2.1 | exact hA.2.2.2.2.2.2.2.2.2)) ha fun K hK => ?_
              go_simp
              refine hK _ _ ?_
              simp [mk, up]
              exact ⟨hR, r0, r1, r2, r3, r4, r5, r6, r8, r9, r10, r11, r12, r13, r14, r15, r16, r17, r18, r19, r20, r21⟩
            refine ⟨fun done σ w' a hi hA hC ha hσ ⟨hR, r0, r1, r2, r3, r4, r5, r6, r7, r8, r9, r10, r11, r12, r13, r14, r15, r16, r17, r18, r19, r20, r21⟩ => ?_, ?_⟩
            · simp [After, Region.binds] at hA
              have e0 := hσ 5 (by simp)
              simp only [List.getElem?_toArray] at e0
              refine stepG_on 6 43 rfl rfl (r6 (by first | exact hA | exact hA.1 | exact hA.2 | exact hA.2.1 | exact hA.2.2 | exact hA.2.2.1 | exact hA.2.2.2 | exact hA.2.2.2.1 | exact hA.2.2.2.2 | exact hA.2.2.2.2.1 | exact hA.2.2.2.2.2 | exact hA.2.2.2.2.2.1 | exact hA.2.2.2.2.2.2 | exact hA.2.2.2.2.2.2.1 | exact hA.2.2.2.2.2.2.2 | exact hA.2.2.2.2.2.2.2.1 | exact hA.2.2.2.2.2.2.2.2 | exact hA.2.2.2.2.2.2.2.2.1 | exact hA.2.2.2.2.2.2.2.2.2)) ha fun K hK => ?_
              go_simp
              refine hK _ _ ?_
              simp [mk, up]
              exact ⟨hR, r0, r1, r2, r3, r4, r5, r6, r7, r9, r10, r11, r12, r13, r14, r15, r16, r17, r18, r19, r20, r21⟩
            refine ⟨fun done σ w' a hi hA hC ha hσ ⟨hR, r0, r1, r2, r3, r4, r5, r6, r7, r8, r9, r10, r11, r12, r13, r14, r15, r16, r17, r18, r19, r20, r21⟩ => ?_, ?_⟩
            · simp [After, Region.binds] at hA
              have e0 := r8 (by first | exact hA | exact hA.1 | exact hA.2 | exact hA.2.1 | exact hA.2.2 | exact hA.2.2.1 | exact hA.2.2.2 | exact hA.2.2.2.1 | exact hA.2.2.2.2 | exact hA.2.2.2.2.1 | exact hA.2.2.2.2.2 | exact hA.2.2.2.2.2.1 | exact hA.2.2.2.2.2.2 | exact hA.2.2.2.2.2.2.1 | exact hA.2.2.2.2.2.2.2 | exact hA.2.2.2.2.2.2.2.1 | exact hA.2.2.2.2.2.2.2.2 | exact hA.2.2.2.2.2.2.2.2.1 | exact hA.2.2.2.2.2.2.2.2.2)
              refine stepG_on 6 43 rfl rfl (r6 (by first | exact hA | exact hA.1 | exact hA.2 | exact hA.2.1 | exact hA.2.2 | exact hA.2.2.1 | exact hA.2.2.2 | exact hA.2.2.2.1 | exact hA.2.2.2.2 | exact hA.2.2.2.2.1 | exact hA.2.2.2.2.2 | exact hA.2.2.2.2.2.1 | exact hA.2.2.2.2.2.2 | exact hA.2.2.2.2.2.2.1 | exact hA.2.2.2.2.2.2.2 | exact hA.2.2.2.2.2.2.2.1 | exact hA.2.2.2.2.2.2.2.2 | exact hA.2.2.2.2.2.2.2.2.1 | exact hA.2.2.2.2.2.2.2.2.2)) ha fun K hK => ?_
              go_simp
              refine (HRR.out w' (HB1.out.trans (hR.mono HB1.out.size))).mono ?_
              rintro e w2 ⟨rfl, hb2⟩
              refine hK _ _ ?_
              simp [mk, up]
              exact ⟨hR.trans (hb2.mono hR.size), r0, r1, r2, r3, r4, r5, r6, r7, r8, r10, r11, r12, r13, r14, r15, r16, r17, r18, r19, r20, r21⟩
            refine ⟨fun done σ w' a hi hA hC ha hσ ⟨hR, r0, r1, r2, r3, r4, r5, r6, r7, r8, r9, r10, r11, r12, r13, r14, r15, r16, r17, r18, r19, r20, r21⟩ => ?_, ?_⟩
            · simp [After, Region.binds] at hA
              have e0 := r7 (by first | exact hA | exact hA.1 | exact hA.2 | exact hA.2.1 | exact hA.2.2 | exact hA.2.2.1 | exact hA.2.2.2 | exact hA.2.2.2.1 | exact hA.2.2.2.2 | exact hA.2.2.2.2.1 | exact hA.2.2.2.2.2 | exact hA.2.2.2.2.2.1 | exact hA.2.2.2.2.2.2 | exact hA.2.2.2.2.2.2.1 | exact hA.2.2.2.2.2.2.2 | exact hA.2.2.2.2.2.2.2.1 | exact hA.2.2.2.2.2.2.2.2 | exact hA.2.2.2.2.2.2.2.2.1 | exact hA.2.2.2.2.2.2.2.2.2)
              have e1 := r9 (by first | exact hA | exact hA.1 | exact hA.2 | exact hA.2.1 | exact hA.2.2 | exact hA.2.2.1 | exact hA.2.2.2 | exact hA.2.2.2.1 | exact hA.2.2.2.2 | exact hA.2.2.2.2.1 | exact hA.2.2.2.2.2 | exact hA.2.2.2.2.2.1 | exact hA.2.2.2.2.2.2 | exact hA.2.2.2.2.2.2.1 | exact hA.2.2.2.2.2.2.2 | exact hA.2.2.2.2.2.2.2.1 | exact hA.2.2.2.2.2.2.2.2 | exact hA.2.2.2.2.2.2.2.2.1 | exact hA.2.2.2.2.2.2.2.2.2)
              have e9 := HQ.out w'
              refine stepG_on 6 43 rfl rfl (r6 (by first | exact hA | exact hA.1 | exact hA.2 | exact hA.2.1 | exact hA.2.2 | exact hA.2.2.1 | exact hA.2.2.2 | exact hA.2.2.2.1 | exact hA.2.2.2.2 | exact hA.2.2.2.2.1 | exact hA.2.2.2.2.2 | exact hA.2.2.2.2.2.1 | exact hA.2.2.2.2.2.2 | exact hA.2.2.2.2.2.2.1 | exact hA.2.2.2.2.2.2.2 | exact hA.2.2.2.2.2.2.2.1 | exact hA.2.2.2.2.2.2.2.2 | exact hA.2.2.2.2.2.2.2.2.1 | exact hA.2.2.2.2.2.2.2.2.2)) ha fun K hK => ?_
              go_simp
              refine hK _ _ ?_
              simp [mk, up]
              exact ⟨hR, r0, r1, r2, r3, r4, r5, r6, r7, r8, r9, r11, r12, r13, r14, r15, r16, r17, r18, r19, r20, r21⟩
            refine ⟨fun done σ w' a hi hA hC ha hσ ⟨hR, r0, r1, r2, r3, r4, r5, r6, r7, r8, r9, r10, r11, r12, r13, r14, r15, r16, r17, r18, r19, r20, r21⟩ => ?_, ?_⟩
            · simp [After, Region.binds] at hA
              have e0 := r6 (by first | exact hA | exact hA.1 | exact hA.2 | exact hA.2.1 | exact hA.2.2 | exact hA.2.2.1 | exact hA.2.2.2 | exact hA.2.2.2.1 | exact hA.2.2.2.2 | exact hA.2.2.2.2.1 | exact hA.2.2.2.2.2 | exact hA.2.2.2.2.2.1 | exact hA.2.2.2.2.2.2 | exact hA.2.2.2.2.2.2.1 | exact hA.2.2.2.2.2.2.2 | exact hA.2.2.2.2.2.2.2.1 | exact hA.2.2.2.2.2.2.2.2 | exact hA.2.2.2.2.2.2.2.2.1 | exact hA.2.2.2.2.2.2.2.2.2)
              have e1 := r10 (by first | exact hA | exact hA.1 | exact hA.2 | exact hA.2.1 | exact hA.2.2 | exact hA.2.2.1 | exact hA.2.2.2 | exact hA.2.2.2.1 | exact hA.2.2.2.2 | exact hA.2.2.2.2.1 | exact hA.2.2.2.2.2 | exact hA.2.2.2.2.2.1 | exact hA.2.2.2.2.2.2 | exact hA.2.2.2.2.2.2.1 | exact hA.2.2.2.2.2.2.2 | exact hA.2.2.2.2.2.2.2.1 | exact hA.2.2.2.2.2.2.2.2 | exact hA.2.2.2.2.2.2.2.2.1 | exact hA.2.2.2.2.2.2.2.2.2)
              refine stepG_plain rfl fun K hK => ?_
              go_simp
              refine hK _ _ ?_
              simp [mk, up]
              exact ⟨hR, r0, r1, r2, r3, r4, r5, r6, r7, r8, r9, r10, r12, r13, r14, r15, r16, r17, r18, r19, r20, r21⟩
            refine ⟨fun done σ w' a hi hA hC ha hσ ⟨hR, r0, r1, r2, r3, r4, r5, r6, r7, r8, r9, r10, r11, r12, r13, r14, r15, r16, r17, r18, r19, r20, r21⟩ => ?_, ?_⟩
            · simp [After, Region.binds] at hA
              have e0 := r11 (by first | exact hA | exact hA.1 | exact hA.2 | exact hA.2.1 | exact hA.2.2 | exact hA.2.2.1 | exact hA.2.2.2 | exact hA.2.2.2.1 | exact hA.2.2.2.2 | exact hA.2.2.2.2.1 | exact hA.2.2.2.2.2 | exact hA.2.2.2.2.2.1 | exact hA.2.2.2.2.2.2 | exact hA.2.2.2.2.2.2.1 | exact hA.2.2.2.2.2.2.2 | exact hA.2.2.2.2.2.2.2.1 | exact hA.2.2.2.2.2.2.2.2 | exact hA.2.2.2.2.2.2.2.2.1 | exact hA.2.2.2.2.2.2.2.2.2)
              refine stepG_plain rfl fun K hK => ?_
              go_simp
              refine hK _ _ ?_
              simp [mk, up]
              exact ⟨hR, r0, r1, r2, r3, r4, r5, r6, r7, r8, r9, r10, r11, r13, r14, r15, r16, r17, r18, r19, r20, r21⟩
            refine ⟨fun done σ w' a hi hA hC ha hσ ⟨hR, r0, r1, r2, r3, r4, r5, r6, r7, r8, r9, r10, r11, r12, r13, r14, r15, r16, r17, r18, r19, r20, r21⟩ => ?_, ?_⟩
            · simp [After, Region.binds] at hA
              have e0 := hσ 7 (by simp)
              simp only [List.getElem?_toArray] at e0
              refine stepG_on 12 49 rfl rfl (r12 (by first | exact hA | exact hA.1 | exact hA.2 | exact hA.2.1 | exact hA.2.2 | exact hA.2.2.1 | exact hA.2.2.2 | exact hA.2.2.2.1 | exact hA.2.2.2.2 | exact hA.2.2.2.2.1 | exact hA.2.2.2.2.2 | exact hA.2.2.2.2.2.1 | exact hA.2.2.2.2.2.2 | exact hA.2.2.2.2.2.2.1 | exact hA.2.2.2.2.2.2.2 | exact hA.2.2.2.2.2.2.2.1 | exact hA.2.2.2.2.2.2.2.2 | exact hA.2.2.2.2.2.2.2.2.1 | exact hA.2.2.2.2.2.2.2.2.2)) ha fun K hK => ?_
              go_simp
              refine hK _ _ ?_
              simp [mk, up]
              exact ⟨hR, r0, r1, r2, r3, r4, r5, r6, r7, r8, r9, r10, r11, r12, r14, r15, r16, r17, r18, r19, r20, r21⟩
            refine ⟨fun done σ w' a hi hA hC ha hσ ⟨hR, r0, r1, r2, r3, r4, r5, r6, r7, r8, r9, r10, r11, r12, r13, r14, r15, r16, r17, r18, r19, r20, r21⟩ => ?_, ?_⟩
            · simp [After, Region.binds] at hA
              have e0 := r13 (by first | exact hA | exact hA.1 | exact hA.2 | exact hA.2.1 | exact hA.2.2 | exact hA.2.2.1 | exact hA.2.2.2 | exact hA.2.2.2.1 | exact hA.2.2.2.2 | exact hA.2.2.2.2.1 | exact hA.2.2.2.2.2 | exact hA.2.2.2.2.2.1 | exact hA.2.2.2.2.2.2 | exact hA.2.2.2.2.2.2.1 | exact hA.2.2.2.2.2.2.2 | exact hA.2.2.2.2.2.2.2.1 | exact hA.2.2.2.2.2.2.2.2 | exact hA.2.2.2.2.2.2.2.2.1 | exact hA.2.2.2.2.2.2.2.2.2)
              refine stepG_on 12 49 rfl rfl (r12 (by first | exact hA | exact hA.1 | exact hA.2 | exact hA.2.1 | exact hA.2.2 | exact hA.2.2.1 | exact hA.2.2.2 | exact hA.2.2.2.1 | exact hA.2.2.2.2 | exact hA.2.2.2.2.1 | exact hA.2.2.2.2.2 | exact hA.2.2.2.2.2.1 | exact hA.2.2.2.2.2.2 | exact hA.2.2.2.2.2.2.1 | exact hA.2.2.2.2.2.2.2 | exact hA.2.2.2.2.2.2.2.1 | exact hA.2.2.2.2.2.2.2.2 | exact hA.2.2.2.2.2.2.2.2.1 | exact hA.2.2.2.2.2.2.2.2.2)) ha fun K hK => ?_
              go_simp
              refine (HLN.out w' (HB1.out.trans (hR.mono HB1.out.size))).mono ?_
              rintro e w2 ⟨rfl, rfl⟩
              refine hK _ _ ?_
              simp [mk, up]
              exact ⟨hR, r0, r1, r2, r3, r4, r5, r6, r7, r8, r9, r10, r11, r12, r13, r15, r16, r17, r18, r19, r20, r21⟩
            refine ⟨fun done σ w' a hi hA hC ha hσ ⟨hR, r0, r1, r2, r3, r4, r5, r6, r7, r8, r9, r10, r11, r12, r13, r14, r15, r16, r17, r18, r19, r20, r21⟩ => ?_, ?_⟩
            · simp [After, Region.binds] at hA
              have e0 := hσ 1 (by simp)
              simp only [List.getElem?_toArray] at e0
              refine stepG_on 12 49 rfl rfl (r12 (by first | exact hA | exact hA.1 | exact hA.2 | exact hA.2.1 | exact hA.2.2 | exact hA.2.2.1 | exact hA.2.2.2 | exact hA.2.2.2.1 | exact hA.2.2.2.2 | exact hA.2.2.2.2.1 | exact hA.2.2.2.2.2 | exact hA.2.2.2.2.2.1 | exact hA.2.2.2.2.2.2 | exact hA.2.2.2.2.2.2.1 | exact hA.2.2.2.2.2.2.2 | exact hA.2.2.2.2.2.2.2.1 | exact hA.2.2.2.2.2.2.2.2 | exact hA.2.2.2.2.2.2.2.2.1 | exact hA.2.2.2.2.2.2.2.2.2)) ha fun K hK => ?_
              go_simp
              refine hK _ _ ?_
              simp [mk, up]
              exact ⟨hR, r0, r1, r2, r3, r4, r5, r6, r7, r8, r9, r10, r11, r12, r13, r14, r16, r17, r18, r19, r20, r21⟩
            refine ⟨fun done σ w' a hi hA hC ha hσ ⟨hR, r0, r1, r2, r3, r4, r5, r6, r7, r8, r9, r10, r11, r12, r13, r14, r15, r16, r17, r18, r19, r20, r21⟩ => ?_, ?_⟩
            · simp [After, Region.binds] at hA
              have e0 := r14 (by first | exact hA | exact hA.1 | exact hA.2 | exact hA.2.1 | exact hA.2.2 | exact hA.2.2.1 | exact hA.2.2.2 | exact hA.2.2.2.1 | exact hA.2.2.2.2 | exact hA.2.2.2.2.1 | exact hA.2.2.2.2.2 | exact hA.2.2.2.2.2.1 | exact hA.2.2.2.2.2.2 | exact hA.2.2.2.2.2.2.1 | exact hA.2.2.2.2.2.2.2 | exact hA.2.2.2.2.2.2.2.1 | exact hA.2.2.2.2.2.2.2.2 | exact hA.2.2.2.2.2.2.2.2.1 | exact hA.2.2.2.2.2.2.2.2.2)
              have e1 := r15 (by first | exact hA | exact hA.1 | exact hA.2 | exact hA.2.1 | exact hA.2.2 | exact hA.2.2.1 | exact hA.2.2.2 | exact hA.2.2.2.1 | exact hA.2.2.2.2 | exact hA.2.2.2.2.1 | exact hA.2.2.2.2.2 | exact hA.2.2.2.2.2.1 | exact hA.2.2.2.2.2.2 | exact hA.2.2.2.2.2.2.1 | exact hA.2.2.2.2.2.2.2 | exact hA.2.2.2.2.2.2.2.1 | exact hA.2.2.2.2.2.2.2.2 | exact hA.2.2.2.2.2.2.2.2.1 | exact hA.2.2.2.2.2.2.2.2.2)
              refine stepG_on 12 49 rfl rfl (r12 (by first | exact hA | exact hA.1 | exact hA.2 | exact hA.2.1 | exact hA.2.2 | exact hA.2.2.1 | exact hA.2.2.2 | exact hA.2.2.2.1 | exact hA.2.2.2.2 | exact hA.2.2.2.2.1 | exact hA.2.2.2.2.2 | exact hA.2.2.2.2.2.1 | exact hA.2.2.2.2.2.2 | exact hA.2.2.2.2.2.2.1 | exact hA.2.2.2.2.2.2.2 | exact hA.2.2.2.2.2.2.2.1 | exact hA.2.2.2.2.2.2.2.2 | exact hA.2.2.2.2.2.2.2.2.1 | exact hA.2.2.2.2.2.2.2.2.2)) ha fun K hK => ?_
              go_simp
              refine hK _ _ ?_
              simp [mk, up]
              exact ⟨hR, r0, r1, r2, r3, r4, r5, r6, r7, r8, r9, r10, r11, r12, r13, r14, r15, r17, r18, r19, r20, r21⟩
            refine ⟨fun done σ w' a hi hA hC ha hσ ⟨hR, r0, r1, r2, r3, r4, r5, r6, r7, r8, r9, r10, r11, r12, r13, r14, r15, r16, r17, r18, r19, r20, r21⟩ => ?_, ?_⟩
            · simp [After, Region.binds] at hA
              have e0 := r12 (by first | exact hA | exact hA.1 | exact hA.2 | exact hA.2.1 | exact hA.2.2 | exact hA.2.2.1 | exact hA.2.2.2 | exact hA.2.2.2.1 | exact hA.2.2.2.2 | exact hA.2.2.2.2.1 | exact hA.2.2.2.2.2 | exact hA.2.2.2.2.2.1 | exact hA.2.2.2.2.2.2 | exact hA.2.2.2.2.2.2.1 | exact hA.2.2.2.2.2.2.2 | exact hA.2.2.2.2.2.2.2.1 | exact hA.2.2.2.2.2.2.2.2 | exact hA.2.2.2.2.2.2.2.2.1 | exact hA.2.2.2.2.2.2.2.2.2)
              have e1 := r16 (by first | exact hA | exact hA.1 | exact hA.2 | exact hA.2.1 | exact hA.2.2 | exact hA.2.2.1 | exact hA.2.2.2 | exact hA.2.2.2.1 | exact hA.2.2.2.2 | exact hA.2.2.2.2.1 | exact hA.2.2.2.2.2 | exact hA.2.2.2.2.2.1 | exact hA.2.2.2.2.2.2 | exact hA.2.2.2.2.2.2.1 | exact hA.2.2.2.2.2.2.2 | exact hA.2.2.2.2.2.2.2.1 | exact hA.2.2.2.2.2.2.2.2 | exact hA.2.2.2.2.2.2.2.2.1 | exact hA.2.2.2.2.2.2.2.2.2)
              refine stepG_plain rfl fun K hK => ?_
              go_simp
              refine hK _ _ ?_
              simp [mk, up]
              exact ⟨hR, r0, r1, r2, r3, r4, r5, r6, r7, r8, r9, r10, r11, r12, r13, r14, r15, r16, r18, r19, r20, r21⟩
            refine ⟨fun done σ w' a hi hA hC ha hσ ⟨hR, r0, r1, r2, r3, r4, r5, r6, r7, r8, r9, r10, r11, r12, r13, r14, r15, r16, r17, r18, r19, r20, r21⟩ => ?_, ?_⟩
            · simp [After, Region.binds] at hA
              have e0 := r17 (by first | exact hA | exact hA.1 | exact hA.2 | exact hA.2.1 | exact hA.2.2 | exact hA.2.2.1 | exact hA.2.2.2 | exact hA.2.2.2.1 | exact hA.2.2.2.2 | exact hA.2.2.2.2.1 | exact hA.2.2.2.2.2 | exact hA.2.2.2.2.2.1 | exact hA.2.2.2.2.2.2 | exact hA.2.2.2.2.2.2.1 | exact hA.2.2.2.2.2.2.2 | exact hA.2.2.2.2.2.2.2.1 | exact hA.2.2.2.2.2.2.2.2 | exact hA.2.2.2.2.2.2.2.2.1 | exact hA.2.2.2.2.2.2.2.2.2)
              refine stepG_plain rfl fun K hK => ?_
              go_simp
              refine hK _ _ ?_
              simp [mk, up]
              exact ⟨hR, r0, r1, r2, r3, r4, r5, r6, r7, r8, r9, r10, r11, r12, r13, r14, r15, r16, r17, r19, r20, r21⟩
            refine ⟨fun done σ w' a hi hA hC ha hσ ⟨hR, r0, r1, r2, r3, r4, r5, r6, r7, r8, r9, r10, r11, r12, r13, r14, r15, r16, r17, r18, r19, r20, r21⟩ => ?_, ?_⟩
            · simp [After, Region.binds] at hA
              refine stepG_on 18 55 rfl rfl (r18 (by first | exact hA | exact hA.1 | exact hA.2 | exact hA.2.1 | exact hA.2.2 | exact hA.2.2.1 | exact hA.2.2.2 | exact hA.2.2.2.1 | exact hA.2.2.2.2 | exact hA.2.2.2.2.1 | exact hA.2.2.2.2.2 | exact hA.2.2.2.2.2.1 | exact hA.2.2.2.2.2.2 | exact hA.2.2.2.2.2.2.1 | exact hA.2.2.2.2.2.2.2 | exact hA.2.2.2.2.2.2.2.1 | exact hA.2.2.2.2.2.2.2.2 | exact hA.2.2.2.2.2.2.2.2.1 | exact hA.2.2.2.2.2.2.2.2.2)) ha fun K hK => ?_
              go_simp
              refine (works_any w').mono ?_
              rintro e w2 ⟨rfl, hb2⟩
              refine hK _ _ ?_
              simp [mk, up]
              exact ⟨hR.trans (hb2.mono hR.size), r0, r1, r2, r3, r4, r5, r6, r7, r8, r9, r10, r11, r12, r13, r14, r15, r16, r17, r18, r20, r21⟩
            refine ⟨fun done σ w' a hi hA hC ha hσ ⟨hR, r0, r1, r2, r3, r4, r5, r6, r7, r8, r9, r10, r11, r12, r13, r14, r15, r16, r17, r18, r19, r20, r21⟩ => ?_, ?_⟩
            · simp [After, Region.binds] at hA
              have e0 := r18 (by first | exact hA | exact hA.1 | exact hA.2 | exact hA.2.1 | exact hA.2.2 | exact hA.2.2.1 | exact hA.2.2.2 | exact hA.2.2.2.1 | exact hA.2.2.2.2 | exact hA.2.2.2.2.1 | exact hA.2.2.2.2.2 | exact hA.2.2.2.2.2.1 | exact hA.2.2.2.2.2.2 | exact hA.2.2.2.2.2.2.1 | exact hA.2.2.2.2.2.2.2 | exact hA.2.2.2.2.2.2.2.1 | exact hA.2.2.2.2.2.2.2.2 | exact hA.2.2.2.2.2.2.2.2.1 | exact hA.2.2.2.2.2.2.2.2.2)
              have e1 := r19 (by first | exact hA | exact hA.1 | exact hA.2 | exact hA.2.1 | exact hA.2.2 | exact hA.2.2.1 | exact hA.2.2.2 | exact hA.2.2.2.1 | exact hA.2.2.2.2 | exact hA.2.2.2.2.1 | exact hA.2.2.2.2.2 | exact hA.2.2.2.2.2.1 | exact hA.2.2.2.2.2.2 | exact hA.2.2.2.2.2.2.1 | exact hA.2.2.2.2.2.2.2 | exact hA.2.2.2.2.2.2.2.1 | exact hA.2.2.2.2.2.2.2.2 | exact hA.2.2.2.2.2.2.2.2.1 | exact hA.2.2.2.2.2.2.2.2.2)
              refine stepG_plain rfl fun K hK => ?_
              go_simp
              refine hK _ _ ?_
              simp [mk, up]
              exact ⟨hR, r0, r1, r2, r3, r4, r5, r6, r7, r8, r9, r10, r11, r12, r13, r14, r15, r16, r17, r18, r19, r21⟩
            refine ⟨fun done σ w' a hi hA hC ha hσ ⟨hR, r0, r1, r2, r3, r4, r5, r6, r7, r8, r9, r10, r11, r12, r13, r14, r15, r16, r17, r18, r19, r20, r21⟩ => ?_, trivial⟩
            · simp [After, Region.binds] at hA
              have e0 := r20 (by first | exact hA | exact hA.1 | exact hA.2 | exact hA.2.1 | exact hA.2.2 | exact hA.2.2.1 | exact hA.2.2.2 | exact hA.2.2.2.1 | exact hA.2.2.2.2 | exact hA.2.2.2.2.1 | exact hA.2.2.2.2.2 | exact hA.2.2.2.2.2.1 | exact hA.2.2.2.2.2.2 | exact hA.2.2.2.2.2.2.1 | exact hA.2.2.2.2.2.2.2 | exact hA.2.2.2.2.2.2.2.1 | exact hA.2.2.2.2.2.2.2.2 | exact hA.2.2.2.2.2.2.2.2.1 | exact hA.2.2.2.2.2.2.2.2.2)
              refine stepG_plain rfl fun K hK => ?_
              go_simp
              refine hK _ _ ?_
              simp [mk, up]
              exact ⟨hR, r0, r1, r2, r3, r4, r5, r6, r7, r8, r9, r10, r11, r12, r13, r14, r15, r16, r17, r18, r19, r20⟩
          · rintro done σ w' hall hσ ⟨hR, r0, r1, r2, r3, r4, r5, r6, r7, r8, r9, r10, r11, r12, r13, r14, r15, r16, r17, r18, r19, r20, r21⟩
            have h21 := r21 (hall 21 (by simp))
            simp only [putF, List.foldl_cons, List.foldl_nil, Act.put, List.setIfInBounds_toArray, List.set_cons_succ, List.set_cons_zero]
            rw [h21]
            clear hσ r0 r1 r2 r3 r4 r5 r6 r7 r8 r9 r10 r11 r12 r13 r14 r15 r16 r17 r18 r19 r20 r21 hall h21
            have HRX := hd hR
            clear hR
            go_wp2_with fail
            go_ret
            exact ⟨rfl, HB9.out.trans (HRX.out.mono HB9.out.size)⟩

theorem llike_any (w : World) (d : Dg) (hd0 : d.length = 32) (n : Int) :
    Calls Try.prog 10 #[.agg (ucs d), .int .i64 n] w fun e w' => e = .returned (.bool true) ∧ Below w.heap.size w w' := by
  by_cases h : n < 1 ∨ 16 < n
  · exact llike_out w d n h
  · obtain ⟨k, rfl⟩ : ∃ k : Nat, n = (k : Int) := ⟨n.toNat, by omega⟩
    exact llike_in w d hd0 k (by omega) (by omega)

end Go.Proofs.Ytjfplkndngmgdaa
