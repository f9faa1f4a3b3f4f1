/- The law MerkleEach, walked. -/
import Derived.Test.YtjfplkndngmgdaaGE
namespace Go.Proofs.Ytjfplkndngmgdaa
set_option maxRecDepth 20000
open Go.RowKit Go.Shelf Sp

attribute [local go_sem ↓] ldD stD
attribute [local go_sem] run_ldA run_stA arrD loadX_at loadY_some storeX_at storeY_true ucs_size ones_ucs sha_length

/-- A fresh block of a digest, and one that is filled. -/
def PtrZ (B : Nat) (w : World) (v : Value) : Prop := ∃ g, v = .pointer (some ⟨g, 0, none⟩) ∧ B ≤ g ∧ w.heap[g]? = some (.cells (ucs (List.replicate 32 0)) 35 (0, 0))
def PtrU (w : World) (v : Value) (d : Dg) : Prop := ∃ g, v = .pointer (some ⟨g, 0, none⟩) ∧ w.heap[g]? = some (.cells (ucs d) 35 (0, 0))
theorem PtrZ.below {B : Nat} {w w' : World} {v : Value} (h : PtrZ B w v) (hb : Below w.heap.size w w') : PtrZ B w' v := by
  obtain ⟨g, h1, h2, h3⟩ := h
  exact ⟨g, h1, h2, (hb.block g (blk_lt h3)).trans h3⟩

set_option maxHeartbeats 4000000 in
set_option maxRecDepth 100000 in
theorem leach_any (w : World) (A : Option Addr) (n c : Nat) (ds : List Dg) (hs : SlD w (.slice A n c) ds n) (oth : Dg) (ho0 : oth.length = 32) :
    Calls Try.prog 8 #[.slice A n c, .agg (ucs oth)] w fun e w' => e = .returned (.bool true) ∧ Below w.heap.size w w' := by
  by_cases hn : n < 1 ∨ 16 < n
  · clear hs
    have hb0 : Below w.heap.size w (w.alloc (.cells (ucs oth) 35)) := (Below.refl _ _).alloc (Nat.le_refl _) _
    have HB0 := hd hb0
    have hz0 : w.heap.size ≤ (w.alloc (.cells (ucs oth) 35)).heap.size := hb0.size
    have HZ0 := hd hz0
    clear hb0 hz0
    by_cases h1 : n < 1
    · have h1I : (n : Int) < 1 := by omega
      clear hn h1
      go_enter Try.func8, Try.ntmps8
      go_wp2_with (go_at_call 16; refine (works_any _).mono ?_; rintro e w4 ⟨rfl, hb4⟩; have HB4 := hd hb4; clear hb4)
      go_ret
      exact ⟨rfl, HB0.out.trans (HB4.out.mono HZ0.out)⟩
    · have h1I : ¬ (n : Int) < 1 := by omega
      have h2I : (16 : Int) < (n : Int) := by omega
      clear hn h1
      go_enter Try.func8, Try.ntmps8
      go_wp2_with (go_at_call 16; refine (works_any _).mono ?_; rintro e w4 ⟨rfl, hb4⟩; have HB4 := hd hb4; clear hb4)
      go_ret
      exact ⟨rfl, HB0.out.trans (HB4.out.mono HZ0.out)⟩
  · have h1I : ¬ (n : Int) < 1 := by omega
    have h2I : ¬ (16 : Int) < (n : Int) := by omega
    have h0 : 0 < n := by omega
    have h16 : n ≤ 16 := by omega
    have hlen := hs.len
    have HS := hd hs
    have HNEW := hd (fun W (h : Below w.heap.size w W) => newt_any W A n c ds (hs.below h) h0 h16)
    have HLEN := hd hlen
    clear hn hs hlen
    go_enter Try.func8, Try.ntmps8
    go_upto_region 0 with (fail)
    go_cut [3, 4] from 3 to 4 (fun v3 v4 wx => v3 = .pointer (some ⟨w.heap.size, 0, none⟩) ∧ v4 = .bool false ∧ wx.heap[w.heap.size]? = some (.cells (ucs oth) 35 (0, 0)) ∧ Below w.heap.size w wx)
    case first =>
      go_wp2_with fail
      go_meet
      exact ⟨rfl, rfl, heap_alloc_new w _, (Below.refl _ _).alloc (Nat.le_refl _) _⟩
    case rest =>
      obtain ⟨rfl, rfl, hD, hB⟩ := hcut
      obtain ⟨wz, rfl⟩ : ∃ wz : World, wz = wc := ⟨_, rfl⟩
      have HD := hd hD
      have HBz := hd hB
      have hszz := hB.size
      clear hD hB
      go_upto_region 3 with (fail)
      go_cut [5, 6] from 5 to 27 (fun v5 v6 wx => ∃ g, v5 = .pointer (some ⟨g, 0, none⟩) ∧ v6 = .int .i64 0 ∧ TreeAt wx wz.heap.size wx.heap.size g ds ∧ Below wz.heap.size wz wx)
      case first =>
        go_wp2_with (go_at_call 17; refine (HNEW.out _ HBz.out).mono ?_; rintro e w1 ⟨g, rfl, ht, hb1⟩; have HT := hd ht; have HB1 := hd hb1; clear ht hb1)
        go_meet
        exact ⟨g, rfl, rfl, HT.out, HB1.out⟩
      case rest =>
        obtain ⟨g, rfl, rfl, ht, hb⟩ := hcut
        obtain ⟨wa, rfl⟩ : ∃ wa : World, wa = wc := ⟨_, rfl⟩
        have HB := hd (HBz.out.trans (hb.mono hszz))
        have hsz := HB.out.size
        have HDa := hd ((hb.block _ (blk_lt HD.out)).trans HD.out)
        have hltD := blk_lt HDa.out
        have HSa := hd (HS.out.below HB.out)
        have HT := hd ht
        clear ht hb HNEW HS HD HBz
        go_upto_block 0 with (fail)
        go_cut [7] from 28 to 80 (fun _ wx => Below wa.heap.size wa wx)
        case first =>
          go_wp2_with fail
          go_loopw [7] (fun x wr => ∃ k : Nat, x = .int .i64 (k : Int) ∧ k ≤ n ∧ Below wa.heap.size wa wr) (fun x _ => n - (intOf x).toNat)
          case atStart => exact ⟨0, rfl, Nat.zero_le _, Below.refl _ _⟩
          case round =>
            obtain ⟨j, rfl, hj, hbr⟩ := hrel
            obtain ⟨wr, rfl⟩ : ∃ w0 : World, w0 = wr := ⟨_, rfl⟩
            have HBR := hd hbr
            have hszr := hbr.size
            clear hbr
            by_cases hlt : j < n
            · have hltI : (j : Int) < (n : Int) := by omega
              have hP32 : All32 (pathOf ds j) := path32 _ _ rfl (List.prefix_refl _)
              have hPl := pathOf_length ds j
              rw [HLEN.out] at hPl
              have hst := stN_ok hlt h16
              have hse := stE_ok hlt h16
              obtain ⟨P, hP⟩ : ∃ P, pathOf ds j = P := ⟨_, rfl⟩
              obtain ⟨N, hN⟩ : ∃ N, steps (oths j n) = N := ⟨_, rfl⟩
              rw [hP] at hP32 hPl
              rw [hN] at hPl hst
              have hN16 : N ≤ 16 := by
                rw [← hN]
                have h3 := steps_le (oths j n)
                have h4 : (oths j n).length ≤ n := oth_len _ _ _
                omega
              have hue : upE j n N = 0 := by unfold upE; rw [hse, hst]; simp
              have hul := upD_length oth j n P
              obtain ⟨U, hU⟩ : ∃ U, upD oth j n P = U := ⟨_, rfl⟩
              rw [hU] at hul
              have HPATH := hd (fun (W : World) (hW : Below wa.heap.size wa W) => show Calls Try.prog 19 #[.pointer (some ⟨g, 0, none⟩), .int .i64 (j : Int)] W fun e w' => ∃ v, e = .returned (.tuple #[v, .int .i64 0]) ∧ w'.ownsRow W.heap.size 35 32 v N (dcs P) ∧ Below W.heap.size W w' from by
                have h5 := tpath_ok W _ _ g ds (HT.out.below (Nat.le_refl _) hW) j (by rw [HLEN.out]; exact hlt) (by rw [HLEN.out]; exact h16)
                rwa [HLEN.out, hN, hP] at h5)
              have HRP := hd (fun (W : World) (hW : Below wa.heap.size wa W) => show Calls Try.prog 24 #[.slice A n c, .int .i64 (j : Int)] W fun e w' => ∃ v, e = .returned v ∧ SlD w' v P N ∧ Below W.heap.size W w' from by
                have h5 := rpath_any W A n c ds (HSa.out.below hW) j hlt h16
                rw [hN, hP] at h5
                refine h5.mono ?_
                rintro e w' ⟨v, rfl, h6, h7⟩
                exact ⟨v, rfl, own_sld h6 hP32, h7⟩)
              have HSAME := hd (fun (W : World) (A1 A2 : Option Addr) (c1 c2 : Nat) (h1 : SlD W (.slice A1 N c1) P N) (h2 : SlD W (.slice A2 N c2) P N) => show Calls Try.prog 23 #[.slice A1 N c1, .slice A2 N c2] W fun e w' => e = .returned (.bool true) ∧ Below W.heap.size W w' from by
                have h5 := same_any W A1 A2 N N c1 c2 P P h1 h2 (by omega)
                rwa [decide_eq_true rfl] at h5)
              have HUP := hd (fun (W : World) (A1 : Option Addr) (c1 : Nat) (h1 : SlD W (.slice A1 N c1) P N) => show Calls Try.prog 20 #[.agg (ucs oth), .int .i64 (j : Int), .int .i64 (n : Int), .slice A1 N c1] W fun e w' => e = .returned (.tuple #[.agg (ucs U), .int .i64 0]) ∧ Below W.heap.size W w' from by
                have h5 := up_any W oth ho0 j n N c1 A1 P h1
                rwa [hU, hue] at h5)
              have HRUP := hd (fun (W : World) (A1 : Option Addr) (c1 : Nat) (h1 : SlD W (.slice A1 N c1) P N) => show Calls Try.prog 25 #[.agg (ucs oth), .int .i64 (j : Int), .int .i64 (n : Int), .slice A1 N c1] W fun e w' => e = .returned (.tuple #[.agg (ucs U), .int .i64 0]) ∧ Below W.heap.size W w' from by
                have h5 := rup_any W oth ho0 j n N c1 A1 P h1
                rwa [hU, hue] at h5)
              have HP32 := hd hP32
              clear hP hN hP32 hPl hst hse hue hU
              have hsubw := sub_row (n := 32) ((HBR.out.block _ hltD).trans HDa.out) (by rw [ucs_size, ho0])
              have hltw : w.heap.size < wr.heap.size := by omega
              go_upto_region 8 with (go_at_call 19; refine (HPATH.out _ HBR.out).mono ?_; rintro e w3 ⟨v3, rfl, ho3, hb3⟩; obtain ⟨A8, c8, rfl, _⟩ := own_cl ho3; have HO3 := hd (own_sld ho3 HP32.out); have hsub3 := (sub_of_heap (hb3.block _ hltw)).trans hsubw; have HB3 := hd hb3; have hltw3 := Nat.lt_of_lt_of_le hltw hb3.size; clear ho3 hb3)
              clear hsubw
              go_cut [10, 11] from 40 to 48 (fun v10 v11 wx => ∃ D1, v10 = .pointer (some ⟨D1, 0, none⟩) ∧ v11 = .int .i64 0 ∧ wx.heap[D1]? = some (.cells (ucs U) 35 (0, 0)) ∧ Below w3.heap.size w3 wx)
              case first =>
                go_wp2_with (go_at_call 20; refine (HUP.out _ _ _ HO3.out).mono ?_; rintro e w4 ⟨rfl, hb4⟩; have HB4 := hd hb4; have hcan := can_row (o := 0) (n := 32) (heap_alloc_new w4 (.cells (ucs (List.replicate 32 0)) 35)) (by simp [ucs_size]); clear hb4)
                go_meet
                exact ⟨w4.heap.size, rfl, rfl, heap_alloc_new w4 _, HB4.out.alloc HB4.out.size _⟩
              case rest =>
                obtain ⟨D1, rfl, rfl, hd1, hb8⟩ := hcut
                obtain ⟨wb, rfl⟩ : ∃ wb : World, wb = wc := ⟨_, rfl⟩
                have HS8 := hd (HO3.out.below hb8)
                have HD1 := hd hd1
                have HB8 := hd (HBR.out.trans ((HB3.out.trans (hb8.mono HB3.out.size)).mono hszr))
                have hsubb := (sub_of_heap (hb8.block _ hltw3)).trans hsub3
                have hltb : w.heap.size < wb.heap.size := Nat.lt_of_lt_of_le hltw3 hb8.size
                clear hd1 hb8 hsub3
                go_upto_region 9 with (fail)
                go_cut [12, 13] from 49 to 59 (fun v12 v13 wx => ∃ D2, v12 = .pointer (some ⟨D2, 0, none⟩) ∧ v13 = .int .i64 0 ∧ wx.heap[D2]? = some (.cells (ucs U) 35 (0, 0)) ∧ Below wb.heap.size wb wx)
                case first =>
                  go_wp2_with fail
                  refine wp_region_inv [50, 51, 52, 53, 54, 55, 56, 57, 49, 58, 59, 12, 13] (fun done σ w' => Below wb.heap.size wb w' ∧
                    (done 0 = true → σ 50 = .agg (ucs oth)) ∧
                    (done 1 = true → σ 51 = .int .i64 (j : Int)) ∧
                    (done 2 = true → σ 52 = .slice A n c) ∧
                    (done 3 = true → σ 53 = .int .i64 (n : Int)) ∧
                    (done 4 = true → σ 54 = .slice A n c) ∧
                    (done 5 = true → σ 55 = .int .i64 (j : Int)) ∧
                    (done 6 = true → done 7 = false → SlD w' (σ 56) P N) ∧
                    (done 7 = true → σ 57 = .tuple #[.agg (ucs U), .int .i64 0]) ∧
                    (done 8 = true → σ 49 = .tuple #[.agg (ucs U), .int .i64 0]) ∧
                    (done 9 = true → σ 58 = .agg (ucs U)) ∧
                    (done 10 = true → σ 59 = .int .i64 0) ∧
                    (done 11 = true → done 12 = false → PtrZ wb.heap.size w' (σ 12)) ∧
                    (done 12 = true → PtrU w' (σ 12) U) ∧
                    (done 13 = true → σ 13 = .int .i64 0)) (by kernel_rfl) (by kernel_rfl) ?_ ?_ ?_
                  · simp
                    exact Below.drew (Below.refl _ _)
                  · refine ⟨fun done σ w' a hi hA hC ha hσ ⟨hR, r0, r1, r2, r3, r4, r5, r6, r7, r8, r9, r10, r11, r12, r13⟩ => ?_, ?_⟩
                    · have e0 := hσ 3 (by simp)
                      simp only [List.getElem?_toArray] at e0
                      have e9 := (sub_of_heap (hR.block _ hltb)).trans hsubb
                      refine stepG_plain rfl fun K hK => ?_
                      go_simp
                      refine hK _ _ ?_
                      simp [mk, up]
                      exact ⟨hR, r1, r2, r3, r4, r5, r6, r7, r8, r9, r10, r11, r12, r13⟩
                    refine ⟨fun done σ w' a hi hA hC ha hσ ⟨hR, r0, r1, r2, r3, r4, r5, r6, r7, r8, r9, r10, r11, r12, r13⟩ => ?_, ?_⟩
                    · have e0 := hσ 7 (by simp)
                      simp only [List.getElem?_toArray] at e0
                      refine stepG_plain rfl fun K hK => ?_
                      go_simp
                      refine hK _ _ ?_
                      simp [mk, up]
                      exact ⟨hR, r0, r2, r3, r4, r5, r6, r7, r8, r9, r10, r11, r12, r13⟩
                    refine ⟨fun done σ w' a hi hA hC ha hσ ⟨hR, r0, r1, r2, r3, r4, r5, r6, r7, r8, r9, r10, r11, r12, r13⟩ => ?_, ?_⟩
                    · have e0 := hσ 0 (by simp)
                      simp only [List.getElem?_toArray] at e0
                      refine stepG_plain rfl fun K hK => ?_
                      go_simp
                      refine hK _ _ ?_
                      simp [mk, up]
                      exact ⟨hR, r0, r1, r3, r4, r5, r6, r7, r8, r9, r10, r11, r12, r13⟩
                    refine ⟨fun done σ w' a hi hA hC ha hσ ⟨hR, r0, r1, r2, r3, r4, r5, r6, r7, r8, r9, r10, r11, r12, r13⟩ => ?_, ?_⟩
                    · simp [After, Region.binds] at hA
                      have e0 := r2 (by first | exact hA | exact hA.1 | exact hA.2 | exact hA.2.1 | exact hA.2.2 | exact hA.2.2.1 | exact hA.2.2.2 | exact hA.2.2.2.1 | exact hA.2.2.2.2 | exact hA.2.2.2.2.1 | exact hA.2.2.2.2.2 | exact hA.2.2.2.2.2.1 | exact hA.2.2.2.2.2.2 | exact hA.2.2.2.2.2.2.1 | exact hA.2.2.2.2.2.2.2 | exact hA.2.2.2.2.2.2.2.1 | exact hA.2.2.2.2.2.2.2.2 | exact hA.2.2.2.2.2.2.2.2.1 | exact hA.2.2.2.2.2.2.2.2.2)
                      refine stepG_plain rfl fun K hK => ?_
                      go_simp
                      refine hK _ _ ?_
                      simp [mk, up]
                      exact ⟨hR, r0, r1, r2, r4, r5, r6, r7, r8, r9, r10, r11, r12, r13⟩
                    refine ⟨fun done σ w' a hi hA hC ha hσ ⟨hR, r0, r1, r2, r3, r4, r5, r6, r7, r8, r9, r10, r11, r12, r13⟩ => ?_, ?_⟩
                    · have e0 := hσ 0 (by simp)
                      simp only [List.getElem?_toArray] at e0
                      refine stepG_plain rfl fun K hK => ?_
                      go_simp
                      refine hK _ _ ?_
                      simp [mk, up]
                      exact ⟨hR, r0, r1, r2, r3, r5, r6, r7, r8, r9, r10, r11, r12, r13⟩
                    refine ⟨fun done σ w' a hi hA hC ha hσ ⟨hR, r0, r1, r2, r3, r4, r5, r6, r7, r8, r9, r10, r11, r12, r13⟩ => ?_, ?_⟩
                    · have e0 := hσ 7 (by simp)
                      simp only [List.getElem?_toArray] at e0
                      refine stepG_plain rfl fun K hK => ?_
                      go_simp
                      refine hK _ _ ?_
                      simp [mk, up]
                      exact ⟨hR, r0, r1, r2, r3, r4, r6, r7, r8, r9, r10, r11, r12, r13⟩
                    refine ⟨fun done σ w' a hi hA hC ha hσ ⟨hR, r0, r1, r2, r3, r4, r5, r6, r7, r8, r9, r10, r11, r12, r13⟩ => ?_, ?_⟩
                    · simp [After, Region.binds] at hA
                      have e0 := r4 (by first | exact hA | exact hA.1 | exact hA.2 | exact hA.2.1 | exact hA.2.2 | exact hA.2.2.1 | exact hA.2.2.2 | exact hA.2.2.2.1 | exact hA.2.2.2.2 | exact hA.2.2.2.2.1 | exact hA.2.2.2.2.2 | exact hA.2.2.2.2.2.1 | exact hA.2.2.2.2.2.2 | exact hA.2.2.2.2.2.2.1 | exact hA.2.2.2.2.2.2.2 | exact hA.2.2.2.2.2.2.2.1 | exact hA.2.2.2.2.2.2.2.2 | exact hA.2.2.2.2.2.2.2.2.1 | exact hA.2.2.2.2.2.2.2.2.2)
                      have e1 := r5 (by first | exact hA | exact hA.1 | exact hA.2 | exact hA.2.1 | exact hA.2.2 | exact hA.2.2.1 | exact hA.2.2.2 | exact hA.2.2.2.1 | exact hA.2.2.2.2 | exact hA.2.2.2.2.1 | exact hA.2.2.2.2.2 | exact hA.2.2.2.2.2.1 | exact hA.2.2.2.2.2.2 | exact hA.2.2.2.2.2.2.1 | exact hA.2.2.2.2.2.2.2 | exact hA.2.2.2.2.2.2.2.1 | exact hA.2.2.2.2.2.2.2.2 | exact hA.2.2.2.2.2.2.2.2.1 | exact hA.2.2.2.2.2.2.2.2.2)
                      have d12 := hC.at 6 12 _ rfl hi rfl
                      refine stepG_plain rfl fun K hK => ?_
                      go_simp
                      refine (HRP.out w' (HB8.out.trans (hR.mono HB8.out.size))).mono ?_
                      rintro e w2 ⟨v2, rfl, hs2, hb2⟩
                      refine hK _ _ ?_
                      simp [mk, up]
                      exact ⟨hR.trans (hb2.mono hR.size), r0, r1, r2, r3, r4, r5, fun _ => hs2, r7, r8, r9, r10, fun h h' => (r11 h h').below hb2, (fun h => by rw [d12] at h; cases h), r13⟩
                    refine ⟨fun done σ w' a hi hA hC ha hσ ⟨hR, r0, r1, r2, r3, r4, r5, r6, r7, r8, r9, r10, r11, r12, r13⟩ => ?_, ?_⟩
                    · simp [After, Region.binds] at hA
                      have d12 := hC.at 7 12 _ rfl hi rfl
                      have e0 := r0 (by first | exact hA | exact hA.1 | exact hA.2 | exact hA.2.1 | exact hA.2.2 | exact hA.2.2.1 | exact hA.2.2.2 | exact hA.2.2.2.1 | exact hA.2.2.2.2 | exact hA.2.2.2.2.1 | exact hA.2.2.2.2.2 | exact hA.2.2.2.2.2.1 | exact hA.2.2.2.2.2.2 | exact hA.2.2.2.2.2.2.1 | exact hA.2.2.2.2.2.2.2 | exact hA.2.2.2.2.2.2.2.1 | exact hA.2.2.2.2.2.2.2.2 | exact hA.2.2.2.2.2.2.2.2.1 | exact hA.2.2.2.2.2.2.2.2.2)
                      have e1 := r1 (by first | exact hA | exact hA.1 | exact hA.2 | exact hA.2.1 | exact hA.2.2 | exact hA.2.2.1 | exact hA.2.2.2 | exact hA.2.2.2.1 | exact hA.2.2.2.2 | exact hA.2.2.2.2.1 | exact hA.2.2.2.2.2 | exact hA.2.2.2.2.2.1 | exact hA.2.2.2.2.2.2 | exact hA.2.2.2.2.2.2.1 | exact hA.2.2.2.2.2.2.2 | exact hA.2.2.2.2.2.2.2.1 | exact hA.2.2.2.2.2.2.2.2 | exact hA.2.2.2.2.2.2.2.2.1 | exact hA.2.2.2.2.2.2.2.2.2)
                      have e2 := r3 (by first | exact hA | exact hA.1 | exact hA.2 | exact hA.2.1 | exact hA.2.2 | exact hA.2.2.1 | exact hA.2.2.2 | exact hA.2.2.2.1 | exact hA.2.2.2.2 | exact hA.2.2.2.2.1 | exact hA.2.2.2.2.2 | exact hA.2.2.2.2.2.1 | exact hA.2.2.2.2.2.2 | exact hA.2.2.2.2.2.2.1 | exact hA.2.2.2.2.2.2.2 | exact hA.2.2.2.2.2.2.2.1 | exact hA.2.2.2.2.2.2.2.2 | exact hA.2.2.2.2.2.2.2.2.1 | exact hA.2.2.2.2.2.2.2.2.2)
                      have hs6 := r6 (by first | exact hA | exact hA.1 | exact hA.2 | exact hA.2.1 | exact hA.2.2 | exact hA.2.2.1 | exact hA.2.2.2 | exact hA.2.2.2.1 | exact hA.2.2.2.2 | exact hA.2.2.2.2.1 | exact hA.2.2.2.2.2 | exact hA.2.2.2.2.2.1 | exact hA.2.2.2.2.2.2 | exact hA.2.2.2.2.2.2.1 | exact hA.2.2.2.2.2.2.2 | exact hA.2.2.2.2.2.2.2.1 | exact hA.2.2.2.2.2.2.2.2 | exact hA.2.2.2.2.2.2.2.2.1 | exact hA.2.2.2.2.2.2.2.2.2) hi
                      obtain ⟨A6, c6, e3, _⟩ := hs6.val
                      rw [e3] at hs6
                      have HS6 := hd hs6
                      clear hs6
                      refine stepG_plain rfl fun K hK => ?_
                      go_simp
                      refine (HRUP.out w' _ _ HS6.out).mono ?_
                      rintro e w2 ⟨rfl, hb2⟩
                      refine hK _ _ ?_
                      simp [mk, up]
                      exact ⟨hR.trans (hb2.mono hR.size), r0, r1, r2, r3, r4, r5, r8, r9, r10, fun h h' => (r11 h h').below hb2, (fun h => by rw [d12] at h; cases h), r13⟩
                    refine ⟨fun done σ w' a hi hA hC ha hσ ⟨hR, r0, r1, r2, r3, r4, r5, r6, r7, r8, r9, r10, r11, r12, r13⟩ => ?_, ?_⟩
                    · simp [After, Region.binds] at hA
                      have e0 := r7 (by first | exact hA | exact hA.1 | exact hA.2 | exact hA.2.1 | exact hA.2.2 | exact hA.2.2.1 | exact hA.2.2.2 | exact hA.2.2.2.1 | exact hA.2.2.2.2 | exact hA.2.2.2.2.1 | exact hA.2.2.2.2.2 | exact hA.2.2.2.2.2.1 | exact hA.2.2.2.2.2.2 | exact hA.2.2.2.2.2.2.1 | exact hA.2.2.2.2.2.2.2 | exact hA.2.2.2.2.2.2.2.1 | exact hA.2.2.2.2.2.2.2.2 | exact hA.2.2.2.2.2.2.2.2.1 | exact hA.2.2.2.2.2.2.2.2.2)
                      refine stepG_plain rfl fun K hK => ?_
                      go_simp
                      refine hK _ _ ?_
                      simp [mk, up]
                      exact ⟨hR, r0, r1, r2, r3, r4, r5, r6, r7, r9, r10, r11, r12, r13⟩
                    refine ⟨fun done σ w' a hi hA hC ha hσ ⟨hR, r0, r1, r2, r3, r4, r5, r6, r7, r8, r9, r10, r11, r12, r13⟩ => ?_, ?_⟩
                    · simp [After, Region.binds] at hA
                      have e0 := r8 (by first | exact hA | exact hA.1 | exact hA.2 | exact hA.2.1 | exact hA.2.2 | exact hA.2.2.1 | exact hA.2.2.2 | exact hA.2.2.2.1 | exact hA.2.2.2.2 | exact hA.2.2.2.2.1 | exact hA.2.2.2.2.2 | exact hA.2.2.2.2.2.1 | exact hA.2.2.2.2.2.2 | exact hA.2.2.2.2.2.2.1 | exact hA.2.2.2.2.2.2.2 | exact hA.2.2.2.2.2.2.2.1 | exact hA.2.2.2.2.2.2.2.2 | exact hA.2.2.2.2.2.2.2.2.1 | exact hA.2.2.2.2.2.2.2.2.2)
                      refine stepG_plain rfl fun K hK => ?_
                      go_simp
                      refine hK _ _ ?_
                      simp [mk, up]
                      exact ⟨hR, r0, r1, r2, r3, r4, r5, r6, r7, r8, r10, r11, r12, r13⟩
                    refine ⟨fun done σ w' a hi hA hC ha hσ ⟨hR, r0, r1, r2, r3, r4, r5, r6, r7, r8, r9, r10, r11, r12, r13⟩ => ?_, ?_⟩
                    · simp [After, Region.binds] at hA
                      have e0 := r8 (by first | exact hA | exact hA.1 | exact hA.2 | exact hA.2.1 | exact hA.2.2 | exact hA.2.2.1 | exact hA.2.2.2 | exact hA.2.2.2.1 | exact hA.2.2.2.2 | exact hA.2.2.2.2.1 | exact hA.2.2.2.2.2 | exact hA.2.2.2.2.2.1 | exact hA.2.2.2.2.2.2 | exact hA.2.2.2.2.2.2.1 | exact hA.2.2.2.2.2.2.2 | exact hA.2.2.2.2.2.2.2.1 | exact hA.2.2.2.2.2.2.2.2 | exact hA.2.2.2.2.2.2.2.2.1 | exact hA.2.2.2.2.2.2.2.2.2)
                      refine stepG_plain rfl fun K hK => ?_
                      go_simp
                      refine hK _ _ ?_
                      simp [mk, up]
                      exact ⟨hR, r0, r1, r2, r3, r4, r5, r6, r7, r8, r9, r11, r12, r13⟩
                    refine ⟨fun done σ w' a hi hA hC ha hσ ⟨hR, r0, r1, r2, r3, r4, r5, r6, r7, r8, r9, r10, r11, r12, r13⟩ => ?_, ?_⟩
                    · have d12 := hC.at 11 12 _ rfl hi rfl
                      refine stepG_plain rfl fun K hK => ?_
                      go_simp
                      refine hK _ _ ?_
                      simp [mk, up]
                      exact ⟨hR.alloc hR.size _, r0, r1, r2, r3, r4, r5, fun h h' => (r6 h h').below ((Below.refl _ _).alloc (Nat.le_refl _) _), r7, r8, r9, r10, fun _ => ⟨w'.heap.size, rfl, hR.size, heap_alloc_new w' _⟩, (fun h => by rw [d12] at h; cases h), r13⟩
                    refine ⟨fun done σ w' a hi hA hC ha hσ ⟨hR, r0, r1, r2, r3, r4, r5, r6, r7, r8, r9, r10, r11, r12, r13⟩ => ?_, ?_⟩
                    · simp [After, Region.binds] at hA
                      obtain ⟨g1, e1, hg1, hz1⟩ := r11 (by first | exact hA | exact hA.1 | exact hA.2 | exact hA.2.1 | exact hA.2.2 | exact hA.2.2.1 | exact hA.2.2.2 | exact hA.2.2.2.1 | exact hA.2.2.2.2 | exact hA.2.2.2.2.1 | exact hA.2.2.2.2.2 | exact hA.2.2.2.2.2.1 | exact hA.2.2.2.2.2.2 | exact hA.2.2.2.2.2.2.1 | exact hA.2.2.2.2.2.2.2 | exact hA.2.2.2.2.2.2.2.1 | exact hA.2.2.2.2.2.2.2.2 | exact hA.2.2.2.2.2.2.2.2.1 | exact hA.2.2.2.2.2.2.2.2.2) hi
                      have e0 := r9 (by first | exact hA | exact hA.1 | exact hA.2 | exact hA.2.1 | exact hA.2.2 | exact hA.2.2.1 | exact hA.2.2.2 | exact hA.2.2.2.1 | exact hA.2.2.2.2 | exact hA.2.2.2.2.1 | exact hA.2.2.2.2.2 | exact hA.2.2.2.2.2.1 | exact hA.2.2.2.2.2.2 | exact hA.2.2.2.2.2.2.1 | exact hA.2.2.2.2.2.2.2 | exact hA.2.2.2.2.2.2.2.1 | exact hA.2.2.2.2.2.2.2.2 | exact hA.2.2.2.2.2.2.2.2.1 | exact hA.2.2.2.2.2.2.2.2.2)
                      have q7 : done 7 = true := (by first | exact hA | exact hA.1 | exact hA.2 | exact hA.2.1 | exact hA.2.2 | exact hA.2.2.1 | exact hA.2.2.2 | exact hA.2.2.2.1 | exact hA.2.2.2.2 | exact hA.2.2.2.2.1 | exact hA.2.2.2.2.2 | exact hA.2.2.2.2.2.1 | exact hA.2.2.2.2.2.2 | exact hA.2.2.2.2.2.2.1 | exact hA.2.2.2.2.2.2.2 | exact hA.2.2.2.2.2.2.2.1 | exact hA.2.2.2.2.2.2.2.2 | exact hA.2.2.2.2.2.2.2.2.1 | exact hA.2.2.2.2.2.2.2.2.2)
                      have hcan := can_row (o := 0) (n := 32) hz1 (by simp [ucs_size])
                      refine stepG_plain rfl fun K hK => ?_
                      go_simp
                      refine hK undef _ ?_
                      simp [mk, up_none]
                      exact ⟨Below.putSub hR hg1, r0, r1, r2, r3, r4, r5, (fun _ h => by rw [q7] at h; cases h), r7, r8, r9, r10, ⟨g1, e1, putSub_row hz1 (by simp [ucs_size, hul])⟩, r13⟩
                    refine ⟨fun done σ w' a hi hA hC ha hσ ⟨hR, r0, r1, r2, r3, r4, r5, r6, r7, r8, r9, r10, r11, r12, r13⟩ => ?_, trivial⟩
                    · simp [After, Region.binds] at hA
                      have e0 := r10 (by first | exact hA | exact hA.1 | exact hA.2 | exact hA.2.1 | exact hA.2.2 | exact hA.2.2.1 | exact hA.2.2.2 | exact hA.2.2.2.1 | exact hA.2.2.2.2 | exact hA.2.2.2.2.1 | exact hA.2.2.2.2.2 | exact hA.2.2.2.2.2.1 | exact hA.2.2.2.2.2.2 | exact hA.2.2.2.2.2.2.1 | exact hA.2.2.2.2.2.2.2 | exact hA.2.2.2.2.2.2.2.1 | exact hA.2.2.2.2.2.2.2.2 | exact hA.2.2.2.2.2.2.2.2.1 | exact hA.2.2.2.2.2.2.2.2.2)
                      refine stepG_plain rfl fun K hK => ?_
                      go_simp
                      refine hK _ _ ?_
                      simp [mk, up]
                      exact ⟨hR, r0, r1, r2, r3, r4, r5, r6, r7, r8, r9, r10, r11, r12⟩
                  · rintro done σ w' hall hσ ⟨hR, r0, r1, r2, r3, r4, r5, r6, r7, r8, r9, r10, r11, r12, r13⟩
                    obtain ⟨D2, e12, hd2⟩ := r12 (hall 12 (by simp))
                    have e13 := r13 (hall 13 (by simp))
                    simp only [putF, List.foldl_cons, List.foldl_nil, Act.put, List.setIfInBounds_toArray, List.set_cons_succ, List.set_cons_zero]
                    rw [e12, e13]
                    clear hσ r0 r1 r2 r3 r4 r5 r6 r7 r8 r9 r10 r11 r12 r13 hall
                    go_wp2_with fail
                    go_meet
                    exact ⟨D2, rfl, rfl, hd2, hR⟩
                case rest =>
                  obtain ⟨D2, rfl, rfl, hd2, hb9⟩ := hcut
                  have HB9 := hd (HB8.out.trans (hb9.mono HB8.out.size))
                  have hx1 := sub_row (n := 32) ((hb9.block _ (blk_lt HD1.out)).trans HD1.out) (by rw [ucs_size, hul])
                  have hx2 := sub_row (n := 32) hd2 (by rw [ucs_size, hul])
                  have t1 := Nat.lt_of_lt_of_le (blk_lt HD1.out) hb9.size
                  have t2 := blk_lt hd2
                  have HS9 := hd (HS8.out.below hb9)
                  have hq := fun W : World => eq_dig U U hul hul W
                  rw [decide_eq_true rfl] at hq
                  clear hd2 hb9 HD1 HS8 hsubb
                  go_wp2_with (first
                    | (go_at_call 15; refine (num_any _ _).mono ?_; rintro e w4 ⟨rfl, rfl⟩)
                    | (go_at_call 24; refine (HRP.out _ HB9.out).mono ?_; rintro e w5 ⟨v5, rfl, hs5, hb5⟩; obtain ⟨A5, c5, rfl, _⟩ := hs5.val; have HO5 := hd hs5; have HO9 := hd (HS9.out.below hb5); have y1 := (sub_of_heap (hb5.block _ t1)).trans hx1; have y2 := (sub_of_heap (hb5.block _ t2)).trans hx2; have u1 := Nat.lt_of_lt_of_le t1 hb5.size; have u2 := Nat.lt_of_lt_of_le t2 hb5.size; have HB5 := hd (HB9.out.trans (hb5.mono HB9.out.size)); clear hs5 hb5)
                    | (go_at_call 23; refine (HSAME.out _ _ _ _ _ HO9.out HO5.out).mono ?_; rintro e w6 ⟨rfl, hb6⟩; have z1 := (sub_of_heap (hb6.block _ u1)).trans y1; have z2 := (sub_of_heap (hb6.block _ u2)).trans y2; have HB6 := hd (HB5.out.trans (hb6.mono HB5.out.size)); clear hb6))
                  go_roundw
                  case rel => exact ⟨j + 1, by go_num, by omega, HB6.out⟩
                  case measure => simp [intOf]; omega
            · have hge : ¬ (j : Int) < (n : Int) := by omega
              go_wp2_with fail
              go_meet
              exact HBR.out
        case rest =>
          have HB2 := hd (HB.out.trans (hcut.mono hsz))
          clear hcut
          go_wp2_with (first
            | (go_at_call 15; refine (num_any _ _).mono ?_; rintro e w4 ⟨rfl, rfl⟩)
            | (go_at_call 16; refine (works_any _).mono ?_; rintro e w4 ⟨rfl, hb4⟩; have HB4 := hd (HB2.out.trans (hb4.mono HB2.out.size)); clear hb4))
          go_ret
          exact ⟨rfl, HB4.out⟩

end Go.Proofs.Ytjfplkndngmgdaa
