/- The law MerkleUps, walked. -/
import Derived.Test.YtjfplkndngmgdaaGE
namespace Go.Proofs.Ytjfplkndngmgdaa
set_option maxRecDepth 20000
open Go.RowKit Go.Shelf Sp

attribute [local go_sem ↓] ldD stD
attribute [local go_sem] run_ldA run_stA arrD loadX_at loadY_some storeX_at storeY_true ucs_size ones_ucs sha_length

theorem ckE_err {root d : Dg} {i n : Int} {path : List Dg} (h : upE i n path.length ≠ 0) : ckE root d i n path = upE i n path.length := by unfold ckE; rw [if_pos h]
theorem ckE_ok {root d : Dg} {i n : Int} {path : List Dg} (h : upE i n path.length = 0) (h2 : upD d i n path = root) : ckE root d i n path = 0 := by unfold ckE; rw [if_neg (by rw [h]; decide), if_pos h2]
theorem ckE_no {root d : Dg} {i n : Int} {path : List Dg} (h : upE i n path.length = 0) (h2 : ¬ upD d i n path = root) : ckE root d i n path = 140 := by unfold ckE; rw [if_neg (by rw [h]; decide), if_neg h2]

set_option maxHeartbeats 4000000 in
set_option maxRecDepth 100000 in
theorem lups_any (w : World) (d root : Dg) (hd0 : d.length = 32) (hr0 : root.length = 32) (i n : Int) (m c : Nat) (A : Option Addr) (path : List Dg) (hs : SlD w (.slice A m c) path m) :
    Calls Try.prog 7 #[.agg (ucs d), .int .i64 i, .int .i64 n, .slice A m c, .agg (ucs root)] w fun e w' => e = .returned (.bool true) ∧ Below w.heap.size w w' := by
  have hl := hs.len
  have hul := upD_length d i n path
  obtain ⟨U, hU⟩ : ∃ U, upD d i n path = U := ⟨_, rfl⟩
  obtain ⟨E, hE⟩ : ∃ E, upE i n m = E := ⟨_, rfl⟩
  obtain ⟨F, hF⟩ : ∃ F, ckE root d i n path = F := ⟨_, rfl⟩
  obtain ⟨G, hG⟩ : ∃ G, ckE U d i n path = G := ⟨_, rfl⟩
  rw [hU] at hul
  have HUP := hd (fun (W : World) (h : Below w.heap.size w W) => show Calls Try.prog 20 #[.agg (ucs d), .int .i64 i, .int .i64 n, .slice A m c] W fun e w' => e = .returned (.tuple #[.agg (ucs U), .int .i64 E]) ∧ Below W.heap.size W w' from by
    have h1 := up_any W d hd0 i n m c A path (hs.below h)
    rwa [hU, hE] at h1)
  have HRUP := hd (fun (W : World) (h : Below w.heap.size w W) => show Calls Try.prog 25 #[.agg (ucs d), .int .i64 i, .int .i64 n, .slice A m c] W fun e w' => e = .returned (.tuple #[.agg (ucs U), .int .i64 E]) ∧ Below W.heap.size W w' from by
    have h1 := rup_any W d hd0 i n m c A path (hs.below h)
    rwa [hU, hE] at h1)
  have HCK := hd (fun (W : World) (h : Below w.heap.size w W) => show Calls Try.prog 21 #[.agg (ucs root), .agg (ucs d), .int .i64 i, .int .i64 n, .slice A m c] W fun e w' => e = .returned (.int .i64 F) ∧ Below W.heap.size W w' from by
    have h1 := check_any W root d hr0 hd0 i n m c A path (hs.below h)
    rwa [hF] at h1)
  have HCG := hd (fun (W : World) (h : Below w.heap.size w W) => show Calls Try.prog 21 #[.agg (ucs U), .agg (ucs d), .int .i64 i, .int .i64 n, .slice A m c] W fun e w' => e = .returned (.int .i64 G) ∧ Below W.heap.size W w' from by
    have h1 := check_any W U d hul hd0 i n m c A path (hs.below h)
    rwa [hG] at h1)
  have HCASE : Hid ((E ≠ 0 ∧ U = List.replicate 32 0 ∧ F = E) ∨ (E = 0 ∧ U = root ∧ F = 0 ∧ G = 0) ∨ (E = 0 ∧ ¬ root = U ∧ F = 140 ∧ G = 0)) := hd (by
    rw [← hl] at hE
    by_cases h0 : E = 0
    · rw [h0] at hE
      have hg : G = 0 := by rw [← hG]; exact ckE_ok hE hU
      by_cases h1 : U = root
      · exact .inr (.inl ⟨h0, h1, by rw [← hF]; exact ckE_ok hE (hU.trans h1), hg⟩)
      · exact .inr (.inr ⟨h0, fun e => h1 e.symm, by rw [← hF]; exact ckE_no hE (by rw [hU]; exact h1), hg⟩)
    · refine .inl ⟨h0, ?_, ?_⟩
      · rw [← hU]; unfold upD; rw [hE, if_neg h0]
      · rw [← hF, ckE_err (by rw [hE]; exact h0), hE])
  clear hs hl hU hE hF hG
  by_cases hm : 40 < m
  · have hmI : (40 : Int) < (m : Int) := by omega
    clear hm
    go_enter Try.func7, Try.ntmps7
    go_wp2_with (go_at_call 16; refine (works_any _).mono ?_; rintro e w4 ⟨rfl, hb4⟩; have HB4 := hd hb4; clear hb4)
    go_ret
    refine ⟨rfl, ?_⟩
    have h1 : Below w.heap.size w ((w.alloc (.cells (ucs d) 35)).alloc (.cells (ucs root) 35)) := ((Below.refl _ _).alloc (Nat.le_refl _) _).alloc (by simp) _
    exact h1.trans (HB4.out.mono (by simp; omega))
  · have hmI : ¬ (40 : Int) < (m : Int) := by omega
    clear hm
    go_enter Try.func7, Try.ntmps7
    go_upto_region 0 with (fail)
    go_cut [5, 9, 10] from 5 to 10 (fun v5 v9 v10 wx => v5 = .pointer (some ⟨w.heap.size, 0, none⟩) ∧ v9 = .pointer (some ⟨w.heap.size + 1, 0, none⟩) ∧ v10 = .bool false ∧ wx.heap[w.heap.size]? = some (.cells (ucs d) 35 (0, 0)) ∧ wx.heap[w.heap.size + 1]? = some (.cells (ucs root) 35 (0, 0)) ∧ wx.heap.size = w.heap.size + 2 ∧ Below w.heap.size w wx)
    case first =>
      go_wp2_with fail
      go_meet
      have h2 := heap_alloc_new (w.alloc (.cells (ucs d) 35)) (.cells (ucs root) 35)
      rw [World.size_alloc] at h2
      exact ⟨rfl, rfl, rfl, blk_alloc (heap_alloc_new w _) _, h2, by simp, ((Below.refl _ _).alloc (Nat.le_refl _) _).alloc (by simp) _⟩
    case rest =>
      obtain ⟨rfl, rfl, rfl, hD, hR, hz, hB⟩ := hcut
      obtain ⟨wa, rfl⟩ : ∃ wa : World, wa = wc := ⟨_, rfl⟩
      have HD := hd hD
      have HR := hd hR
      have HB := hd hB
      have hlt0 : w.heap.size < wa.heap.size := by omega
      have hlt1 : w.heap.size + 1 < wa.heap.size := by omega
      have hsub := sub_row (n := 32) hD (by rw [ucs_size, hd0])
      clear hD hR hB hz
      go_upto_region 3 with (fail)
      go_cut [11, 12] from 11 to 27 (fun v11 v12 wx => ∃ D, v11 = .pointer (some ⟨D, 0, none⟩) ∧ v12 = .int .i64 E ∧ wx.heap[D]? = some (.cells (ucs U) 35 (0, 0)) ∧ Below wa.heap.size wa wx)
      case first =>
        go_wp2_with (go_at_call 20; refine (HUP.out _ HB.out).mono ?_; rintro e w2 ⟨rfl, hb2⟩; have HB2 := hd hb2; have hcan := can_row (o := 0) (n := 32) (heap_alloc_new w2 (.cells (ucs (List.replicate 32 0)) 35)) (by simp [ucs_size]); clear hb2)
        go_meet
        exact ⟨w2.heap.size, rfl, rfl, heap_alloc_new w2 _, HB2.out.alloc HB2.out.size _⟩
      case rest =>
        obtain ⟨D1, rfl, rfl, hD1, hb1⟩ := hcut
        obtain ⟨wb, rfl⟩ : ∃ wb : World, wb = wc := ⟨_, rfl⟩
        have HD1 := hd hD1
        have HB1 := hd (HB.out.trans (hb1.mono (by omega)))
        have HDb := hd ((hb1.block _ hlt0).trans HD.out)
        have HRb := hd ((hb1.block _ hlt1).trans HR.out)
        have hsub := sub_row (n := 32) HDb.out (by rw [ucs_size, hd0])
        clear hD1 hb1 HD HR
        go_upto_region 4 with (fail)
        go_cut [13, 14] from 13 to 35 (fun v11 v12 wx => ∃ D, v11 = .pointer (some ⟨D, 0, none⟩) ∧ v12 = .int .i64 E ∧ wx.heap[D]? = some (.cells (ucs U) 35 (0, 0)) ∧ Below wb.heap.size wb wx)
        case first =>
          go_wp2_with (go_at_call 25; refine (HRUP.out _ HB1.out).mono ?_; rintro e w2 ⟨rfl, hb2⟩; have HB2 := hd hb2; have hcan := can_row (o := 0) (n := 32) (heap_alloc_new w2 (.cells (ucs (List.replicate 32 0)) 35)) (by simp [ucs_size]); clear hb2)
          go_meet
          exact ⟨w2.heap.size, rfl, rfl, heap_alloc_new w2 _, HB2.out.alloc HB2.out.size _⟩
        case rest =>
          obtain ⟨D2, rfl, rfl, hD2, hb2⟩ := hcut
          have HB2 := hd (HB1.out.trans (hb2.mono HB1.out.size))
          have hx1 := sub_row (n := 32) ((hb2.block _ (blk_lt HD1.out)).trans HD1.out) (by rw [ucs_size, hul])
          have hx2 := sub_row (n := 32) hD2 (by rw [ucs_size, hul])
          have hxd := sub_row (n := 32) ((hb2.block _ (blk_lt HDb.out)).trans HDb.out) (by rw [ucs_size, hd0])
          have hxr := sub_row (n := 32) ((hb2.block _ (blk_lt HRb.out)).trans HRb.out) (by rw [ucs_size, hr0])
          have t1 := Nat.lt_of_lt_of_le (blk_lt HD1.out) hb2.size
          have t2 := blk_lt hD2
          have td := Nat.lt_of_lt_of_le (blk_lt HDb.out) hb2.size
          have tr := Nat.lt_of_lt_of_le (blk_lt HRb.out) hb2.size
          clear hD2 hb2 HD1 HB1 HDb HRb HUP HRUP hlt0 hlt1 hsub
          go_upto_region 6 with (go_at_call 21; refine (HCK.out _ HB2.out).mono ?_; rintro e w3 ⟨rfl, hb3⟩; have HB3 := hd (HB2.out.trans (hb3.mono HB2.out.size)); have y1 := (sub_of_heap (hb3.block _ t1)).trans hx1; have y2 := (sub_of_heap (hb3.block _ t2)).trans hx2; have yd := (sub_of_heap (hb3.block _ td)).trans hxd; have yr := (sub_of_heap (hb3.block _ tr)).trans hxr; clear hb3)
          clear hx1 hx2 hxd hxr t1 t2 td tr HCK
          rcases HCASE.out with ⟨c1, c2, c3⟩ | ⟨c1, c2, c3, c4⟩ | ⟨c1, c2, c3, c4⟩
          · subst c3
            have hE1 : (F == 0) = false := by simpa using c1
            have hE2 : (F != 0) = true := by simpa using c1
            have hE3 : (F == F) = true := by simp
            obtain ⟨Z, hZ⟩ : ∃ Z : Dg, List.replicate 32 0 = Z := ⟨_, rfl⟩
            have hZl : Z.length = 32 := by rw [← hZ]; simp
            rw [hZ] at c2
            have HZ := hd hZ
            have hq := fun W : World => eq_dig U Z hul hZl W
            rw [decide_eq_true c2] at hq
            clear hZ
            clear c1 c2
            go_wp2_with (first
              | (refine wpList_built rfl 35 _ rfl (ucs Z) (by rw [← HZ.out]; kernel_rfl) ?_)
              | (go_at_call 15; refine (num_any _ _).mono ?_; rintro e w4 ⟨rfl, rfl⟩)
              | (go_at_call 16; refine (works_any _).mono ?_; rintro e w4 ⟨rfl, hb4⟩; have HB4 := hd (HB3.out.trans (hb4.mono HB3.out.size)); clear hb4))
            go_ret
            exact ⟨rfl, HB4.out⟩
          · subst c1; subst c2; subst c3; subst c4
            have hq := fun W : World => eq_dig U U hul hul W
            rw [decide_eq_true rfl] at hq
            go_wp2_with (first
              | (go_at_call 15; refine (num_any _ _).mono ?_; rintro e w4 ⟨rfl, rfl⟩)
              | (go_at_call 21; refine (HCG.out _ HB3.out).mono ?_; rintro e w5 ⟨rfl, hb5⟩; have HB5 := hd (HB3.out.trans (hb5.mono HB3.out.size)); clear hb5)
              | (go_at_call 16; refine (works_any _).mono ?_; rintro e w4 ⟨rfl, hb4⟩; have HB4 := hd (HB5.out.trans (hb4.mono HB5.out.size)); clear hb4))
            go_ret
            exact ⟨rfl, HB4.out⟩
          · subst c1; subst c3; subst c4
            have hq := fun W : World => eq_dig U U hul hul W
            rw [decide_eq_true rfl] at hq
            have hq2 := fun W : World => eq_dig root U hr0 hul W
            rw [decide_eq_false c2] at hq2
            clear c2
            go_wp2_with (first
              | (go_at_call 15; refine (num_any _ _).mono ?_; rintro e w4 ⟨rfl, rfl⟩)
              | (go_at_call 21; refine (HCG.out _ HB3.out).mono ?_; rintro e w5 ⟨rfl, hb5⟩; have HB5 := hd (HB3.out.trans (hb5.mono HB3.out.size)); clear hb5)
              | (go_at_call 16; refine (works_any _).mono ?_; rintro e w4 ⟨rfl, hb4⟩; have HB4 := hd (HB5.out.trans (hb4.mono HB5.out.size)); clear hb4))
            go_ret
            exact ⟨rfl, HB4.out⟩

end Go.Proofs.Ytjfplkndngmgdaa
