/- The law MerklePaths, walked. -/
import Derived.Test.YtjfplkndngmgdaaGE
namespace Go.Proofs.Ytjfplkndngmgdaa
set_option maxRecDepth 20000
open Go.RowKit Go.Shelf Sp

attribute [local go_sem ↓] ldD stD
attribute [local go_sem] run_ldA run_stA arrD loadX_at loadY_some storeX_at storeY_true ucs_size ones_ucs sha_length

set_option maxHeartbeats 4000000 in
set_option maxRecDepth 100000 in
theorem lpaths_any (w : World) (A : Option Addr) (n c : Nat) (ds : List Dg) (hs : SlD w (.slice A n c) ds n) (i : Int) :
    Calls Try.prog 6 #[.slice A n c, .int .i64 i] w fun e w' => e = .returned (.bool true) ∧ Below w.heap.size w w' := by
  by_cases hn : n < 1 ∨ 16 < n
  · clear hs
    by_cases h1 : n < 1
    · have h1I : (n : Int) < 1 := by omega
      clear hn h1
      go_enter Try.func6, Try.ntmps6
      go_wp2_with (go_at_call 16; refine (works_any _).mono ?_; rintro e w4 ⟨rfl, hb4⟩; have HB4 := hd hb4; clear hb4)
      go_ret
      exact ⟨rfl, HB4.out⟩
    · have h1I : ¬ (n : Int) < 1 := by omega
      have h2I : (16 : Int) < (n : Int) := by omega
      clear hn h1
      go_enter Try.func6, Try.ntmps6
      go_wp2_with (go_at_call 16; refine (works_any _).mono ?_; rintro e w4 ⟨rfl, hb4⟩; have HB4 := hd hb4; clear hb4)
      go_ret
      exact ⟨rfl, HB4.out⟩
  · have h1I : ¬ (n : Int) < 1 := by omega
    have h2I : ¬ (16 : Int) < (n : Int) := by omega
    have h0 : 0 < n := by omega
    have h16 : n ≤ 16 := by omega
    have hlen := hs.len
    have HS := hd hs
    have HNEW := hd (newt_any w A n c ds hs h0 h16)
    have HLEN := hd hlen
    clear hn hs hlen
    go_enter Try.func6, Try.ntmps6
    go_upto_region 3 with (fail)
    go_cut [5, 6] from 5 to 26 (fun v5 v6 wx => ∃ g, v5 = .pointer (some ⟨g, 0, none⟩) ∧ v6 = .int .i64 0 ∧ TreeAt wx w.heap.size wx.heap.size g ds ∧ Below w.heap.size w wx)
    case first =>
      go_wp2_with (go_at_call 17; refine HNEW.out.mono ?_; rintro e w1 ⟨g, rfl, ht, hb1⟩; have HT := hd ht; have HB1 := hd hb1; clear ht hb1)
      go_meet
      exact ⟨g, rfl, rfl, HT.out, HB1.out⟩
    case rest =>
      obtain ⟨g, rfl, rfl, ht, hb⟩ := hcut
      obtain ⟨wa, rfl⟩ : ∃ wa : World, wa = wc := ⟨_, rfl⟩
      have hsz := hb.size
      have HB := hd hb
      have HT := hd ht
      have HSa := hd (HS.out.below hb)
      clear ht hb HNEW HS
      by_cases hi : i < 0 ∨ (n : Int) ≤ i
      · have hpr := tpath_range wa _ _ g ds HT.out i (by have := HLEN.out; omega) (by rw [HLEN.out]; exact hi)
        have HPR := hd hpr
        clear hpr
        by_cases hi0 : i < 0
        · clear hi
          go_wp2_with (first
            | (go_at_call 19; refine HPR.out.mono ?_; rintro e w3 ⟨rfl, hb3⟩; have HB3 := hd (HB.out.trans (hb3.mono hsz)); clear hb3)
            | (go_at_call 15; refine (num_any _ _).mono ?_; rintro e w4 ⟨rfl, rfl⟩)
            | (go_at_call 16; refine (works_any _).mono ?_; rintro e w4 ⟨rfl, hb4⟩; have HB4 := hd (HB3.out.trans (hb4.mono HB3.out.size)); clear hb4))
          go_ret
          exact ⟨rfl, HB4.out⟩
        · have hin : (n : Int) ≤ i := by omega
          clear hi
          go_wp2_with (first
            | (go_at_call 19; refine HPR.out.mono ?_; rintro e w3 ⟨rfl, hb3⟩; have HB3 := hd (HB.out.trans (hb3.mono hsz)); clear hb3)
            | (go_at_call 15; refine (num_any _ _).mono ?_; rintro e w4 ⟨rfl, rfl⟩)
            | (go_at_call 16; refine (works_any _).mono ?_; rintro e w4 ⟨rfl, hb4⟩; have HB4 := hd (HB3.out.trans (hb4.mono HB3.out.size)); clear hb4))
          go_ret
          exact ⟨rfl, HB4.out⟩
      · obtain ⟨j, rfl⟩ : ∃ j : Nat, i = (j : Int) := ⟨i.toNat, by omega⟩
        have hi0 : ¬ (j : Int) < 0 := by omega
        have hin : ¬ (n : Int) ≤ (j : Int) := by omega
        have hjn : j < n := by omega
        have hP32 : All32 (pathOf ds j) := path32 _ _ rfl (List.prefix_refl _)
        have hPl := pathOf_length ds j
        rw [HLEN.out] at hPl
        obtain ⟨P, hP⟩ : ∃ P, pathOf ds j = P := ⟨_, rfl⟩
        obtain ⟨N, hN⟩ : ∃ N, steps (oths j n) = N := ⟨_, rfl⟩
        rw [hP] at hP32 hPl
        rw [hN] at hPl
        have hN16 : N ≤ 16 := by
          rw [← hN]
          have h3 := steps_le (oths j n)
          have h4 : (oths j n).length ≤ n := oth_len _ _ _
          omega
        have HPATH := hd (fun (W : World) (hW : Below wa.heap.size wa W) => show Calls Try.prog 19 #[.pointer (some ⟨g, 0, none⟩), .int .i64 (j : Int)] W fun e w' => ∃ v, e = .returned (.tuple #[v, .int .i64 0]) ∧ w'.ownsRow W.heap.size 35 32 v N (dcs P) ∧ Below W.heap.size W w' from by
          have h5 := tpath_ok W _ _ g ds (HT.out.below (Nat.le_refl _) hW) j (by rw [HLEN.out]; exact hjn) (by rw [HLEN.out]; exact h16)
          rwa [HLEN.out, hN, hP] at h5)
        have HRP := hd (fun (W : World) (hW : Below wa.heap.size wa W) => show Calls Try.prog 24 #[.slice A n c, .int .i64 (j : Int)] W fun e w' => ∃ v, e = .returned v ∧ w'.ownsRow W.heap.size 35 32 v N (dcs P) ∧ Below W.heap.size W w' from by
          have h5 := rpath_any W A n c ds (HSa.out.below hW) j hjn h16
          rwa [hN, hP] at h5)
        have HSAME := hd (fun (W : World) (A1 A2 : Option Addr) (c1 c2 : Nat) (h1 : SlD W (.slice A1 N c1) P N) (h2 : SlD W (.slice A2 N c2) P N) => show Calls Try.prog 23 #[.slice A1 N c1, .slice A2 N c2] W fun e w' => e = .returned (.bool true) ∧ Below W.heap.size W w' from by
          have h5 := same_any W A1 A2 N N c1 c2 P P h1 h2 (by omega)
          rwa [decide_eq_true rfl] at h5)
        have HP32 := hd hP32
        have HPL := hd hPl
        clear hi hP hN hP32 hPl HT
        go_upto_region 4 with (fail)
        go_cut [7, 8] from 7 to 32 (fun v7 v8 wx => ∃ A7 c7, v7 = .slice A7 N c7 ∧ v8 = .int .i64 0 ∧ wx.ownsRow wa.heap.size 35 32 (.slice A7 N c7) N (dcs P) ∧ Below wa.heap.size wa wx)
        case first =>
          go_wp2_with (go_at_call 19; refine (HPATH.out _ (Below.refl _ _)).mono ?_; rintro e w3 ⟨v3, rfl, ho3, hb3⟩; obtain ⟨A3, c3, rfl, _⟩ := own_cl ho3; have HO3 := hd ho3; have HB3 := hd hb3; clear ho3 hb3)
          go_meet
          exact ⟨A3, c3, rfl, rfl, HO3.out, HB3.out⟩
        case rest =>
          obtain ⟨A7, c7, rfl, rfl, ho7, hb7⟩ := hcut
          obtain ⟨wb, rfl⟩ : ∃ wb : World, wb = wc := ⟨_, rfl⟩
          have HO7 := hd ho7
          have HB7 := hd hb7
          clear ho7 hb7
          go_upto_region 7 with (fail)
          go_cut [9] from 57 to 61 (fun v9 wx => v9 = .bool true ∧ Below wb.heap.size wb wx)
          case first =>
            go_wp2_with (first
              | (go_at_call 24; refine (HRP.out _ HB7.out).mono ?_; rintro e w3 ⟨v3, rfl, ho3, hb3⟩; obtain ⟨A3, c3, rfl, _⟩ := own_cl ho3; have HO3 := hd (own_sld ho3 HP32.out); have HO8 := hd ((own_sld HO7.out HP32.out).below hb3); have HB3 := hd hb3; clear ho3 hb3)
              | (go_at_call 23; refine (HSAME.out _ _ _ _ _ HO8.out HO3.out).mono ?_; rintro e w4 ⟨rfl, hb4⟩; have HB4 := hd (HB3.out.trans (hb4.mono HB3.out.size)); clear hb4))
            go_meet
            exact ⟨rfl, HB4.out⟩
          case rest =>
            obtain ⟨rfl, hb8⟩ := hcut
            obtain ⟨wd, rfl⟩ : ∃ wd : World, wd = wc := ⟨_, rfl⟩
            have HO8 := hd (own_below HO7.out hb8)
            have HB8 := hd (HB7.out.trans (hb8.mono HB7.out.size))
            clear hb8 HO7
            go_upto_block 0 with (fail)
            go_cut [10] from 62 to 77 (fun _ wx => Below wa.heap.size wa wx)
            case first =>
              go_wp2_with fail
              go_loopw [10] (fun x wr => ∃ (k : Nat) (es : List Dg), x = .int .i64 (k : Int) ∧ k ≤ N ∧ es.length = N ∧ All32 es ∧ wr.ownsRow wa.heap.size 35 32 (.slice A7 N c7) N (dcs es) ∧ Below wa.heap.size wa wr) (fun x _ => N - (intOf x).toNat)
              case atStart => exact ⟨0, P, rfl, Nat.zero_le _, HPL.out, HP32.out, HO8.out, HB8.out⟩
              case round =>
                obtain ⟨k, es, rfl, hk, hel, he32, hown, hbr⟩ := hrel
                by_cases hlt : k < N
                · have hltI : (k : Int) < (N : Int) := by omega
                  have hk0 : (0 : Int) ≤ (k : Int) := by omega
                  obtain ⟨d, hdk⟩ : ∃ d, es[k]? = some d := ⟨es[k]'(by omega), List.getElem?_eq_getElem (by omega)⟩
                  obtain ⟨g7, e7, hg7⟩ : ∃ g7, A7 = some ⟨g7, 0, none⟩ ∧ wa.heap.size ≤ g7 := by
                    rcases hown.2 with ⟨e, h0⟩ | ⟨g', cap', cur, e, hb', _⟩
                    · omega
                    · cases e; exact ⟨_, rfl, hb'⟩
                  subst e7
                  have hcell := own_byte (a := 0) hown he32 hdk (by omega)
                  have hset := own_setD (a := 0) hown he32 hdk (by omega) (d.getD 0 0 + 1)
                  rw [Nat.add_zero] at hcell hset
                  obtain ⟨hc1, hf1⟩ := hcell
                  have hnew : All32 (es.set k (d.set 0 (d.getD 0 0 + 1))) := all32_set he32 k (by rw [List.length_set]; exact he32.get hdk)
                  have hnl : (es.set k (d.set 0 (d.getD 0 0 + 1))).length = N := by rw [List.length_set]; exact hel
                  have hib := ib_succ (d.getD 0 0)
                  have hbl := ib_lo (d.getD 0 0)
                  have hbh := ib_hi (d.getD 0 0)
                  obtain ⟨q, hq⟩ : ∃ q, d.getD 0 0 = q := ⟨_, rfl⟩
                  rw [hq] at hc1 hset hnew hnl hib hbl hbh
                  obtain ⟨es', hes⟩ : ∃ es', es.set k (d.set 0 (q + 1)) = es' := ⟨_, rfl⟩
                  rw [hes] at hset hnew hnl
                  rw [← hib] at hset
                  have HSET := hd hset
                  have HNEW := hd hnew
                  have HNL := hd hnl
                  have HBR := hd hbr
                  clear hset hnew hnl hes hq hib hdk hown he32 hel hbr
                  go_wp2_with fail
                  go_region
                  all_goals (
                    go_wp2_with fail
                    go_roundw
                    case rel => exact ⟨k + 1, es', by go_num, by omega, HNL.out, HNEW.out, HSET.out, Below.drew (HBR.out.setCell (p := ⟨g7, k * 32, none⟩) hg7 _)⟩
                    case measure => simp [intOf]; omega)
                · have hge : ¬ (k : Int) < (N : Int) := by omega
                  have HBR := hd hbr
                  clear hown hbr he32
                  go_wp2_with fail
                  go_meet
                  exact HBR.out
            case rest =>
              have HBz := hd hcut
              have hszz := hcut.size
              clear hcut
              go_wp2_with (first
                | (go_at_call 19; refine (HPATH.out _ HBz.out).mono ?_; rintro e w3 ⟨v3, rfl, ho3, hb3⟩; obtain ⟨A3, c3, rfl, _⟩ := own_cl ho3; have HO3 := hd (own_sld ho3 HP32.out); have HB3 := hd (HBz.out.trans (hb3.mono hszz)); clear ho3 hb3)
                | (go_at_call 24; refine (HRP.out _ HB3.out).mono ?_; rintro e w5 ⟨v5, rfl, ho5, hb5⟩; obtain ⟨A5, c5, rfl, _⟩ := own_cl ho5; have HO5 := hd (own_sld ho5 HP32.out); have HO6 := hd (HO3.out.below hb5); have HB5 := hd (HB3.out.trans (hb5.mono HB3.out.size)); clear ho5 hb5)
                | (go_at_call 23; refine (HSAME.out _ _ _ _ _ HO6.out HO5.out).mono ?_; rintro e w6 ⟨rfl, hb6⟩; have HB6 := hd (HB5.out.trans (hb6.mono HB5.out.size)); clear hb6)
                | (go_at_call 15; refine (num_any _ _).mono ?_; rintro e w7 ⟨rfl, rfl⟩)
                | (go_at_call 16; refine (works_any _).mono ?_; rintro e w8 ⟨rfl, hb8⟩; have HB9 := hd (HB6.out.trans (hb8.mono HB6.out.size)); clear hb8))
              go_ret
              exact ⟨rfl, HB.out.trans (HB9.out.mono hsz)⟩

end Go.Proofs.Ytjfplkndngmgdaa
