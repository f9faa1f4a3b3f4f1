/- The law MerkleLengths, walked. -/
import Derived.Test.YtjfplkndngmgdaaGE
namespace Go.Proofs.Ytjfplkndngmgdaa
set_option maxRecDepth 20000
open Go.RowKit Go.Shelf Sp

theorem steps_four : ∀ (n : Fin 17) (i : Fin 17), i.val < n.val → steps (oths i.val n.val) ≤ 4 := by decide +kernel

set_option maxHeartbeats 2000000 in
theorem llengths_any (w : World) :
    Calls Try.prog 4 #[] w fun e w' => e = .returned (.bool true) ∧ Below w.heap.size w w' := by
  go_enter Try.func4, Try.ntmps4
  go_upto_block 0 with (fail)
  go_cut [1] from 1 to 53 (fun _ wx => Below w.heap.size w wx)
  case first =>
    go_wp2_with fail
    go_loopw [1] (fun x wr => ∃ n : Nat, x = .int .i64 (n : Int) ∧ 1 ≤ n ∧ n ≤ 17 ∧ Below w.heap.size w wr) (fun x _ => 17 - (intOf x).toNat)
    case atStart => exact ⟨1, rfl, by omega, by omega, Below.refl _ _⟩
    case round =>
      obtain ⟨n, rfl, hn1, hn17, hB⟩ := hrel
      obtain ⟨wo, rfl⟩ : ∃ wo : World, wo = wr := ⟨_, rfl⟩
      have HB := hd hB
      by_cases hn : n ≤ 16
      · have hnI : (n : Int) ≤ 16 := by omega
        clear hB
        go_upto_block 2 with (fail)
        go_cut [2, 3, 4, 5, 6] from 15 to 44 (fun _ _ _ _ _ wx => Below w.heap.size w wx)
        case first =>
          go_wp2_with fail
          go_loopw [2] (fun x wr => ∃ i : Nat, x = .int .i64 (i : Int) ∧ i ≤ n ∧ Below w.heap.size w wr) (fun x _ => n - (intOf x).toNat)
          case atStart => exact ⟨0, rfl, by omega, HB.out⟩
          case round =>
            obtain ⟨i, rfl, hi, hB1⟩ := hrel
            have HB1 := hd hB1
            by_cases hlt : i < n
            · have hltI : (i : Int) < (n : Int) := by omega
              have h4 := steps_four ⟨n, by omega⟩ ⟨i, by omega⟩ hlt
              have HS := hd (fun W => steps_ok W i n hlt hn)
              have HR := hd (fun W => rsteps_ok W i n hlt hn)
              obtain ⟨N, hN⟩ : ∃ N, steps (oths i n) = N := ⟨_, rfl⟩
              simp only at h4
              rw [hN] at HS HR h4
              have hNN : ((N : Int) != (N : Int)) = false := by simp
              have hN4 : ¬ (4 : Int) < (N : Int) := by omega
              clear hN hB1 h4
              go_wp2_with (first
                | (go_at_call 13; refine (HS.out _).mono ?_; rintro e w1 ⟨rfl, hb1⟩; have HB2 := hd (HB1.out.trans (hb1.mono HB1.out.size)); clear hb1)
                | (go_at_call 14; refine (HR.out _).mono ?_; rintro e w2 ⟨rfl, rfl⟩)
                | (go_at_call 15; refine (num_any _ _).mono ?_; rintro e w3 ⟨rfl, rfl⟩))
              go_roundw
              case rel => exact ⟨i + 1, by go_num, by omega, HB2.out⟩
              case measure => simp [intOf]; omega
            · have hle : ¬ (i : Int) < (n : Int) := by omega
              clear hB1
              go_wp2_with fail
              go_meet
              exact HB1.out
        case rest =>
          have HB2 := hd hcut
          have HS := hd (fun W => steps_range W (n : Int) (n : Int) (by omega) (by omega) (.inr (Int.le_refl _)))
          clear hcut
          go_wp2_with (first
            | (go_at_call 13; refine (HS.out _).mono ?_; rintro e w1 ⟨rfl, rfl⟩)
            | (go_at_call 15; refine (num_any _ _).mono ?_; rintro e w3 ⟨rfl, rfl⟩))
          go_roundw
          case rel => exact ⟨n + 1, by go_num, by omega, by omega, HB2.out⟩
          case measure => simp [intOf]; omega
      · have hnI : ¬ (n : Int) ≤ 16 := by omega
        clear hB
        go_wp2_with fail
        go_meet
        exact HB.out
  case rest =>
    have HB := hd hcut
    clear hcut
    go_wp2_with (first
      | (go_at_call 13; refine (steps_arg _ 0 17 (by omega)).mono ?_; rintro e w1 ⟨rfl, rfl⟩)
      | (go_at_call 15; refine (num_any _ _).mono ?_; rintro e w3 ⟨rfl, rfl⟩)
      | (go_at_call 16; refine (works_any _).mono ?_; rintro e w4 ⟨rfl, hb4⟩; have HB4 := hd (HB.out.trans (hb4.mono HB.out.size)); clear hb4))
    go_ret
    exact ⟨rfl, HB4.out⟩

end Go.Proofs.Ytjfplkndngmgdaa
