/- The law MerkleSteps, walked. -/
import Derived.Test.YtjfplkndngmgdaaGE
namespace Go.Proofs.Ytjfplkndngmgdaa
set_option maxRecDepth 20000
open Go.RowKit Go.Shelf Sp

set_option maxHeartbeats 1000000 in
theorem lsteps_any (w : World) (i n : Int) :
    Calls Try.prog 3 #[.int .i64 i, .int .i64 n] w fun e w' => e = .returned (.bool true) ∧ Below w.heap.size w w' := by
  have H1 := hd (fun W => steps_any W i n)
  have H2 := hd (fun W => rsteps_any W i n)
  obtain ⟨N, hN⟩ : ∃ N, stN i n = N := ⟨_, rfl⟩
  obtain ⟨E, hE⟩ : ∃ E, stE i n = E := ⟨_, rfl⟩
  rw [hN, hE] at H1 H2
  have h1 : ((N : Int) == (N : Int)) = true := by simp
  have h2 : (E == E) = true := by simp
  clear hN hE
  go_enter Try.func3, Try.ntmps3
  go_wp2_with (first
    | (go_at_call 13; refine (H1.out _).mono ?_; rintro e w1 ⟨rfl, hb1⟩; have HB1 := hd hb1; clear hb1)
    | (go_at_call 14; refine (H2.out _).mono ?_; rintro e w2 ⟨rfl, rfl⟩)
    | (go_at_call 15; refine (num_any _ _).mono ?_; rintro e w3 ⟨rfl, rfl⟩)
    | (go_at_call 16; refine (works_any _).mono ?_; rintro e w4 ⟨rfl, hb4⟩; have HB4 := hd (HB1.out.trans (hb4.mono HB1.out.size)); clear hb4))
  go_ret
  exact ⟨rfl, HB4.out⟩

end Go.Proofs.Ytjfplkndngmgdaa
