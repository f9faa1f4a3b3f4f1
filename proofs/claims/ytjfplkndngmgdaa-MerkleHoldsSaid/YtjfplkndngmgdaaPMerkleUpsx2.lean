-- PRINTED BY print.sh 35421559b90ae4d0a3588c463048766b98c2df88dd9212a6774a882060cdf62d: not written by this session
import Derived.Test.YtjfplkndngmgdaaPMerkleUpsx0
import Derived.Test.YtjfplkndngmgdaaPMerkleUpsx1
namespace Go.Proofs.Ytjfplkndngmgdaa.PMerkleUps
open Go.RowKit Go.Proofs.YtjfplkndngmgdaaW.PrintWords Go.Proofs.YtjfplkndngmgdaaW.PrintLast Go.Proofs.YtjfplkndngmgdaaW.PrintMore
attribute [local go_sem] max2_int min2_int max_two min_two max_three min_three max_four min_four   -- for this text's walks alone
set_option linter.unusedVariables false
set_option linter.unusedSimpArgs false

/-! ### cachetref01_root: function 62 -/
def cachetref01_root.l0 : Nat → Int → Bool → Int → Int → Option (Int)
  | 0, _, _, _, _ => none
  | k + 1, x0, x1, x5, x6 => if x6 ≥ 0 then (if 0 ≤ (IntKind.u64.wrap (x6)) then (if x1 = true then (if (IntKind.u64.wrap (x5 + (shl .u64 1 (IntKind.u64.wrap (x6))))) < 68719476736 then ((cachetref01_cubeAtMost.f (IntKind.u64.wrap (x5 + (shl .u64 1 (IntKind.u64.wrap (x6))))) x0).bind fun t121 => (if t121 = true then (cachetref01_root.l0 k x0 x1 (IntKind.u64.wrap (x5 + (shl .u64 1 (IntKind.u64.wrap (x6))))) (wrap64 (x6 - 1))) else (cachetref01_root.l0 k x0 x1 x5 (wrap64 (x6 - 1))))) else (cachetref01_root.l0 k x0 x1 x5 (wrap64 (x6 - 1)))) else ((cachetref01_squareAtMost.f (IntKind.u64.wrap (x5 + (shl .u64 1 (IntKind.u64.wrap (x6))))) x0).bind fun t122 => (if t122 = true then (cachetref01_root.l0 k x0 x1 (IntKind.u64.wrap (x5 + (shl .u64 1 (IntKind.u64.wrap (x6))))) (wrap64 (x6 - 1))) else (cachetref01_root.l0 k x0 x1 x5 (wrap64 (x6 - 1)))))) else (none)) else (some ((Int.tmod x5 4294967296) % 4294967296))
def cachetref01_root.f (k : Nat) (a0 : Int) (a1 : Bool) : Option (Int) := cachetref01_root.l0 k a0 a1 0 36
theorem cachetref01_root.mono_l : ∀ k, (∀ y0 y1 y2 y3, LeO (cachetref01_root.l0 k y0 y1 y2 y3) (cachetref01_root.l0 (k + 1) y0 y1 y2 y3))
  | 0 => fun _ _ _ _ r h => by simp [cachetref01_root.l0] at h
  | k + 1 => by
    have ih0 := cachetref01_root.mono_l k
    · intro y0 y1 y2 y3
      unfold cachetref01_root.l0
      repeat' first
      | (with_reducible exact ih0 _ _ _ _)
      | (with_reducible exact LeO.refl _)
      | (with_reducible exact LeO.none _)
      | (with_reducible refine LeO.ite ?_ ?_)
      | (with_reducible refine LeO.bind ?_ (fun _ => ?_))
      | exact ih0 _ _ _ _
      | exact LeO.none _
      | refine LeO.ite ?_ ?_
      | refine LeO.bind ?_ (fun _ => ?_)
theorem cachetref01_root.mono : ∀ a0 a1 k, LeO (cachetref01_root.f k a0 a1) (cachetref01_root.f (k + 1) a0 a1) := by
  intro a0 a1 k
  have ih0 := cachetref01_root.mono_l k
  unfold cachetref01_root.f
  repeat' first
      | (with_reducible exact ih0 _ _ _ _)
      | (with_reducible exact LeO.refl _)
      | (with_reducible exact LeO.none _)
      | (with_reducible refine LeO.ite ?_ ?_)
      | (with_reducible refine LeO.bind ?_ (fun _ => ?_))
      | exact ih0 _ _ _ _
      | exact LeO.none _
      | refine LeO.ite ?_ ?_
      | refine LeO.bind ?_ (fun _ => ?_)
set_option maxHeartbeats 8000000 in
set_option maxRecDepth 100000 in
theorem cachetref01_root.calls (k : Nat) (a0 : Int) (a1 : Bool) (r : Int) (w : World) (h : cachetref01_root.f k a0 a1 = some r) :
    Calls Try.prog 62 #[.int .u64 a0, .bool a1] w fun e w' => e = .returned (.int .u32 r) ∧ Drawn0 w w' := by
  have H : (cachetref01_root.l0 k a0 a1 0 36) = some r := h
  clear h
  have H' := Aside0.mk H
  clear H
  go_enter Try.func62, Try.ntmps62
  go_wp2
  go_loopg [5, 6] k (fun kq v5 v6 w' => ∃ (x5_1 : Int) (x6_1 : Int), v5 = .int .u64 x5_1 ∧ v6 = .int .i64 x6_1 ∧ Aside0 (cachetref01_root.l0 kq a0 a1 x5_1 x6_1 = some r) ∧ Aside0 (kq ≤ k) ∧ Drawn0 w w')
  case atStart => exact ⟨(0), (36), (by first | rfl | (simp; done) | (simp [*]; done)), (by first | rfl | (simp; done) | (simp [*]; done)), H', ⟨Nat.le_refl _⟩, by repeat (first | exact Drawn0.refl _ | apply Drawn0.step)⟩
  case round =>
    clear H'
    try clear p2
    obtain ⟨x5_1, x6_1, rfl, rfl, HA, HK1, ⟨m1, rfl⟩⟩ := hrel
    cases gk with
    | zero => exact absurd HA.out (by simp [cachetref01_root.l0])
    | succ k1 =>
      have H := HA.out
      clear HA
      simp only [cachetref01_root.l0] at H
      by_cases c3 : x6_1 ≥ 0
      · rw [if_pos c3] at H
        have c3b0 : decide (0 ≤ x6_1) = true := decide_eq_true c3
        clear c3
        obtain ⟨ji4, hji4⟩ : ∃ j_ : Int, (IntKind.u64.wrap (x6_1)) = j_ := ⟨_, rfl⟩
        replace H : (if 0 ≤ (ji4) then (if a1 = true then (if (IntKind.u64.wrap (x5_1 + (shl .u64 1 (ji4)))) < 68719476736 then ((cachetref01_cubeAtMost.f (IntKind.u64.wrap (x5_1 + (shl .u64 1 (ji4)))) a0).bind fun t121 => (if t121 = true then (cachetref01_root.l0 k1 a0 a1 (IntKind.u64.wrap (x5_1 + (shl .u64 1 (ji4)))) (wrap64 (x6_1 - 1))) else (cachetref01_root.l0 k1 a0 a1 x5_1 (wrap64 (x6_1 - 1))))) else (cachetref01_root.l0 k1 a0 a1 x5_1 (wrap64 (x6_1 - 1)))) else ((cachetref01_squareAtMost.f (IntKind.u64.wrap (x5_1 + (shl .u64 1 (ji4)))) a0).bind fun t122 => (if t122 = true then (cachetref01_root.l0 k1 a0 a1 (IntKind.u64.wrap (x5_1 + (shl .u64 1 (ji4)))) (wrap64 (x6_1 - 1))) else (cachetref01_root.l0 k1 a0 a1 x5_1 (wrap64 (x6_1 - 1)))))) else (none)) = some r := by first | (rw [hji4] at H; exact H) | (simp only [hji4] at H ⊢; exact H)
        by_cases c5 : 0 ≤ (ji4)
        · rw [if_pos c5] at H
          have c5b0 := eq_true c5
          have c5b1 : decide (0 ≤ (ji4)) = true := decide_eq_true c5
          clear c5
          obtain ⟨ji6, hji6⟩ : ∃ j_ : Int, (shl .u64 1 (ji4)) = j_ := ⟨_, rfl⟩
          replace H : (if a1 = true then (if (IntKind.u64.wrap (x5_1 + (ji6))) < 68719476736 then ((cachetref01_cubeAtMost.f (IntKind.u64.wrap (x5_1 + (ji6))) a0).bind fun t121 => (if t121 = true then (cachetref01_root.l0 k1 a0 a1 (IntKind.u64.wrap (x5_1 + (ji6))) (wrap64 (x6_1 - 1))) else (cachetref01_root.l0 k1 a0 a1 x5_1 (wrap64 (x6_1 - 1))))) else (cachetref01_root.l0 k1 a0 a1 x5_1 (wrap64 (x6_1 - 1)))) else ((cachetref01_squareAtMost.f (IntKind.u64.wrap (x5_1 + (ji6))) a0).bind fun t122 => (if t122 = true then (cachetref01_root.l0 k1 a0 a1 (IntKind.u64.wrap (x5_1 + (ji6))) (wrap64 (x6_1 - 1))) else (cachetref01_root.l0 k1 a0 a1 x5_1 (wrap64 (x6_1 - 1)))))) = some r := by first | (rw [hji6] at H; exact H) | (simp only [hji6] at H ⊢; exact H)
          have hji6_ : (IntKind.u64.wrap (1 * 2 ^ min (ji4).toNat 64)) = ji6 := hji6
          have hji6z : (ji4) ≤ 64 → (IntKind.u64.wrap (1 * 2 ^ (ji4).toNat)) = ji6 := shl_small hji6
          have hji6u : (IntKind.u64.wrap (2 ^ min (ji4).toNat 64)) = ji6 := by have h_ := hji6_; rw [Int.one_mul] at h_; exact h_
          have hji6v : (ji4) ≤ 64 → (IntKind.u64.wrap (2 ^ (ji4).toNat)) = ji6 := fun hle_ => by have h_ := hji6z hle_; rw [Int.one_mul] at h_; exact h_
          by_cases c7 : a1 = true
          · subst c7
            have H1 : (if (IntKind.u64.wrap (x5_1 + (ji6))) < 68719476736 then ((cachetref01_cubeAtMost.f (IntKind.u64.wrap (x5_1 + (ji6))) a0).bind fun t121 => (if t121 = true then (cachetref01_root.l0 k1 a0 true (IntKind.u64.wrap (x5_1 + (ji6))) (wrap64 (x6_1 - 1))) else (cachetref01_root.l0 k1 a0 true x5_1 (wrap64 (x6_1 - 1))))) else (cachetref01_root.l0 k1 a0 true x5_1 (wrap64 (x6_1 - 1)))) = some r := by rw [if_pos rfl] at H; exact H
            clear H
            have H := H1
            clear H1
            by_cases c8 : (IntKind.u64.wrap (x5_1 + (ji6))) < 68719476736
            · rw [if_pos c8] at H
              have c8b0 : decide ((IntKind.u64.wrap (x5_1 + (ji6))) < 68719476736) = true := decide_eq_true c8
              clear c8
              replace H := Option.bind_eq_some_iff.mp H
              obtain ⟨t121, A90, H⟩ := H
              replace H : (if t121 = true then (cachetref01_root.l0 k1 a0 true (IntKind.u64.wrap (x5_1 + (ji6))) (wrap64 (x6_1 - 1))) else (cachetref01_root.l0 k1 a0 true x5_1 (wrap64 (x6_1 - 1)))) = some r := H
              have A9 := Aside0.mk A90
              clear A90
              by_cases c10 : t121 = true
              · subst c10
                have H1 : (cachetref01_root.l0 k1 a0 true (IntKind.u64.wrap (x5_1 + (ji6))) (wrap64 (x6_1 - 1))) = some r := by rw [if_pos rfl] at H; exact H
                clear H
                have H := H1
                clear H1
                have H' := Aside0.mk H
                clear H
                go_wp2_with (first | (go_at_call 69; (with_reducible refine (cachetref01_cubeAtMost.calls (IntKind.u64.wrap (x5_1 + (ji6))) a0 true _ A9.out).mono ?_); rintro e w' ⟨rfl, ⟨nd, rfl⟩⟩))
                go_roundg k1
                case measure => have := HK1.out; omega
                case rel => exact ⟨(IntKind.u64.wrap (x5_1 + (ji6))), (wrap64 (x6_1 - 1)), (by first | rfl | (simp; done) | (simp only [← hji6] <;> (first | rfl | simp)) | (simp [*]; done)), (by first | rfl | (simp; done) | (simp [*]; done)), H', ⟨by have := HK1.out; omega⟩, by repeat (first | exact Drawn0.refl _ | apply Drawn0.step)⟩
              · replace c10 := Bool.eq_false_iff.mpr c10
                subst c10
                have H1 : (cachetref01_root.l0 k1 a0 true x5_1 (wrap64 (x6_1 - 1))) = some r := by rw [if_neg (show ¬ (false = true) by decide)] at H; exact H
                clear H
                have H := H1
                clear H1
                have H' := Aside0.mk H
                clear H
                go_wp2_with (first | (go_at_call 69; (with_reducible refine (cachetref01_cubeAtMost.calls (IntKind.u64.wrap (x5_1 + (ji6))) a0 false _ A9.out).mono ?_); rintro e w' ⟨rfl, ⟨nd, rfl⟩⟩))
                go_roundg k1
                case measure => have := HK1.out; omega
                case rel => exact ⟨(x5_1), (wrap64 (x6_1 - 1)), (by first | rfl | (simp; done) | (simp [*]; done)), (by first | rfl | (simp; done) | (simp [*]; done)), H', ⟨by have := HK1.out; omega⟩, by repeat (first | exact Drawn0.refl _ | apply Drawn0.step)⟩
            · rw [if_neg c8] at H
              have c8b0 : decide ((IntKind.u64.wrap (x5_1 + (ji6))) < 68719476736) = false := decide_eq_false c8
              clear c8
              have H' := Aside0.mk H
              clear H
              go_wp2
              go_roundg k1
              case measure => have := HK1.out; omega
              case rel => exact ⟨(x5_1), (wrap64 (x6_1 - 1)), (by first | rfl | (simp; done) | (simp [*]; done)), (by first | rfl | (simp; done) | (simp [*]; done)), H', ⟨by have := HK1.out; omega⟩, by repeat (first | exact Drawn0.refl _ | apply Drawn0.step)⟩
          · replace c7 := Bool.eq_false_iff.mpr c7
            subst c7
            have H1 : ((cachetref01_squareAtMost.f (IntKind.u64.wrap (x5_1 + (ji6))) a0).bind fun t122 => (if t122 = true then (cachetref01_root.l0 k1 a0 false (IntKind.u64.wrap (x5_1 + (ji6))) (wrap64 (x6_1 - 1))) else (cachetref01_root.l0 k1 a0 false x5_1 (wrap64 (x6_1 - 1))))) = some r := by rw [if_neg (show ¬ (false = true) by decide)] at H; exact H
            clear H
            have H := H1
            clear H1
            replace H := Option.bind_eq_some_iff.mp H
            obtain ⟨t122, A110, H⟩ := H
            replace H : (if t122 = true then (cachetref01_root.l0 k1 a0 false (IntKind.u64.wrap (x5_1 + (ji6))) (wrap64 (x6_1 - 1))) else (cachetref01_root.l0 k1 a0 false x5_1 (wrap64 (x6_1 - 1)))) = some r := H
            have A11 := Aside0.mk A110
            clear A110
            by_cases c12 : t122 = true
            · subst c12
              have H1 : (cachetref01_root.l0 k1 a0 false (IntKind.u64.wrap (x5_1 + (ji6))) (wrap64 (x6_1 - 1))) = some r := by rw [if_pos rfl] at H; exact H
              clear H
              have H := H1
              clear H1
              have H' := Aside0.mk H
              clear H
              go_wp2_with (first | (go_at_call 70; (with_reducible refine (cachetref01_squareAtMost.calls (IntKind.u64.wrap (x5_1 + (ji6))) a0 true _ A11.out).mono ?_); rintro e w' ⟨rfl, ⟨nd, rfl⟩⟩))
              go_roundg k1
              case measure => have := HK1.out; omega
              case rel => exact ⟨(IntKind.u64.wrap (x5_1 + (ji6))), (wrap64 (x6_1 - 1)), (by first | rfl | (simp; done) | (simp only [← hji6] <;> (first | rfl | simp)) | (simp [*]; done)), (by first | rfl | (simp; done) | (simp [*]; done)), H', ⟨by have := HK1.out; omega⟩, by repeat (first | exact Drawn0.refl _ | apply Drawn0.step)⟩
            · replace c12 := Bool.eq_false_iff.mpr c12
              subst c12
              have H1 : (cachetref01_root.l0 k1 a0 false x5_1 (wrap64 (x6_1 - 1))) = some r := by rw [if_neg (show ¬ (false = true) by decide)] at H; exact H
              clear H
              have H := H1
              clear H1
              have H' := Aside0.mk H
              clear H
              go_wp2_with (first | (go_at_call 70; (with_reducible refine (cachetref01_squareAtMost.calls (IntKind.u64.wrap (x5_1 + (ji6))) a0 false _ A11.out).mono ?_); rintro e w' ⟨rfl, ⟨nd, rfl⟩⟩))
              go_roundg k1
              case measure => have := HK1.out; omega
              case rel => exact ⟨(x5_1), (wrap64 (x6_1 - 1)), (by first | rfl | (simp; done) | (simp [*]; done)), (by first | rfl | (simp; done) | (simp [*]; done)), H', ⟨by have := HK1.out; omega⟩, by repeat (first | exact Drawn0.refl _ | apply Drawn0.step)⟩
        · rw [if_neg c5] at H
          exact absurd H (by simp)
      · rw [if_neg c3] at H
        have c3b0 : decide (0 ≤ x6_1) = false := decide_eq_false c3
        clear c3
        obtain rfl := Option.some.inj H
        go_wp2
        go_ret
        exact ⟨by first | rfl | (simp; done) | (simp [*]; done), by repeat (first | exact Drawn0.refl _ | apply Drawn0.step)⟩

/-! ### cachetref01_words: function 51 -/
mutual
def cachetref01_words.j0 : Nat → Bool → Int → Option (List Int)
  | 0, _, _ => none
  | k + 1, x0, x3 => (cachetref01_primes.f k x3).bind fun t123 => (cachetref01_words.l0 k x0 t123 ([] : List Int) 0)
def cachetref01_words.l0 : Nat → Bool → List Int → List Int → Int → Option (List Int)
  | 0, _, _, _, _ => none
  | k + 1, x0, x4, x5, x6 => if x6 < (x4.length : Int) then (if 0 ≤ x6 then ((cachetref01_root.f k (rd x4 x6) x0).bind fun t127 => (if x5.length < 35184372088832 then (cachetref01_words.l0 k x0 x4 (x5 ++ [t127]) (wrap64 (x6 + 1))) else (none))) else (none)) else (some x5)
end
def cachetref01_words.f (k : Nat) (a0 : Bool) : Option (List Int) := if a0 = true then (cachetref01_words.j0 k a0 64) else (cachetref01_words.j0 k a0 8)
theorem cachetref01_words.mono_l : ∀ k, (∀ y0 y1, LeO (cachetref01_words.j0 k y0 y1) (cachetref01_words.j0 (k + 1) y0 y1)) ∧ (∀ y0 y1 y2 y3, LeO (cachetref01_words.l0 k y0 y1 y2 y3) (cachetref01_words.l0 (k + 1) y0 y1 y2 y3))
  | 0 => ⟨fun _ _ r h => by simp [cachetref01_words.j0] at h, fun _ _ _ _ r h => by simp [cachetref01_words.l0] at h⟩
  | k + 1 => by
    obtain ⟨ih0, ih1⟩ := cachetref01_words.mono_l k
    refine ⟨?_, ?_⟩
    · intro y0 y1
      unfold cachetref01_words.j0
      repeat' first
      | (with_reducible exact ih0 _ _)
      | (with_reducible exact ih1 _ _ _ _)
      | (with_reducible exact cachetref01_primes.mono _ _)
      | (with_reducible exact cachetref01_root.mono _ _ _)
      | (with_reducible exact LeO.refl _)
      | (with_reducible exact LeO.none _)
      | (with_reducible refine LeO.ite ?_ ?_)
      | (with_reducible refine LeO.bind ?_ (fun _ => ?_))
      | exact ih0 _ _
      | exact ih1 _ _ _ _
      | exact cachetref01_primes.mono _ _
      | exact cachetref01_root.mono _ _ _
      | exact LeO.none _
      | refine LeO.ite ?_ ?_
      | refine LeO.bind ?_ (fun _ => ?_)
    · intro y0 y1 y2 y3
      unfold cachetref01_words.l0
      repeat' first
      | (with_reducible exact ih0 _ _)
      | (with_reducible exact ih1 _ _ _ _)
      | (with_reducible exact cachetref01_primes.mono _ _)
      | (with_reducible exact cachetref01_root.mono _ _ _)
      | (with_reducible exact LeO.refl _)
      | (with_reducible exact LeO.none _)
      | (with_reducible refine LeO.ite ?_ ?_)
      | (with_reducible refine LeO.bind ?_ (fun _ => ?_))
      | exact ih0 _ _
      | exact ih1 _ _ _ _
      | exact cachetref01_primes.mono _ _
      | exact cachetref01_root.mono _ _ _
      | exact LeO.none _
      | refine LeO.ite ?_ ?_
      | refine LeO.bind ?_ (fun _ => ?_)
theorem cachetref01_words.mono : ∀ a0 k, LeO (cachetref01_words.f k a0) (cachetref01_words.f (k + 1) a0) := by
  intro a0 k
  obtain ⟨ih0, ih1⟩ := cachetref01_words.mono_l k
  unfold cachetref01_words.f
  repeat' first
      | (with_reducible exact ih0 _ _)
      | (with_reducible exact ih1 _ _ _ _)
      | (with_reducible exact cachetref01_primes.mono _ _)
      | (with_reducible exact cachetref01_root.mono _ _ _)
      | (with_reducible exact LeO.refl _)
      | (with_reducible exact LeO.none _)
      | (with_reducible refine LeO.ite ?_ ?_)
      | (with_reducible refine LeO.bind ?_ (fun _ => ?_))
      | exact ih0 _ _
      | exact ih1 _ _ _ _
      | exact cachetref01_primes.mono _ _
      | exact cachetref01_root.mono _ _ _
      | exact LeO.none _
      | refine LeO.ite ?_ ?_
      | refine LeO.bind ?_ (fun _ => ?_)
set_option maxHeartbeats 8000000 in
set_option maxRecDepth 100000 in
theorem cachetref01_words.calls (k : Nat) (a0 : Bool) (r : List Int) (w : World) (h : cachetref01_words.f k a0 = some r) :
    Calls Try.prog 51 #[.bool a0] w fun e w' => ∃ v0_ : Value, e = .returned (v0_) ∧ Kd.R (Kd.int .u32) 88 w' w.heap.size (fun _ => True) v0_ r ∧ Below w.heap.size w w' := by
  have HB := Aside0.mk (Below.refl w.heap.size w)
  have H : (if a0 = true then (cachetref01_words.j0 k a0 64) else (cachetref01_words.j0 k a0 8)) = some r := h
  clear h
  have HC2 := Aside0.mk H
  clear H
  go_enter Try.func51, Try.ntmps51
  go_upto_if 7 with (fail)
  go_cut [3] (fun v3 wc => ∃ (kq : Nat) (x3_1 : Int), v3 = .int .i64 x3_1 ∧ Aside0 (cachetref01_words.j0 kq a0 x3_1 = some r) ∧ Aside0 (kq ≤ k) ∧ Aside0 (Below w.heap.size w wc))
  case first =>
    have H := HC2.out
    clear HC2
    by_cases c3 : a0 = true
    · subst c3
      have H1 : (cachetref01_words.j0 k true 64) = some r := by rw [if_pos rfl] at H; exact H
      clear H
      have H := H1
      clear H1
      have H' := Aside0.mk H
      clear H
      go_wp2
      go_meet
      case rel => exact ⟨_, (64), (by first | rfl | (simp; done) | (simp [*]; done)), H', ⟨by first | omega | exact Nat.le_refl _⟩, ⟨by repeat (first | (with_reducible first | exact HB.out | apply below_alloc | apply pw_below_drewN | apply below_drew1) | exact HB.out)⟩⟩
    · replace c3 := Bool.eq_false_iff.mpr c3
      subst c3
      have H1 : (cachetref01_words.j0 k false 8) = some r := by rw [if_neg (show ¬ (false = true) by decide)] at H; exact H
      clear H
      have H := H1
      clear H1
      have H' := Aside0.mk H
      clear H
      go_wp2
      go_meet
      case rel => exact ⟨_, (8), (by first | rfl | (simp; done) | (simp [*]; done)), H', ⟨by first | omega | exact Nat.le_refl _⟩, ⟨by repeat (first | (with_reducible first | exact HB.out | apply below_alloc | apply pw_below_drewN | apply below_drew1) | exact HB.out)⟩⟩
  case rest =>
    clear HC2
    try clear p2
    try clear c3
    obtain ⟨kq, x3_1, rfl, HA, HJ1, HB⟩ := hcut
    cases kq with
    | zero => exact absurd HA.out (by simp [cachetref01_words.j0])
    | succ kj1 =>
      have H := HA.out
      clear HA
      simp only [cachetref01_words.j0] at H
      replace H := Option.bind_eq_some_iff.mp H
      obtain ⟨t123, A40, H⟩ := H
      replace H : (cachetref01_words.l0 kj1 a0 t123 ([] : List Int) 0) = some r := H
      have A4 := Aside0.mk A40
      clear A40
      have H' := Aside0.mk H
      clear H
      go_wp2_with (first | ((with_reducible refine gate_callee (f := 61) rfl ?_); refine goesL_ (some 9) rfl rfl Try.func61 (by kernel_rfl) rfl #[.int .i64 x3_1] rfl (by (try simp only [List.map_toArray, List.map_cons, List.map_nil]); first | done | rfl | (simp only [List.length_drop, List.length_take]; rfl)) ?_; (with_reducible refine (cachetref01_primes.calls kj1 x3_1 t123 _ A4.out).mono ?_); rintro e w5 ⟨v124, rfl, ho0, hb⟩; refine ⟨_, rfl, ?_⟩; have n0_ := Aside0.mk (Kd.R_lower ho0 (below_size (by repeat (first | (with_reducible first | exact HB.out | apply below_alloc | apply pw_below_drewN | apply below_drew1) | exact HB.out)))); have n1_ := Aside0.mk (below_step (by repeat (first | (with_reducible first | exact HB.out | apply below_alloc | apply pw_below_drewN | apply below_drew1) | exact HB.out)) hb); clear HB; have HO125 := n0_; have HB := n1_; clear n0_ n1_; (try clear hb); (try clear hb2); (try clear hk); (try clear hi); (try clear ho0)))
      go_loopg [5, 6] kj1 (fun kq v5 v6 w' => ∃ (x5_2 : List Int) (x6_2 : Int), v6 = .int .i64 x6_2 ∧ Aside0 (cachetref01_words.l0 kq a0 t123 x5_2 x6_2 = some r) ∧ Aside0 (kq ≤ kj1) ∧ Aside0 (Kd.R (Kd.int .u64) 83 w' w.heap.size (fun _ => True) v124 t123) ∧ Aside0 (Kd.R (Kd.int .u32) 88 w' w.heap.size (fun _ => True) v5 x5_2) ∧ Aside0 (Below w.heap.size w w'))
      case atStart => exact ⟨(([] : List Int)), (0), (by first | rfl | (simp; done) | (simp [*]; done)), H', ⟨Nat.le_refl _⟩, ⟨by (with_reducible repeat (first | apply Kd.R_alloc | apply Kd.R_drewN | apply Kd.R_drew)); exact HO125.out⟩, ⟨by first | exact Kd.R_nil _ _ _ _ _ | exact Kd.N_nil _ _ _ _ _ | exact Kd.V_nil _ _ _ _ _ | exact Kd.Q_nil _ _ _ _ _ | exact Kd.S_nil _ _ _ _ _⟩, ⟨by repeat (first | (with_reducible first | exact HB.out | apply below_alloc | apply pw_below_drewN | apply below_drew1) | exact HB.out)⟩⟩
      case round =>
        clear H'
        try clear p2
        try clear c3
        try clear c5
        try clear p2
        obtain ⟨x5_2, x6_2, rfl, HA, HK2, HO_4, HO_5, HB⟩ := hrel
        cases gk with
        | zero => exact absurd HA.out (by simp [cachetref01_words.l0])
        | succ k2 =>
          have H := HA.out
          clear HA
          simp only [cachetref01_words.l0] at H
          by_cases c6 : x6_2 < (t123.length : Int)
          · rw [if_pos c6] at H
            have c6b0 : decide (x6_2 < (t123.length : Int)) = true := decide_eq_true c6
            clear c6
            by_cases c7 : 0 ≤ x6_2
            · rw [if_pos c7] at H
              have c7b0 : decide (0 ≤ x6_2) = true := decide_eq_true c7
              clear c7
              replace H := Option.bind_eq_some_iff.mp H
              obtain ⟨t127, A80, H⟩ := H
              replace H : (if x5_2.length < 35184372088832 then (cachetref01_words.l0 k2 a0 t123 (x5_2 ++ [t127]) (wrap64 (x6_2 + 1))) else (none)) = some r := H
              have A8 := Aside0.mk A80
              clear A80
              by_cases c9 : x5_2.length < 35184372088832
              · rw [if_pos c9] at H
                have LMc9 := Aside0.mk c9
                clear c9
                obtain ⟨y128, hy128⟩ : ∃ y_ : List Int, y_ = (x5_2 ++ [t127]) := ⟨_, rfl⟩
                replace H : (cachetref01_words.l0 k2 a0 t123 y128 (wrap64 (x6_2 + 1))) = some r := by first | (rw [hy128]; with_reducible exact H) | (have H2_ := (Option.bind_some _ _).symm.trans H; rw [hy128]; with_reducible exact H2_) | (have H2_ := (Option.bind_some _ _).symm.trans H; with_reducible exact H2_) | with_reducible exact H | (rw [hy128]; exact H) | exact H
                have Ny128 := Aside0.mk hy128
                clear hy128
                have H' := Aside0.mk H
                clear H
                obtain ⟨Ao10, co10, eo10⟩ := Kd.R_slice HO_4.out
                subst eo10
                have p126 : 0 ≤ (x6_2 : Int) := of_decide_eq_true (by first | (with_reducible assumption) | assumption)
                have q126 : x6_2 < (t123.length : Int) := of_decide_eq_true (by first | (with_reducible assumption) | assumption)
                obtain ⟨ad126, e126, hx126_0⟩ := Kd.at_int (Kd.R_reads' HO_4.out).2.2 x6_2 p126 q126
                cases e126
                replace p126 := eq_true p126
                replace q126 := eq_true q126
                go_wp2_with (first | ((with_reducible refine gate_callee (f := 62) rfl ?_); refine goesL_ (some 22) rfl rfl Try.func62 (by kernel_rfl) rfl #[.int .u64 (rd t123 x6_2), .bool a0] rfl (by (try simp only [List.map_toArray, List.map_cons, List.map_nil]); first | done | rfl | (simp only [List.length_drop, List.length_take]; rfl)) ?_; (with_reducible refine (cachetref01_root.calls k2 (rd t123 x6_2) a0 t127 _ A8.out).mono ?_); rintro e w' ⟨rfl, ⟨nd, rfl⟩⟩; refine ⟨_, rfl, ?_⟩) | ((with_reducible refine gate_builtin (b := .append) (xs := #[.tmp 16, .tmp 23]) rfl ?_); at_builtin; refine Kd.R_append (Kd.int .u32) (w0 := w) w.heap.size rfl (.tmp 16) (.tmp 23) 85 88 (.int .u32 0) 4 rfl Try.underlying85 info88 rfl (by decide) (by omega) u5 x5_2 t127 [.int .u32 t127] (fun _ => True) (fun _ => False) rfl rfl ?aP (fun _ hk => hk.elim) ?aF ?aO ?aB ?aS ?aL ?_; (case aP => exact rfl); (case aB => exact (by repeat (first | (with_reducible first | exact HB.out | apply below_alloc | apply pw_below_drewN | apply below_drew1) | exact HB.out))); (case aF => exact (fun _ _ => trivial)); (case aO => exact (by (with_reducible repeat (first | apply Kd.R_alloc | apply Kd.R_drewN | apply Kd.R_drew)); exact HO_5.out)); (case aS => exact (below_size (by repeat (first | (with_reducible first | exact HB.out | apply below_alloc | apply pw_below_drewN | apply below_drew1) | exact HB.out)))); (case aL => have := LMc9.out; omega); intro v129 w11 ho hb hg hat; rw [← Ny128.out] at ho; have n0_ := Aside0.mk (Kd.R_over' (by (with_reducible repeat (first | apply Kd.R_alloc | apply Kd.R_drewN | apply Kd.R_drew)); exact HO_4.out) (Kd.R_typed (by (with_reducible repeat (first | apply Kd.R_alloc | apply Kd.R_drewN | apply Kd.R_drew)); exact HO_5.out)) (by decide) hg); have n1_ := Aside0.mk (hb); have n2_ := Aside0.mk (ho); clear HO_4; clear HB; clear HO_5; have HO_4 := n0_; have HB := n1_; have HO130 := n2_; clear n0_ n1_ n2_; clear ho hb hg hat))
                go_roundg k2
                case measure => have := HJ1.out; have := HK2.out; omega
                case rel => exact ⟨(y128), (wrap64 (x6_2 + 1)), (by first | rfl | (simp; done) | (simp [*]; done)), H', ⟨by have := HJ1.out; have := HK2.out; omega⟩, ⟨by (with_reducible repeat (first | apply Kd.R_alloc | apply Kd.R_drewN | apply Kd.R_drew)); exact HO_4.out⟩, ⟨by (with_reducible repeat (first | apply Kd.R_alloc | apply Kd.R_drewN | apply Kd.R_drew)); exact HO130.out⟩, ⟨by repeat (first | (with_reducible first | exact HB.out | apply below_alloc | apply pw_below_drewN | apply below_drew1) | exact HB.out)⟩⟩
              · rw [if_neg c9] at H
                exact absurd H (by simp)
            · rw [if_neg c7] at H
              exact absurd H (by simp)
          · rw [if_neg c6] at H
            have c6b0 : decide (x6_2 < (t123.length : Int)) = false := decide_eq_false c6
            clear c6
            obtain rfl := Option.some.inj H
            obtain ⟨Ao12, co12, eo12⟩ := Kd.R_slice HO_4.out
            subst eo12
            go_wp2
            go_ret
            exact ⟨_, by first | rfl | (simp [errW_none, errW_some] <;> rfl) | (simp [*, errW_none, errW_some] <;> rfl), by (with_reducible repeat (first | apply Kd.R_alloc | apply Kd.R_drewN | apply Kd.R_drew)); exact HO_5.out, by repeat (first | (with_reducible first | exact HB.out | apply below_alloc | apply pw_below_drewN | apply below_drew1) | exact HB.out)⟩

/-! ### cachetref01_turned: function 63 -/
def cachetref01_turned.l0 : Nat → Int → Int → Int → Option (Int)
  | 0, _, _, _ => none
  | k + 1, x0, x1, x5 => if x5 < x1 then (cachetref01_turned.l0 k ((((Int.tdiv x0 2) % 4294967296) + (((Int.tmod x0 2) * 2147483648) % 4294967296)) % 4294967296) x1 (wrap64 (x5 + 1))) else (some x0)
def cachetref01_turned.f (k : Nat) (a0 : Int) (a1 : Int) : Option (Int) := cachetref01_turned.l0 k a0 a1 0
theorem cachetref01_turned.mono_l : ∀ k, (∀ y0 y1 y2, LeO (cachetref01_turned.l0 k y0 y1 y2) (cachetref01_turned.l0 (k + 1) y0 y1 y2))
  | 0 => fun _ _ _ r h => by simp [cachetref01_turned.l0] at h
  | k + 1 => by
    have ih0 := cachetref01_turned.mono_l k
    · intro y0 y1 y2
      unfold cachetref01_turned.l0
      repeat' first
      | (with_reducible exact ih0 _ _ _)
      | (with_reducible exact LeO.refl _)
      | (with_reducible exact LeO.none _)
      | (with_reducible refine LeO.ite ?_ ?_)
      | (with_reducible refine LeO.bind ?_ (fun _ => ?_))
      | exact ih0 _ _ _
      | exact LeO.none _
      | refine LeO.ite ?_ ?_
      | refine LeO.bind ?_ (fun _ => ?_)
theorem cachetref01_turned.mono : ∀ a0 a1 k, LeO (cachetref01_turned.f k a0 a1) (cachetref01_turned.f (k + 1) a0 a1) := by
  intro a0 a1 k
  have ih0 := cachetref01_turned.mono_l k
  unfold cachetref01_turned.f
  repeat' first
      | (with_reducible exact ih0 _ _ _)
      | (with_reducible exact LeO.refl _)
      | (with_reducible exact LeO.none _)
      | (with_reducible refine LeO.ite ?_ ?_)
      | (with_reducible refine LeO.bind ?_ (fun _ => ?_))
      | exact ih0 _ _ _
      | exact LeO.none _
      | refine LeO.ite ?_ ?_
      | refine LeO.bind ?_ (fun _ => ?_)
set_option maxHeartbeats 8000000 in
set_option maxRecDepth 100000 in
theorem cachetref01_turned.calls (k : Nat) (a0 : Int) (a1 : Int) (r : Int) (w : World) (h : cachetref01_turned.f k a0 a1 = some r) :
    Calls Try.prog 63 #[.int .u32 a0, .int .i64 a1] w fun e w' => e = .returned (.int .u32 r) ∧ Drawn0 w w' := by
  have H : (cachetref01_turned.l0 k a0 a1 0) = some r := h
  clear h
  have H' := Aside0.mk H
  clear H
  go_enter Try.func63, Try.ntmps63
  go_wp2
  go_loopg [0, 5] k (fun kq v0 v5 w' => ∃ (x0_1 : Int) (x5_1 : Int), v0 = .int .u32 x0_1 ∧ v5 = .int .i64 x5_1 ∧ Aside0 (cachetref01_turned.l0 kq x0_1 a1 x5_1 = some r) ∧ Aside0 (kq ≤ k) ∧ Drawn0 w w')
  case atStart => exact ⟨(a0), (0), (by first | rfl | (simp; done) | (simp [*]; done)), (by first | rfl | (simp; done) | (simp [*]; done)), H', ⟨Nat.le_refl _⟩, by repeat (first | exact Drawn0.refl _ | apply Drawn0.step)⟩
  case round =>
    clear H'
    try clear p2
    obtain ⟨x0_1, x5_1, rfl, rfl, HA, HK1, ⟨m1, rfl⟩⟩ := hrel
    cases gk with
    | zero => exact absurd HA.out (by simp [cachetref01_turned.l0])
    | succ k1 =>
      have H := HA.out
      clear HA
      simp only [cachetref01_turned.l0] at H
      by_cases c3 : x5_1 < a1
      · rw [if_pos c3] at H
        have c3b0 : decide (x5_1 < a1) = true := decide_eq_true c3
        clear c3
        have H' := Aside0.mk H
        clear H
        go_wp2
        go_roundg k1
        case measure => have := HK1.out; omega
        case rel => exact ⟨((((Int.tdiv x0_1 2) % 4294967296) + (((Int.tmod x0_1 2) * 2147483648) % 4294967296)) % 4294967296), (wrap64 (x5_1 + 1)), (by first | rfl | (simp; done) | (simp [*]; done)), (by first | rfl | (simp; done) | (simp [*]; done)), H', ⟨by have := HK1.out; omega⟩, by repeat (first | exact Drawn0.refl _ | apply Drawn0.step)⟩
      · rw [if_neg c3] at H
        have c3b0 : decide (x5_1 < a1) = false := decide_eq_false c3
        clear c3
        obtain rfl := Option.some.inj H
        go_wp2
        go_ret
        exact ⟨by first | rfl | (simp; done) | (simp [*]; done), by repeat (first | exact Drawn0.refl _ | apply Drawn0.step)⟩

-- NOT PRINTED: function 52 (cachetref01_block)

-- NOT PRINTED: function 46 (cachetref01_Sum)

-- NOT PRINTED: function 41 (cachetref04_Mark)

-- NOT PRINTED: function 42 (cachetref04_Both)

-- NOT PRINTED: function 25 (cachetref04_Up)

-- NOT PRINTED: function 7 (cachetlaw04_MerkleUps)

end Go.Proofs.Ytjfplkndngmgdaa.PMerkleUps
