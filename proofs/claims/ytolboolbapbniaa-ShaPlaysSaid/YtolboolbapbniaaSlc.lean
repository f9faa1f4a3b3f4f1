/- slices.Clone, Grow, Concat at bytes. -/
import Derived.Test.YtolboolbapbniaaRows
import Derived.Test.YtolboolbapbniaaApp
import Derived.Lib.AppendZeros
import Derived.Deep.DeepCutAuto
import Derived.Deep.CutBlock
namespace Go.Proofs.Ytolboolbapbniaa
open Go.RowKit Sp

theorem infoB : (Try.prog.info? 5).map (fun i => (i.zero, i.size, i.bytes)) = some (some (.int .u8 0), 1, 1) := by kernel_rfl

set_option maxHeartbeats 400000 in
theorem clone_any (w : World) (A : Option Addr) (m c : Nat) (xs : List UInt8) (hl : xs.length = m) (hA : A = none → m = 0 ∧ c = 0) (hx : Cl w A (bcs xs)) (hm : m ≤ 1099511627776) :
    Calls Try.prog 39 #[.slice A m c] w fun e w' => ∃ v, e = .returned v ∧ w'.ownsRow w.heap.size 5 1 v m (bcs xs) ∧ Below w.heap.size w w' := by
  have hq := fun (W : World) (B : Option Addr) => Lib.run_eql_slice_nil (P := Try.prog) W 33 5 B m c 0 0 (by kernel_rfl)
  cases A with
  | none =>
    obtain ⟨rfl, rfl⟩ := hA rfl
    obtain rfl := List.eq_nil_of_length_eq_zero hl
    clear hx hA
    go_enter Try.func39, Try.ntmps39
    go_wp2_with fail
    go_ret
    exact ⟨_, rfl, World.ownsRow_nil _ _ _ _, Below.refl _ _⟩
  | some a =>
    have HX := hd hx
    have HL := hd (show (bcs xs).length = m * 1 by rw [bcs_length, hl, Nat.mul_one])
    have b1 : 0 + m ≤ maxLen := by unfold maxLen; omega
    have b2 : (0 + m) * 1 ≤ 140737488355328 := by omega
    clear hx hl hA
    go_enter Try.func39, Try.ntmps39
    go_wp2_with (at_builtin; refine wpList_app rfl (.tmp 5) (.tmp 6) 33 rfl w.heap.size 5 (.int .u8 0) 1 1 (by kernel_rfl) infoB rfl (by decide) _ 0 [] rfl (World.ownsRow_made w #[] 0 (Nat.le_refl _) (Nat.zero_le _) rfl) (some a) m c (bcs xs) rfl HL.out (fun e => nomatch e) (HX.out.alloc _) (bcs_one xs) b1 b2 (Nat.le_of_lt (by simp)) ?_; intro v w1 ho hg _; have HO := hd ho; have HG := hd hg; clear ho hg)
    go_ret
    refine ⟨v, rfl, by simpa using HO.out, ?_⟩
    exact ((Below.refl _ _).alloc (Nat.le_refl _) _).grown HG.out (by simp) (fun k hk => by cases hk; exact Nat.le_refl _)

set_option maxHeartbeats 400000 in
theorem grow_any (w : World) (n : Nat) (hn : n ≤ 1099511627776) :
    Calls Try.prog 45 #[.slice none 0 0, .int .i64 n] w fun e w' => ∃ v, e = .returned v ∧ w'.ownsRow w.heap.size 5 1 v 0 [] ∧ Below w.heap.size w w' := by
  by_cases h0 : n = 0
  · subst h0
    go_enter Try.func45, Try.ntmps45
    go_wp2_with fail
    go_ret
    exact ⟨_, rfl, World.ownsRow_nil _ _ _ _, Below.refl _ _⟩
  · have hpos : 0 < n := by omega
    obtain ⟨i, hi, hz, hs, hb⟩ := info_parts infoB
    have hr := Lib.run_append_nil_zeros (P := Try.prog) w 33 3 33 5 i (.int .u8 0) .i64 .i64 (by kernel_rfl) (by kernel_rfl) hi hz n hpos (by omega) (by omega) (by rw [hb]; omega)
    have HR := hd hr
    have e1 : ((n : Int) == 0) = false := by simp; omega
    clear hr hi hz hs hb h0
    go_enter Try.func45, Try.ntmps45
    go_wp2_with (at_builtin; refine Lib.wpList_append_run w rfl (.tmp 20) (.tmp 21) 33 3 rfl (.slice none 0 0) (.int .i64 n) rfl rfl _ _ HR.out ?_)
    go_ret
    have hge := grownCap_ge w n 0 5
    refine ⟨_, rfl, ⟨by simp, .inr ⟨w.heap.size, grownCap w n 0 5, _, rfl, Nat.le_refl _, blk_new w _, Nat.zero_le _, grownCap_le_maxLen w n 0 _ (by unfold maxLen; omega), ?_, by simp⟩⟩, below_drewN ((Below.refl _ _).alloc (Nat.le_refl _) _) 1⟩
    rw [Array.size_append, size_zeroCells, size_zeroCells]
    simp
    omega

/-- The slices that Concat gets: their headers lie at block B, from place o on. -/
def Two (w : World) (B o : Nat) (A1 : Option Addr) (m1 c1 : Nat) (A2 : Option Addr) (m2 c2 : Nat) : Prop :=
  w.cell? ⟨B, o, none⟩ = some (.slice A1 m1 c1) ∧ w.cell? ⟨B, o + 1, none⟩ = some (.slice A2 m2 c2)

set_option maxHeartbeats 1000000 in
theorem concat_any (w : World) (B c : Nat) (A1 : Option Addr) (m1 c1 : Nat) (A2 : Option Addr) (m2 c2 : Nat) (x1 x2 : List UInt8)
    (h0 : w.cell? ⟨B, 0, none⟩ = some (.slice A1 m1 c1)) (h1 : w.cell? ⟨B, 1, none⟩ = some (.slice A2 m2 c2))
    (l1 : x1.length = m1) (l2 : x2.length = m2) (a1 : A1 = none → m1 = 0 ∧ c1 = 0) (a2 : A2 = none → m2 = 0 ∧ c2 = 0) (hx1 : Cl w A1 (bcs x1)) (hx2 : Cl w A2 (bcs x2))
    (hm1 : m1 ≤ 549755813888) (hm2 : m2 ≤ 549755813888) :
    Calls Try.prog 36 #[.slice (some ⟨B, 0, none⟩) 2 c] w fun e w' =>
      ∃ v, e = .returned v ∧ w'.ownsRow w.heap.size 5 1 v (m1 + m2) (bcs (x1 ++ x2)) ∧ Below w.heap.size w w' := by
  have HX1 := hd hx1
  have HX2 := hd hx2
  have HL1 := hd (show (bcs x1).length = m1 * 1 by rw [bcs_length, l1, Nat.mul_one])
  have HL2 := hd (show (bcs x2).length = m2 * 1 by rw [bcs_length, l2, Nat.mul_one])
  have HA1 := hd a1
  have HA2 := hd a2
  have hBl : B < w.heap.size := World.block_lt_of_cell? w _ h0
  clear hx1 hx2 l1 l2 a1 a2
  go_enter Try.func36, Try.ntmps36
  go_upto_block 0 with (fail)
  go_cut [3] (fun s3 wx => s3 = .int .i64 ((m1 + m2 : Nat) : Int) ∧ w = wx)
  case first =>
    go_wp2_with fail
    go_loop [3, 11] (fun v i => (i = .int .i64 0 ∧ v = .int .i64 0) ∨ (i = .int .i64 1 ∧ v = .int .i64 (m1 : Int)) ∨ (i = .int .i64 2 ∧ v = .int .i64 ((m1 + m2 : Nat) : Int))) (fun _ i => 2 - (intOf i).toNat)
    case atStart => exact .inl ⟨rfl, rfl⟩
    case round =>
      rcases hrel with ⟨rfl, rfl⟩ | ⟨rfl, rfl⟩ | ⟨rfl, rfl⟩
      · have n1 : ¬ (m1 : Int) < 0 := by omega
        go_wp2_with fail
        go_round
        case rel => exact .inr (.inl ⟨rfl, rfl⟩)
        case measure => simp [intOf]
      · have n1 : ¬ (m1 : Int) + (m2 : Int) < 0 := by omega
        go_wp2_with fail
        go_round
        case rel => exact .inr (.inr ⟨rfl, by go_num⟩)
        case measure => simp [intOf]
      · go_wp2_with fail
        go_meet
        exact ⟨rfl, rfl⟩
  case rest =>
    obtain ⟨rfl, rfl⟩ := hcut
    go_upto_block 2 with (go_at_call 45; refine (grow_any _ _ (by omega)).mono ?_; rintro e w1 ⟨v0, rfl, ho, hb⟩; have HO := hd ho; have HB := hd hb; clear ho hb)
    go_cut [6] (fun v wx => wx.ownsRow w.heap.size 5 1 v (m1 + m2) (bcs x1 ++ bcs x2) ∧ Below w.heap.size w wx)
    case first =>
      go_wp2_with fail
      go_loopw [6, 27] (fun v i wr => Below w.heap.size w wr ∧ ((i = .int .i64 0 ∧ wr.ownsRow w.heap.size 5 1 v 0 []) ∨ (i = .int .i64 1 ∧ wr.ownsRow w.heap.size 5 1 v m1 (bcs x1)) ∨
        (i = .int .i64 2 ∧ wr.ownsRow w.heap.size 5 1 v (m1 + m2) (bcs x1 ++ bcs x2)))) (fun _ i _ => 2 - (intOf i).toNat)
      case atStart => exact ⟨HB.out, .inl ⟨rfl, HO.out⟩⟩
      case round =>
        obtain ⟨hb, hr⟩ := hrel
        have HB := hd hb
        have f0 : wr.cell? ⟨B, 0, none⟩ = some (.slice A1 m1 c1) := (hb.cell (p := ⟨B, 0, none⟩) hBl).trans h0
        have f1 : wr.cell? ⟨B, 1, none⟩ = some (.slice A2 m2 c2) := (hb.cell (p := ⟨B, 1, none⟩) hBl).trans h1
        clear hb
        rcases hr with ⟨rfl, ho⟩ | ⟨rfl, ho⟩ | ⟨rfl, ho⟩
        · have HO := hd ho
          have HC : Cl wr A1 (bcs x1) := HX1.out.below HB.out
          have b1 : 0 + m1 ≤ maxLen := by unfold maxLen; omega
          have b2 : (0 + m1) * 1 ≤ 140737488355328 := by omega
          clear ho
          go_wp2_with (at_builtin; refine wpList_app rfl (.tmp 31) (.tmp 32) 33 rfl w.heap.size 5 (.int .u8 0) 1 1 (by kernel_rfl) infoB rfl (by decide) _ 0 [] rfl HO.out A1 m1 c1 (bcs x1) rfl HL1.out HA1.out HC (bcs_one x1) b1 b2 HB.out.size ?_; intro v w2 ho hg _; have HO2 := hd ho; have HG := hd hg; clear ho hg)
          go_roundw
          case rel =>
            have h := HO2.out
            rw [Nat.zero_add, List.nil_append] at h
            exact ⟨HB.out.grown HG.out HB.out.size (fun k hk => (HO.out.lt k hk).1), .inr (.inl ⟨rfl, h⟩)⟩
          case measure => simp [intOf]
        · have HO := hd ho
          have HC : Cl wr A2 (bcs x2) := HX2.out.below HB.out
          have b1 : m1 + m2 ≤ maxLen := by unfold maxLen; omega
          have b2 : (m1 + m2) * 1 ≤ 140737488355328 := by omega
          clear ho
          go_wp2_with (at_builtin; refine wpList_app rfl (.tmp 31) (.tmp 32) 33 rfl w.heap.size 5 (.int .u8 0) 1 1 (by kernel_rfl) infoB rfl (by decide) _ m1 (bcs x1) rfl HO.out A2 m2 c2 (bcs x2) rfl HL2.out HA2.out HC (bcs_one x2) b1 b2 HB.out.size ?_; intro v w2 ho hg _; have HO2 := hd ho; have HG := hd hg; clear ho hg)
          go_roundw
          case rel =>
            exact ⟨HB.out.grown HG.out HB.out.size (fun k hk => (HO.out.lt k hk).1), .inr (.inr ⟨rfl, HO2.out⟩)⟩
          case measure => simp [intOf]
        · have HO := hd ho
          clear ho
          go_wp2_with fail
          go_meet
          exact ⟨HO.out, HB.out⟩
    case rest =>
      obtain ⟨ho, hb⟩ := hcut
      have HO2 := hd ho
      have HB2 := hd hb
      clear ho hb
      go_wp2_with fail
      go_ret
      exact ⟨_, rfl, by rw [bcs_append]; exact HO2.out, HB2.out⟩

end Go.Proofs.Ytolboolbapbniaa
