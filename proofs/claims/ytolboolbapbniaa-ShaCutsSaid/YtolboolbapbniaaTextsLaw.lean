/- ShaTexts: a digest's text, and the digest of any text: it returns true. -/
import Derived.Test.YtolboolbapbniaaWorks
namespace Go.Proofs.Ytolboolbapbniaa
open Go.RowKit Sp

theorem parse_shape (s : List UInt8) : ∃ (y : List UInt8) (e : Int), y.length = 32 ∧ parseV s = .tuple #[.agg (ucs y), .int .i64 e] := by
  unfold parseV
  split
  · exact ⟨_, _, pk_length s 32 (Nat.le_refl _), rfl⟩
  · exact ⟨_, _, List.length_replicate, rfl⟩

attribute [local go_sem ↓] ldSt stSt ldD stD
attribute [local go_sem] run_ldA run_stA arrSt arrD loadX_at loadY_some storeX_at storeY_true wcs_size ones_wcs St.list_length ucs_size ones_ucs dg_length sha_length

set_option maxHeartbeats 2000000 in
set_option maxRecDepth 100000 in
theorem texts_any (w : World) (l : List UInt8) (hl : l.length = 32) (s : List UInt8) :
    Calls Try.prog 3 #[.agg (ucs l), .string ⟨s.toArray⟩] w fun e w' => e = .returned (.bool true) ∧ Below w.heap.size w w' := by
  have hsz : (⟨s.toArray⟩ : ByteArray).size = s.length := by simp [ByteArray.size]
  by_cases h1 : s.length ≤ 1000
  · have h1I : (s.length : Int) ≤ 1000 := by omega
    have hsub0 : sub? (w.alloc (.cells (ucs l) 23)) w.heap.size 0 32 = some (ucs l) := sub_alloc_new rfl (by rw [ucs_size, hl])
    have htx := fun W => text_any W l hl
    have hrtx := fun W => rtext_any W l hl
    have hpa := fun W => parse_any W (hexT l)
    rw [parse_hexT l hl] at hpa
    have hpb := fun W => parse_any W s
    have hpc := fun W => rparse_any W s
    obtain ⟨y, ey, hy, hp⟩ := parse_shape s
    rw [hp] at hpb hpc
    unfold str at htx hrtx
    revert htx hrtx hpa
    generalize hexT l = t
    intro htx hrtx hpa
    have HTX := hd htx
    have HRT := hd hrtx
    have HPA := hd hpa
    have HPB := hd hpb
    have HPC := hd hpc
    clear htx hrtx hpa hpb hpc hp
    go_enter Try.func3, Try.ntmps3
    go_upto_region 4 with (go_at_call 16; refine (HTX.out _).mono ?_; rintro e w2 ⟨rfl, hb2⟩; have HB2 := hd hb2; clear hb2)
    clear hsub0
    go_upto_region 5 with (go_at_call 17; refine (HPA.out _).mono ?_; rintro e w3 ⟨rfl, hb3⟩; have HB3 := hd hb3; clear hb3)
    go_upto_region 6 with (go_at_call 17; refine (HPB.out _).mono ?_; rintro e w4 ⟨rfl, hb4⟩; have HB4 := hd hb4; clear hb4)
    go_upto_region 7 with (go_at_call 18; refine (HPC.out _).mono ?_; rintro e w5 ⟨rfl, hb5⟩; have HB5 := hd hb5; clear hb5)
    have A1 := hd (show HoldS 32 w.heap.size 0 (ucs l) (w.alloc (.cells (ucs l) 23)) from ⟨sub_alloc_new rfl (by rw [ucs_size, hl]), by simp⟩)
    have A3 := hd (show HoldS 32 w3.heap.size 0 (ucs l) (w3.alloc (.cells (ucs l) 23)) from ⟨sub_alloc_new rfl (by rw [ucs_size, hl]), by simp⟩)
    have A4 := hd (show HoldS 32 w4.heap.size 0 (ucs y) (w4.alloc (.cells (ucs y) 23)) from ⟨sub_alloc_new rfl (by rw [ucs_size, hy]), by simp⟩)
    obtain ⟨wr, hwr⟩ : ∃ W, w5.alloc (.cells (ucs y) 23) = W := ⟨_, rfl⟩
    have X5 := hd (show HoldS 32 w5.heap.size 0 (ucs y) wr by rw [← hwr]; exact ⟨sub_alloc_new rfl (by rw [ucs_size, hy]), by simp⟩)
    have X4 := hd (show HoldS 32 w4.heap.size 0 (ucs y) wr by rw [← hwr]; exact (A4.out.below HB5.out).alloc _)
    have X3 := hd (show HoldS 32 w3.heap.size 0 (ucs l) wr by rw [← hwr]; exact ((((A3.out.below HB4.out).alloc _).below HB5.out).alloc _))
    have X1 := hd (show HoldS 32 w.heap.size 0 (ucs l) wr by rw [← hwr]; exact ((((((A1.out.below HB2.out).below HB3.out).alloc _).below HB4.out).alloc _).below HB5.out).alloc _)
    have HBW := hd (show Below w.heap.size w wr by
      have h0 := (Below.refl w.heap.size w).alloc (Nat.le_refl _) (.cells (ucs l) 23)
      have h1 := h0.trans (HB2.out.mono h0.size)
      have h2 := h1.trans (HB3.out.mono h1.size)
      have h3 := h2.alloc h2.size (.cells (ucs l) 23)
      have h4 := h3.trans (HB4.out.mono h3.size)
      have h5 := h4.alloc h4.size (.cells (ucs y) 23)
      have h6 := h5.trans (HB5.out.mono h5.size)
      rw [← hwr]
      exact h6.alloc h6.size _)
    rw [hwr]
    have s1 := X1.out.sub
    have q1 := eq_digIn l hl
    have q2 := eq_digIn y hy
    clear HB2 HB3 HB4 HB5 A1 A3 A4 hwr HTX HPA HPB HPC
    go_wp2_with (first
      | (go_at_call 19; refine (HRT.out _).mono ?_; rintro e w8 ⟨rfl, hb8⟩; have HB8 := hd hb8; have s2 := (X1.out.below hb8).sub; have s3 := (X3.out.below hb8).sub; have s4 := (X4.out.below hb8).sub; have s5 := (X5.out.below hb8).sub; clear hb8)
      | (go_at_call 20; refine (num_any _ _).mono ?_; rintro e w' ⟨rfl, rfl⟩)
      | (go_at_call 15; refine (works_any _).mono ?_; rintro e w9 ⟨rfl, hb9⟩; have HB9 := hd hb9; clear hb9))
    go_ret
    have h8 := HBW.out.trans (HB8.out.mono HBW.out.size)
    exact ⟨rfl, h8.trans (HB9.out.mono h8.size)⟩
  · have h1I : 1000 < (s.length : Int) := by omega
    clear h1
    go_enter Try.func3, Try.ntmps3
    go_wp2_with (go_at_call 15; refine (works_any _).mono ?_; rintro e w9 ⟨rfl, hb9⟩; have HB9 := hd hb9; clear hb9)
    go_ret
    have h0 := (Below.refl w.heap.size w).alloc (Nat.le_refl _) (.cells (ucs l) 23)
    exact ⟨rfl, h0.trans (HB9.out.mono h0.size)⟩

end Go.Proofs.Ytolboolbapbniaa
