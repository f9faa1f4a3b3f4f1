/- ShaDigits: which texts of digits are a digest's: it returns true. -/
import Derived.Test.YtolboolbapbniaaTextsLaw
import Derived.Lib.ConvBytes
namespace Go.Proofs.Ytolboolbapbniaa
open Go.RowKit Sp

attribute [local go_sem ↓] ldSt stSt ldD stD
attribute [local go_sem] run_ldA run_stA arrSt arrD loadX_at loadY_some storeX_at storeY_true wcs_size ones_wcs St.list_length ucs_size ones_ucs dg_length sha_length

theorem place_of (a : Int) : ∃ p : Nat, p < 64 ∧ IntKind.i64.wrap (a.tmod 64 + 64) = a.tmod 64 + 64 ∧ (a.tmod 64 + 64).tmod 64 = (p : Int) := by
  have h1 : -63 ≤ a.tmod 64 ∧ a.tmod 64 ≤ 63 := by
    rw [Int.tmod_eq_emod]
    split <;> simp <;> omega
  refine ⟨((a.tmod 64 + 64) % 64).toNat, by omega, IntWalk.i64_in _ (by omega), ?_⟩
  rw [Int.tmod_eq_emod_of_nonneg (by omega)]
  omega
theorem bg_set (t : List UInt8) (p i : Nat) (c : UInt8) (hp : p < t.length) : bg (t.set p c) i = if i = p then c else bg t i := by
  unfold bg
  rw [List.getD_eq_getElem?_getD, List.getD_eq_getElem?_getD, List.getElem?_set]
  by_cases h : i = p
  · subst h; simp [hp]
  · rw [if_neg (fun e => h e.symm), if_neg h]

set_option maxHeartbeats 2000000 in
set_option maxRecDepth 100000 in
theorem digits_any (w : World) (l : List UInt8) (hl : l.length = 32) (a : Int) (c : UInt8) :
    Calls Try.prog 4 #[.agg (ucs l), .int .i64 a, .int .u8 (ib c)] w fun e w' => e = .returned (.bool true) ∧ Below w.heap.size w w' := by
  obtain ⟨p, hp64, hq1, hq2⟩ := place_of a
  have hpI : (p : Int) < 64 := by omega
  have hsub0 : sub? (w.alloc (.cells (ucs l) 23)) w.heap.size 0 32 = some (ucs l) := sub_alloc_new rfl (by rw [ucs_size, hl])
  have hrtx := fun W => rtext_any W l hl
  have htl : (hexT l).length = 64 := by rw [hexT_length, hl]
  unfold str at hrtx
  revert hrtx htl
  generalize hexT l = t
  intro hrtx htl
  have HRT := hd hrtx
  have hsz : (⟨t.toArray⟩ : ByteArray).size = 64 := by simp [ByteArray.size, htl]
  have hcv := fun W => Lib.run_convert_string_bytes (P := Try.prog) W 9 33 5 ⟨t.toArray⟩ (u := .string) (by kernel_rfl) (by kernel_rfl) (by kernel_rfl)
  simp only [hsz] at hcv
  clear hrtx
  go_enter Try.func4, Try.ntmps4
  go_upto_region 2 with (go_at_call 19; refine (HRT.out _).mono ?_; rintro e w2 ⟨rfl, hb2⟩; have HB2 := hd hb2; clear hb2)
  have hge := grownCap_ge w2 64 0 5
  have hcell0 := fun i hi => Lib.bytesWorld_cell w2 5 ⟨t.toArray⟩ i hi
  have hrow0 := Lib.bytesWorld_at_new w2 5 ⟨t.toArray⟩
  have hbel0 : Below w2.heap.size w2 (Lib.bytesWorld w2 5 ⟨t.toArray⟩) := ⟨rfl, rfl, rfl, by rw [Lib.bytesWorld_size]; omega, fun k hk => Lib.bytesWorld_at_old _ _ _ k hk⟩
  have hcs : 64 ≤ (Lib.bytesCells w2 5 ⟨t.toArray⟩).size := by
    unfold Lib.bytesCells
    rw [Array.size_append]
    simp [htl]
  obtain ⟨g, hg⟩ : ∃ g, w2.heap.size = g := ⟨_, rfl⟩
  obtain ⟨cp, hcp⟩ : ∃ n, grownCap w2 64 0 5 = n := ⟨_, rfl⟩
  obtain ⟨wb, hwb⟩ : ∃ W, Lib.bytesWorld w2 5 ⟨t.toArray⟩ = W := ⟨_, rfl⟩
  have hcell : ∀ i, i < 64 → wb.cell? ⟨g, i, none⟩ = some (.int .u8 (ib (bg t i))) := fun i hi => by
    have h := hcell0 i (by rw [hsz]; exact hi)
    rw [hwb, hg] at h
    exact h
  have hfz : ∀ i, i < 64 → wb.frozen? ⟨g, i, none⟩ = false := fun i hi => by
    rw [hwb, hg] at hrow0
    simp [World.frozen?, hrow0]
    omega
  have HBb : Hid (Below w.heap.size w wb) := hd (by
    rw [← hwb]
    have h0 := (Below.refl w.heap.size w).alloc (Nat.le_refl _) (.cells (ucs l) 23)
    have h1 := h0.trans (HB2.out.mono h0.size)
    exact h1.trans (hbel0.mono h1.size))
  have hgw : w.heap.size ≤ g := by
    have h0 := (Below.refl w.heap.size w).alloc (Nat.le_refl _) (.cells (ucs l) 23)
    have h1 := h0.size
    have h2 := HB2.out.size
    omega
  have hgb : g < wb.heap.size := World.block_lt_of_cell? wb _ (hcell 0 (by omega))
  rw [hcp] at hge
  have hc1 := hcell p hp64
  have hf1 := hfz p hp64
  rw [hcp, hwb, hg]
  clear hcell0 hrow0 hbel0 hcs hwb hg hcp hcv hsub0 HB2 hfz
  go_upto_region 4 with (fail)
  obtain ⟨wc, hwc⟩ : ∃ W, wb.setCell ⟨g, p, none⟩ (.int .u8 (ib c)) = W := ⟨_, rfl⟩
  obtain ⟨t', ht'⟩ : ∃ t', t.set p c = t' := ⟨_, rfl⟩
  have htl' : t'.length = 64 := by rw [← ht', List.length_set, htl]
  have hcw : ∀ i, i < 64 → wc.cell? ⟨g, i, none⟩ = some (.int .u8 (ib (bg t' i))) := fun i hi => by
    rw [← hwc, ← ht', bg_set t p i c (by omega)]
    by_cases h : i = p
    · subst h
      rw [if_pos rfl]
      exact World.cell?_setCell_same _ _ _ (by rw [hc1])
    · rw [if_neg h, ← hcell i hi]
      exact World.cell?_setCell_other _ _ _ _ (fun e => h (by cases e; rfl))
  have HBc : Hid (Below w.heap.size w wc) := hd (by rw [← hwc]; exact HBb.out.setCell hgw _)
  have hgc : g < wc.heap.size := World.block_lt_of_cell? wc _ (hcw 0 (by omega))
  have hcv2 : ∀ W, Below wc.heap.size wc W → (convert 33 9 (.slice (some ⟨g, 0, none⟩) 64 cp)).run Try.prog W = .ok (.string ⟨t'.toArray⟩) W := fun W hb => by
    have h := run_convert_bytes_back (P := Try.prog) W 33 9 5 ⟨g, 0, none⟩ cp t' (by kernel_rfl) (by kernel_rfl) (by kernel_rfl) (fun j hj => by
      rw [add_lit, Nat.zero_add, hb.cell (p := ⟨g, j, none⟩) hgc, hcw j (by omega)]
      simp [ib, bg, List.getD_eq_getElem?_getD, hj])
    rw [htl'] at h
    exact h
  have HCV := hd hcv2
  have hcv3 := hcv2 wc (Below.refl _ _)
  rw [hwc]
  obtain ⟨y, ey, hy, hp⟩ := parse_shape t'
  have hpb := fun W => parse_any W t'
  have hpc := fun W => rparse_any W t'
  rw [hp] at hpb hpc
  have HPB := hd hpb
  have HPC := hd hpc
  clear hcell hc1 hf1 hwc hcw hcv2 hpb hpc hp ht'
  go_upto_region 5 with (go_at_call 17; refine (HPB.out _).mono ?_; rintro e w4 ⟨rfl, hb4⟩; have HB4 := hd hb4; have hcv4 := HCV.out (w4.alloc (.cells (ucs y) 23)) (hb4.alloc hb4.size _); clear hb4 hcv3)
  go_upto_region 6 with (go_at_call 18; refine (HPC.out _).mono ?_; rintro e w5 ⟨rfl, hb5⟩; have HB5 := hd hb5; clear hb5 hcv4)
  have A4 := hd (show HoldS 32 w4.heap.size 0 (ucs y) (w4.alloc (.cells (ucs y) 23)) from ⟨sub_alloc_new rfl (by rw [ucs_size, hy]), by simp⟩)
  obtain ⟨wr, hwr⟩ : ∃ W, w5.alloc (.cells (ucs y) 23) = W := ⟨_, rfl⟩
  have X5 := hd (show HoldS 32 w5.heap.size 0 (ucs y) wr by rw [← hwr]; exact ⟨sub_alloc_new rfl (by rw [ucs_size, hy]), by simp⟩)
  have X4 := hd (show HoldS 32 w4.heap.size 0 (ucs y) wr by rw [← hwr]; exact (A4.out.below HB5.out).alloc _)
  have HBW := hd (show Below w.heap.size w wr by
    have h1 := HBc.out.trans (HB4.out.mono HBc.out.size)
    have h2 := h1.alloc h1.size (.cells (ucs y) 23)
    have h3 := h2.trans (HB5.out.mono h2.size)
    rw [← hwr]
    exact h3.alloc h3.size _)
  rw [hwr]
  have s4 := X4.out.sub
  have s5 := X5.out.sub
  have q2 := eq_digIn y hy
  clear HB4 HB5 A4 hwr HPB HPC HCV
  go_wp2_with (first
    | (go_at_call 20; refine (num_any _ _).mono ?_; rintro e w' ⟨rfl, rfl⟩)
    | (go_at_call 15; refine (works_any _).mono ?_; rintro e w9 ⟨rfl, hb9⟩; have HB9 := hd hb9; clear hb9))
  go_ret
  exact ⟨rfl, HBW.out.trans (HB9.out.mono HBW.out.size)⟩

end Go.Proofs.Ytolboolbapbniaa
