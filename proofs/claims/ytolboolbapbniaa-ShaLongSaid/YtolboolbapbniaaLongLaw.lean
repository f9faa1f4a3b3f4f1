/- ShaLong: the digest of longer bytes: it returns true. -/
import Derived.Test.YtolboolbapbniaaRow
namespace Go.Proofs.Ytolboolbapbniaa
open Go.RowKit Sp

def filled (b : UInt8) (n k : Nat) : List UInt8 := List.replicate k b ++ List.replicate (n - k) 0
theorem filled_length (b : UInt8) (n k : Nat) (h : k ≤ n) : (filled b n k).length = n := by simp [filled]; omega
theorem filled_set (b : UInt8) (n k : Nat) (h : k < n) : (filled b n k).set k b = filled b n (k + 1) := by
  unfold filled
  rw [List.set_append_right _ _ (by simp), show n - k = (n - (k + 1)) + 1 by omega, List.replicate_succ]
  simp [List.replicate_succ']
theorem filled_all (b : UInt8) (n : Nat) : filled b n n = List.replicate n b := by simp [filled]

attribute [local go_sem ↓] ldSt stSt ldD stD
attribute [local go_sem] run_ldA run_stA arrSt arrD loadX_at loadY_some storeX_at storeY_true wcs_size ones_wcs St.list_length ucs_size ones_ucs dg_length sha_length

set_option maxHeartbeats 2000000 in
set_option maxRecDepth 100000 in
theorem long_any (w : World) (b : UInt8) (z : Int) :
    Calls Try.prog 9 #[.int .u8 (ib b), .int .i64 z] w fun e w' => e = .returned (.bool true) ∧ Below w.heap.size w w' := by
  rcases (show z < 0 ∨ ¬ z < 0 ∧ 5000 < z ∨ ¬ z < 0 ∧ ¬ 5000 < z by omega) with h1 | ⟨h1, h2⟩ | ⟨h1, h2⟩
  · go_enter Try.func9, Try.ntmps9
    go_wp2_with (go_at_call 15; refine (works_any _).mono ?_; rintro e w9 ⟨rfl, hb9⟩; have HB9 := hd hb9; clear hb9)
    go_ret
    exact ⟨rfl, HB9.out⟩
  · go_enter Try.func9, Try.ntmps9
    go_wp2_with (go_at_call 15; refine (works_any _).mono ?_; rintro e w9 ⟨rfl, hb9⟩; have HB9 := hd hb9; clear hb9)
    go_ret
    exact ⟨rfl, HB9.out⟩
  · obtain ⟨n, rfl⟩ : ∃ n : Nat, z = (n : Int) := ⟨z.toNat, by omega⟩
    have hn : n ≤ 5000 := by omega
    have hn1 : ¬ (n : Int) < 0 := by omega
    have hn2 : ¬ (5000 : Int) < (n : Int) := by omega
    have hmk := make_bytes n (by omega)
    obtain ⟨l, hl⟩ : ∃ l, List.replicate n b = l := ⟨_, rfl⟩
    have hll : l.length = n := by rw [← hl]; simp
    have hdl : (sha l).length = 32 := sha_length l
    have hss := fun W g c (hb : SlW W (.slice (some ⟨g, 0, none⟩) n c) l n) => shasum_any W (some ⟨g, 0, none⟩) n c l hll hb (by omega)
    have hrs := fun W g c (hb : SlW W (.slice (some ⟨g, 0, none⟩) n c) l n) => rsum_any W (some ⟨g, 0, none⟩) n c l hll hb (by omega)
    revert hdl hss hrs
    generalize sha l = dg0
    intro hdl hss hrs
    have q1 := eq_digIn dg0 hdl
    have HRS := hd hrs
    have HSS := hd hss
    have HL := hd hl
    clear hrs hss h1 h2 hl
    go_enter Try.func9, Try.ntmps9
    go_upto_block 0 with (fail)
    clear hmk
    go_wp2_with fail
    go_loopw [6] (fun i wr => ∃ k : Nat, k ≤ n ∧ i = .int .i64 k ∧ wr.heap[w.heap.size]? = some (.cells (ucs (filled b n k)) 5 (0, 0)) ∧ Below w.heap.size w wr) (fun i _ => n - (intOf i).toNat)
    case atStart => exact ⟨0, Nat.zero_le _, rfl, by rw [show filled b n 0 = List.replicate n 0 by simp [filled]]; exact heap_alloc_new w _, (Below.refl _ _).alloc (Nat.le_refl _) _⟩
    case round =>
      obtain ⟨k, hk, rfl, hh, hbr⟩ := hrel
      have HH := hd hh
      have HBr := hd hbr
      by_cases hlt : k < n
      · have hltI : (k : Int) < (n : Int) := by omega
        have hcell := (blk_cell hh k).trans (ucs_get _ _ (by rw [filled_length _ _ _ hk]; exact hlt))
        have hf := blk_frozen hh k
        clear hh hbr
        go_wp2_with fail
        go_roundw
        case rel =>
          have hset := blk_set HH.out k (.int .u8 (ib b))
          rw [ucs_set, filled_set b n k hlt] at hset
          exact ⟨k + 1, hlt, by go_num, hset, HBr.out.setCell (Nat.le_refl _) _⟩
        case measure => simp [intOf]; omega
      · obtain rfl : k = n := by omega
        rw [filled_all, HL.out] at hh
        have hsl := raw_sl hh (by rw [hll]; unfold maxLen; omega)
        rw [hll] at hsl
        have HSL := hd hsl
        have HSM := hd (HSS.out wr w.heap.size k hsl)
        clear hh hbr hsl
        go_wp2_with (first
          | (go_at_call 25; refine HSM.out.mono ?_; rintro e w3 ⟨rfl, hb3⟩; have HB3 := hd hb3; clear hb3)
          | (go_at_call 29; refine (HRS.out _ _ _ (HSL.out.below HB3.out)).mono ?_; rintro e w4 ⟨rfl, hb4⟩; have HB4 := hd hb4; clear hb4)
          | (go_at_call 15; refine (works_any _).mono ?_; rintro e w9 ⟨rfl, hb9⟩; have HB9 := hd hb9; clear hb9))
        go_ret
        have h1 := HBr.out.trans (HB3.out.mono HBr.out.size)
        have h2 := h1.trans (HB4.out.mono h1.size)
        exact ⟨rfl, h2.trans (HB9.out.mono h2.size)⟩

end Go.Proofs.Ytolboolbapbniaa
