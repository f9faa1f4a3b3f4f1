/- (*Hash).Sum tells the digest of what a hash has got; Len. -/
import Derived.Test.YtolboolbapbniaaTail
namespace Go.Proofs.Ytolboolbapbniaa
open Go.RowKit Sp

/-- Bytes as an array's cells. -/
def ucs (l : List UInt8) : Array Value := (bcs l).toArray
theorem ucs_size (l : List UInt8) : (ucs l).size = l.length := by simp [ucs, bcs]
theorem ucs_get (l : List UInt8) (i : Nat) (h : i < l.length) : (ucs l)[i]? = some (.int .u8 (ib (bg l i))) := by
  rw [ucs, List.getElem?_toArray]; exact bcs_get l i h
theorem ucs_set (l : List UInt8) (i : Nat) (b : UInt8) : (ucs l).setIfInBounds i (.int .u8 (ib b)) = ucs (l.set i b) := by
  simp [ucs, bcs, List.map_set]
theorem ones_ucs (l : List UInt8) : ones (ucs l) = true := by
  unfold ones
  rw [Array.all_eq_true']
  intro v hv
  exact bcs_one l v (by simpa [ucs] using hv)

/-- The digest when j bytes of it are laid. -/
def dg (s : St) (j : Nat) : List UInt8 := (out s).take j ++ List.replicate (32 - j) 0
theorem dg_length (s : St) (j : Nat) : (dg s j).length = 32 := by simp [dg, out_length]; omega
theorem dg_end (s : St) : dg s 32 = out s := by
  unfold dg
  rw [List.take_of_length_le (by rw [out_length]; exact Nat.le_refl _)]; simp
theorem dg_set (s : St) (j : Nat) (h : j < 32) : (dg s j).set j (bg (out s) j) = dg s (j + 1) := by
  unfold dg bg
  have hl := out_length s
  rw [List.set_append_right _ _ (by simp; omega), show 32 - j = (32 - (j + 1)) + 1 by omega, List.replicate_succ]
  have e : j - ((out s).take j).length = 0 := by simp [hl]; omega
  rw [e, List.set_cons_zero, List.take_add_one, List.append_assoc]
  congr 1
  rw [List.getElem?_eq_getElem (by omega)]
  simp [List.getD_eq_getElem?_getD, hl, h]
theorem out_byte (s : St) (i k : Nat) (hi : i < 8) (hk : k < 4) : ib (bg (out s) (4 * i + k)) = iw (wg s.list i) / (2 ^ (24 - 8 * k) : Nat) % 256 := by
  have e : bg (out s) (4 * i + k) = UInt8.ofNat ((wg s.list i).toNat / 2 ^ (24 - 8 * k)) := by
    have h1 : i = 0 ∨ i = 1 ∨ i = 2 ∨ i = 3 ∨ i = 4 ∨ i = 5 ∨ i = 6 ∨ i = 7 := by omega
    have h2 : k = 0 ∨ k = 1 ∨ k = 2 ∨ k = 3 := by omega
    rcases h1 with rfl | rfl | rfl | rfl | rfl | rfl | rfl | rfl <;> rcases h2 with rfl | rfl | rfl | rfl <;>
      first | rfl | (rw [show (24 - 8 * 3 : Nat) = 0 from rfl, Nat.pow_zero, Nat.div_one]; rfl)
  rw [e]
  unfold ib iw
  rw [UInt8.toNat_ofNat', ← Int.natCast_ediv]
  omega

theorem ldD (v : Value) : Instr.loadAt 23 v = ldA 23 32 v := rfl
theorem stD (v u : Value) : Instr.storeAt 23 v u = stA 23 32 v u := rfl
theorem arrD : arrT Try.prog 23 32 = true := by kernel_rfl
attribute [local go_sem ↓] ldSt stSt ldD stD
attribute [local go_sem] run_ldA run_stA arrSt arrD loadX_at loadY_some storeX_at storeY_true wcs_size ones_wcs St.list_length ucs_size ones_ucs dg_length

set_option maxHeartbeats 400000 in
theorem len_any (w : World) (hb : Nat) (l : List UInt8) (h : HashAt w hb l) :
    Calls Try.prog 28 #[.pointer (some ⟨hb, 0, none⟩)] w fun e w' => e = .returned (.int .i64 l.length) ∧ w = w' := by
  obtain ⟨L, cL, hh, _⟩ := h
  obtain ⟨c8, c9, c10, hfz⟩ := hcs_cells hh
  clear hh
  go_enter Try.func28, Try.ntmps28
  go_wp2_with (go_at_call 35; refine (none_some _ _ c10).mono ?_; rintro e w' ⟨rfl, rfl⟩)
  go_ret
  exact ⟨rfl, rfl⟩

theorem HashAt.below {w w' : World} {g : Nat} {l : List UInt8} (h : HashAt w g l) (hb : Below w.heap.size w w') : HashAt w' g l := HcAt.below h hb
theorem HashAt.lt {w : World} {g : Nat} {l : List UInt8} (h : HashAt w g l) : g < w.heap.size := by obtain ⟨A, c, h1, _⟩ := h; exact blk_lt h1

set_option maxHeartbeats 1000000 in
set_option maxRecDepth 100000 in
theorem sum_any (w : World) (hb : Nat) (l : List UInt8) (h : HashAt w hb l) (hn : l.length ≤ 1152921504606846975) :
    Calls Try.prog 27 #[.pointer (some ⟨hb, 0, none⟩)] w fun e w' => e = .returned (.agg (ucs (sha l))) ∧ Below w.heap.size w w' := by
  have hblt := h.lt
  have HH := hd h
  obtain ⟨L, cL, hh, _⟩ := h
  obtain ⟨c8, c9, c10, hfz⟩ := hcs_cells hh
  clear hh c8
  go_enter Try.func27, Try.ntmps27
  go_upto_region 0 with (fail)
  go_cut [2] (fun d wx => d = .pointer (some ⟨w.heap.size, 0, none⟩) ∧ wx.heap[w.heap.size]? = some (.cells (ucs (List.replicate 32 0)) 23 (0, 0)) ∧ wx.heap.size = w.heap.size + 1 ∧ Below w.heap.size w wx)
  case first =>
    go_wp2_with fail
    go_meet
    exact ⟨rfl, heap_alloc_new w _, by simp, (Below.refl _ _).alloc (Nat.le_refl _) _⟩
  case rest =>
    obtain ⟨rfl, hD, hz, hB⟩ := hcut
    have HD := hd hD
    have HB := hd hB
    have hnn := none_some wc hb ((hB.cell (p := ⟨hb, 10, none⟩) hblt).trans c10)
    have hcp := hd (copy_any wc hb l (HH.out.below hB))
    have hc9 := (hB.cell (p := ⟨hb, 9, none⟩) hblt).trans c9
    have hf9 := (hB.frozen (p := ⟨hb, 9, none⟩) hblt).trans (hfz 9)
    clear hD hB c9 c10 hfz
    go_upto_region 5 with (first
      | (go_at_call 35; refine hnn.mono ?_; rintro e w' ⟨rfl, rfl⟩)
      | (go_at_call 30; refine hcp.out.mono ?_; rintro e w2 ⟨g, rfl, hh2, hg, hb2⟩; have H2 := hd hh2; have HB2 := hd hb2; have hc92 := (hb2.cell (p := ⟨hb, 9, none⟩) (by show hb < _; omega)).trans hc9; clear hh2 hb2 hc9)
      | (go_at_call 40; refine (tail_any _ l.length hn).mono ?_; rintro e w3 ⟨v, rfl, ho3, hb3⟩; obtain ⟨A3, c3, rfl, hm3, hc3m, hx3, hA3, hA30⟩ := own_cl ho3; have HW3 := hd (write_any w3 g l A3 _ c3 _ (H2.out.below hb3) rfl hA30 hx3 (by rw [tail_length]; omega) (by rw [tail_length]; omega)); have HB3 := hd hb3; clear ho3 hb3 hx3 hA3 hA30)
      | (go_at_call 24; refine HW3.out.mono ?_; rintro e w4 ⟨rfl, hh4, hg4⟩; have H4 := hd hh4; have HG4 := hd hg4; clear hh4 hg4))
    obtain ⟨s, hs⟩ : ∃ s, stOf (l ++ tail l.length) = s := ⟨_, rfl⟩
    have hres : sha l = out s := by rw [sha_eq, hs]
    have hgw : w.heap.size < g := by omega
    have HD4 := hd (((HG4.out.block w.heap.size (by have := HB2.out.size; have := HB3.out.size; omega) (by intro e; have e' : w.heap.size = g := (by simpa using e); omega)).trans ((HB3.out.block _ (by have := HB2.out.size; omega)).trans (HB2.out.block _ (by omega)))).trans HD.out)
    have HB5 := hd (HB.out.trans ((HB2.out.mono (by omega)).trans ((HB3.out.mono (by have := HB2.out.size; omega)).trans (show Below w.heap.size w3 w4 from ⟨HG4.out.os, HG4.out.tape, HG4.out.output, HG4.out.size, fun k hk => HG4.out.block k (by have := HB2.out.size; have := HB3.out.size; omega) (by intro e; have e' : k = g := (by simpa using e); omega)⟩))))
    have hsub : sub? w4 g 0 8 = some (wcs s.list) := by
      obtain ⟨A5, c5, h5, _⟩ := H4.out
      rw [hs] at h5
      exact sub_head h5 (by simp [wcs_size, St.list_length])
    have hg4lt : g < w4.heap.size := H4.out.lt
    have HRES := hd hres
    clear H4 H2 HB2 HB3 HG4 HW3 HD HB hnn hcp hs hres HH
    go_upto_block 0 with (fail)
    clear hsub
    go_wp2_with fail
    go_loopw [23] (fun i wr => ∃ k : Nat, k ≤ 8 ∧ i = .int .i64 k ∧ wr.heap[w.heap.size]? = some (.cells (ucs (dg s (4 * k))) 23 (0, 0)) ∧ Below w.heap.size w wr) (fun i _ => 8 - (intOf i).toNat)
    case atStart => exact ⟨0, by omega, rfl, HD4.out, HB5.out⟩
    case round =>
      obtain ⟨k, hk, rfl, hh, hgr⟩ := hrel
      have HH := hd hh
      have HG := hd hgr
      clear hh hgr
      by_cases hlt : k < 8
      · have hix : ∀ W, (Instr.index 66 (.agg (wcs s.list)) (.int .i64 k)).run Try.prog W = .ok (.int .u32 (iw (wg s.list k))) W := fun W =>
          run_index_cells (len := 8) (e := 64) (by kernel_rfl) (by kernel_rfl) W _ k _ hlt (wcs_get _ _ (by rw [St.list_length]; exact hlt))
        go_wp2_with fail
        go_loopw [27] (fun j wi => ∃ m : Nat, m ≤ 4 ∧ j = .int .i64 m ∧ wi.heap[w.heap.size]? = some (.cells (ucs (dg s (4 * k + m))) 23 (0, 0)) ∧ Below w.heap.size w wi) (fun j _ => 4 - (intOf j).toNat)
        case atStart => exact ⟨0, by omega, rfl, HH.out, HG.out⟩
        case round =>
          obtain ⟨m, hm, rfl, hh1, hg1⟩ := hrel
          clear HH HG
          have HH := hd hh1
          have HG := hd hg1
          clear hh1 hg1
          by_cases hlt2 : m < 4
          · have hcell := (blk_cell HH.out (4 * k + m)).trans (ucs_get _ _ (by rw [dg_length]; omega))
            have hf := blk_frozen HH.out (4 * k + m)
            have hsd := dg_set s (4 * k + m) (by omega)
            have hob := out_byte s k m hlt hlt2
            have hset := blk_set HH.out (4 * k + m) (.int .u8 (ib (bg (out s) (4 * k + m))))
            rw [ucs_set, hsd, hob] at hset
            have HSET := hd hset
            clear hset hsd hob
            go_wp2_with fail
            go_roundw
            case rel =>
              refine ⟨m + 1, by omega, by go_num, ?_, HG.out.setCell (Nat.le_refl _) _⟩
              have h7 := HSET.out
              rw [show ((2 ^ (24 - 8 * m) : Nat) : Int) = (2 : Int) ^ (24 - 8 * m) from Int.natCast_pow 2 _] at h7
              exact h7
            case measure => simp [intOf]; omega
          · obtain rfl : m = 4 := by omega
            go_wp2_with fail
            go_roundw
            case rel => exact ⟨k + 1, by omega, by go_num, HH.out, HG.out⟩
            case measure => simp [intOf]; omega
      · obtain rfl : k = 8 := by omega
        have hsub := sub_row (n := 32) HH.out (by rw [ucs_size, dg_length])
        have hcan := can_row (o := 0) (n := 32) HH.out (by rw [ucs_size, dg_length]; omega)
        go_wp2_with fail
        have hrow := putSub_row (c := ucs (dg s 32)) HH.out (by simp [ucs_size, dg_length])
        refine bodyPost_ret (ret_row rfl (n := 32) (by kernel_rfl) _ _ w.heap.size 0 (ucs (dg s 32)) rfl (sub_row hrow (by rw [ucs_size, dg_length]))) rfl ⟨by rw [HRES.out, dg_end], HG.out.putSub (Nat.le_refl _)⟩

end Go.Proofs.Ytolboolbapbniaa
