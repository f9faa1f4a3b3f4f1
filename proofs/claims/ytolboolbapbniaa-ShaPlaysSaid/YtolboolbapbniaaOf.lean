/- sha.Of and sha.Sum: the digest of parts, of bytes. -/
import Derived.Test.YtolboolbapbniaaSum
namespace Go.Proofs.Ytolboolbapbniaa
open Go.RowKit Sp

/-- A slice that reads as these bytes (of its block nothing is said). -/
def SlW (w : World) (v : Value) (lf : List UInt8) (m : Nat) : Prop := ∃ A c, v = .slice A m c ∧ m ≤ c ∧ c ≤ maxLen ∧ (A = none → m = 0 ∧ c = 0) ∧ Cl w A (bcs lf)
theorem SlAt.weak {w : World} {v : Value} {lf : List UInt8} {m : Nat} (h : SlAt w v lf m) : SlW w v lf m := by
  obtain ⟨A, c, h1, h2, h3, h4, h5, _⟩ := h
  exact ⟨A, c, h1, h2, h3, h4, h5⟩
theorem SlW.below {w w' : World} {v : Value} {lf : List UInt8} {m : Nat} (h : SlW w v lf m) (hb : Below w.heap.size w w') : SlW w' v lf m := by
  obtain ⟨A, c, h1, h2, h3, h4, h5⟩ := h
  exact ⟨A, c, h1, h2, h3, h4, h5.below hb⟩
/-- Slices of bytes in a row from A on. -/
def PartsAt (w : World) (A : Option Addr) (ps : List (Value × List UInt8)) : Prop :=
  ∀ j p, ps[j]? = some p → (∃ a, A = some a ∧ w.cell? (a.add j) = some p.1) ∧ SlW w p.1 p.2 p.2.length
theorem PartsAt.below {w w' : World} {A : Option Addr} {ps : List (Value × List UInt8)} (h : PartsAt w A ps) (hb : Below w.heap.size w w') : PartsAt w' A ps := fun j p hj => by
  obtain ⟨⟨a, ha, hc⟩, hs⟩ := h j p hj
  exact ⟨⟨a, ha, (hb.cell (World.block_lt_of_cell? w _ hc)).trans hc⟩, hs.below hb⟩
def flat (ps : List (Value × List UInt8)) : List UInt8 := ps.flatMap (·.2)
theorem flat_take (ps : List (Value × List UInt8)) (k : Nat) (p : Value × List UInt8) (h : ps[k]? = some p) : flat (ps.take (k + 1)) = flat (ps.take k) ++ p.2 := by
  unfold flat
  rw [List.take_add_one, h]
  simp
theorem flat_take_le (ps : List (Value × List UInt8)) (k : Nat) : (flat (ps.take k)).length ≤ (flat ps).length := by
  have : flat ps = flat (ps.take k) ++ flat (ps.drop k) := by
    unfold flat
    rw [← List.flatMap_append, List.take_append_drop]
  rw [this, List.length_append]; omega
theorem flat_part_le (ps : List (Value × List UInt8)) (k : Nat) (p : Value × List UInt8) (h : ps[k]? = some p) : p.2.length ≤ (flat ps).length := by
  have h1 := flat_take_le ps (k + 1)
  rw [flat_take ps k p h, List.length_append] at h1
  omega

/-- Below, and one block from B on may have turned. -/
theorem below_grown {B : Nat} {w w' : World} {g : Nat} (hg : w.grownBy w' (some g)) (hB : B ≤ w.heap.size) (h : B ≤ g) : Below B w w' :=
  (Below.refl B w).grown hg hB (fun k e => by cases e; exact h)

attribute [local go_sem ↓] ldSt stSt ldD stD
attribute [local go_sem] run_ldA run_stA arrSt arrD loadX_at loadY_some storeX_at storeY_true wcs_size ones_wcs St.list_length ucs_size ones_ucs dg_length sha_length

set_option maxHeartbeats 1000000 in
set_option maxRecDepth 100000 in
theorem of_any (w : World) (A : Option Addr) (n c : Nat) (ps : List (Value × List UInt8)) (hn : ps.length = n) (hp : PartsAt w A ps) (ht : (flat ps).length ≤ 549755813888) (hn2 : n ≤ 4611686018427387904) :
    Calls Try.prog 26 #[.slice A n c] w fun e w' => e = .returned (.agg (ucs (sha (flat ps)))) ∧ Below w.heap.size w w' := by
  have HP := hd hp
  clear hp
  go_enter Try.func26, Try.ntmps26
  go_upto_region 0 with (fail)
  go_cut [2] (fun d wx => d = .pointer (some ⟨w.heap.size, 0, none⟩) ∧ wx.heap[w.heap.size]? = some (.cells (ucs (List.replicate 32 0)) 23 (0, 0)) ∧ wx.heap.size = w.heap.size + 1 ∧ Below w.heap.size w wx)
  case first =>
    go_wp2_with fail
    go_meet
    exact ⟨rfl, heap_alloc_new w _, by simp, (Below.refl _ _).alloc (Nat.le_refl _) _⟩
  case rest =>
    obtain ⟨rfl, hD, hz, hB⟩ := hcut
    have HD := hd hD
    have HB := hd hB
    clear hD hB
    go_upto_block 0 with (go_at_call 23; refine (new_any _).mono ?_; rintro e w2 ⟨hb, rfl, hh2, hb2, hB2⟩; have H2 := hd hh2; have HB2 := hd hB2; clear hh2 hB2)
    go_wp2_with fail
    go_loopw [9] (fun i wr => ∃ k : Nat, k ≤ n ∧ i = .int .i64 k ∧ HashAt wr hb (flat (ps.take k)) ∧ wr.heap[w.heap.size]? = some (.cells (ucs (List.replicate 32 0)) 23 (0, 0)) ∧ Below w.heap.size w wr) (fun i _ => n - (intOf i).toNat)
    case atStart =>
      exact ⟨0, Nat.zero_le _, rfl, by simpa [flat] using H2.out, (HB2.out.block _ (by omega)).trans HD.out, HB.out.trans (HB2.out.mono (by omega))⟩
    case round =>
      obtain ⟨k, hk, rfl, hh, hd1, hg1⟩ := hrel
      have HH := hd hh
      have HD1 := hd hd1
      have HG := hd hg1
      clear hh hd1 hg1
      by_cases hlt : k < n
      · obtain ⟨p, hpk⟩ : ∃ p, ps[k]? = some p := ⟨ps[k], List.getElem?_eq_getElem (by omega)⟩
        obtain ⟨⟨a, rfl, hc⟩, ⟨A1, c1, hv, hm1, hc1, hA10, hx1⟩⟩ := HP.out.below HG.out k p hpk
        have hltI : (k : Int) < (n : Int) := by omega
        rw [hv] at hc
        have HW := hd (write_any wr hb _ A1 _ c1 p.2 HH.out rfl hA10 hx1 (by have := flat_part_le ps k p hpk; omega) (by have := flat_take_le ps k; have := flat_part_le ps k p hpk; omega))
        go_wp2_with (go_at_call 24; refine HW.out.mono ?_; rintro e w4 ⟨rfl, hh4, hg4⟩; have H4 := hd hh4; have HG4 := hd hg4; clear hh4 hg4)
        go_roundw
        case rel =>
          refine ⟨k + 1, by omega, by go_num, by rw [flat_take ps k p hpk]; exact H4.out, ?_, ?_⟩
          · exact (HG4.out.block _ (blk_lt HD1.out) (by intro e; have e' : w.heap.size = hb := (by simpa using e); omega)).trans HD1.out
          · exact HG.out.trans (below_grown HG4.out HG.out.size (by omega))
        case measure => simp [intOf]; omega
      · obtain rfl : k = n := by omega
        have hps : ps.take k = ps := by rw [← hn]; exact List.take_length
        have HH2 : Hid (HashAt wr hb (flat ps)) := hd (by have := HH.out; rwa [hps] at this)
        have HS := hd (sum_any wr hb (flat ps) HH2.out (by omega))
        have hwl : w.heap.size < wr.heap.size := blk_lt HD1.out
        go_wp2_with (first
          | (go_at_call 27; refine HS.out.mono ?_; rintro e w5 ⟨rfl, hb5⟩; have HB5 := hd hb5; have hD5 := (hb5.block _ hwl).trans HD1.out; have hcan := can_row (o := 0) (n := 32) hD5 (by simp [ucs_size]); have HD5 := hd hD5; clear hb5 hD5))
        have hrow := putSub_row (c := ucs (sha (flat ps))) HD5.out (by simp [ucs_size, sha_length])
        refine bodyPost_ret (ret_row rfl (n := 32) (by kernel_rfl) _ _ w.heap.size 0 (ucs (sha (flat ps))) rfl (sub_row hrow (by rw [ucs_size, sha_length]))) rfl ⟨rfl, Below.putSub (HG.out.trans (HB5.out.mono (Nat.le_of_lt hwl))) (Nat.le_refl _)⟩

set_option maxHeartbeats 1000000 in
set_option maxRecDepth 100000 in
theorem shasum_any (w : World) (A : Option Addr) (n c : Nat) (l : List UInt8) (hl : l.length = n) (hs : SlW w (.slice A n c) l n) (ht : n ≤ 549755813888) :
    Calls Try.prog 25 #[.slice A n c] w fun e w' => e = .returned (.agg (ucs (sha l))) ∧ Below w.heap.size w w' := by
  have HS := hd hs
  clear hs
  go_enter Try.func25, Try.ntmps25
  go_upto_region 0 with (fail)
  go_cut [2] (fun d wx => d = .pointer (some ⟨w.heap.size, 0, none⟩) ∧ wx.heap[w.heap.size]? = some (.cells (ucs (List.replicate 32 0)) 23 (0, 0)) ∧ wx.heap.size = w.heap.size + 1 ∧ Below w.heap.size w wx)
  case first =>
    go_wp2_with fail
    go_meet
    exact ⟨rfl, heap_alloc_new w _, by simp, (Below.refl _ _).alloc (Nat.le_refl _) _⟩
  case rest =>
    obtain ⟨rfl, hD, hz, hB⟩ := hcut
    have HD := hd hD
    have HB := hd hB
    obtain ⟨W2, hW2⟩ : ∃ W2, wc.alloc (.cells #[.slice A n c] 33) = W2 := ⟨_, rfl⟩
    have hB2 : Below wc.heap.size wc W2 := by rw [← hW2]; exact (Below.refl _ _).alloc (Nat.le_refl _) _
    have hc2 : W2.cell? ⟨wc.heap.size, 0, none⟩ = some (.slice A n c) := by rw [← hW2]; exact (Boxed.new _ _ _).cell
    rw [hz] at hc2
    have e1 : flat [(Value.slice A n c, l)] = l := by simp [flat]
    have HO := hd (of_any W2 (some ⟨w.heap.size + 1, 0, none⟩) 1 1 [(.slice A n c, l)] rfl (fun j p hj => by
      have hj0 : j = 0 := by
        have := (List.getElem?_eq_some_iff.1 hj).1
        simp at this; omega
      subst hj0
      cases hj
      exact ⟨⟨_, rfl, by rw [add_lit]; exact hc2⟩, by rw [hl]; exact HS.out.below (hB.trans (hB2.mono (by omega)))⟩) (by simp [flat]; omega) (by omega))
    rw [e1] at HO
    have HB2 := hd hB2
    have hDW := hd ((hB2.block w.heap.size (by omega)).trans hD)
    have hzW : w.heap.size < W2.heap.size := blk_lt hDW.out
    clear hD hB hB2 hc2
    go_wp2_with (go_at_call 26; refine HO.out.mono ?_; rintro e w5 ⟨rfl, hb5⟩; have HB5 := hd hb5; have hD5 := (hb5.block _ hzW).trans hDW.out; have hcan := can_row (o := 0) (n := 32) hD5 (by simp [ucs_size]); have HD5 := hd hD5; clear hb5 hD5)
    have hrow := putSub_row (c := ucs (sha l)) HD5.out (by simp [ucs_size, sha_length])
    refine bodyPost_ret (ret_row rfl (n := 32) (by kernel_rfl) _ _ w.heap.size 0 (ucs (sha l)) rfl (sub_row hrow (by rw [ucs_size, sha_length]))) rfl ⟨rfl, Below.putSub (HB.out.trans ((HB2.out.mono (by omega)).trans (HB5.out.mono (Nat.le_of_lt hzW)))) (Nat.le_refl _)⟩

end Go.Proofs.Ytolboolbapbniaa
