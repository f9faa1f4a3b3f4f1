/- ShaBlocks: the digest of whole blocks, and of what stands behind some: it returns true. -/
import Derived.Test.YtolboolbapbniaaRow
namespace Go.Proofs.Ytolboolbapbniaa
open Go.RowKit Sp

def reps (l : List UInt8) : Nat → List UInt8
  | 0 => []
  | k + 1 => reps l k ++ l
theorem reps_length (l : List UInt8) (hl : l.length = 64) (k : Nat) : (reps l k).length = 64 * k := by
  induction k with
  | zero => rfl
  | succ k ih => rw [reps, List.length_append, ih, hl]; omega

attribute [local go_sem ↓] ldSt stSt ldD stD
attribute [local go_sem] run_ldA run_stA arrSt arrD loadX_at loadY_some storeX_at storeY_true wcs_size ones_wcs St.list_length ucs_size ones_ucs dg_length sha_length

set_option maxHeartbeats 2000000 in
set_option maxRecDepth 100000 in
theorem blocks_any2 (w : World) (lb : List UInt8) (hlb : lb.length = 64) (z : Int) (A : Option Addr) (n c : Nat) (l : List UInt8) (hl : l.length = n) (hs : SlW w (.slice A n c) l n) :
    Calls Try.prog 14 #[.agg (ucs lb), .int .i64 z, .slice A n c] w fun e w' => e = .returned (.bool true) ∧ Below w.heap.size w w' := by
  rcases (show z < 0 ∨ (¬ z < 0 ∧ 20 < z) ∨ (¬ z < 0 ∧ ¬ 20 < z ∧ (130 : Int) < (n : Int)) ∨ (¬ z < 0 ∧ ¬ 20 < z ∧ ¬ (130 : Int) < (n : Int)) by omega) with h1 | ⟨h1, h2⟩ | ⟨h1, h2, h3⟩ | ⟨h1, h2, h3⟩
  · go_enter Try.func14, Try.ntmps14
    go_wp2_with (go_at_call 15; refine (works_any _).mono ?_; rintro e w9 ⟨rfl, hb9⟩; have HB9 := hd hb9; clear hb9)
    go_ret
    exact ⟨rfl, ((Below.refl _ _).alloc (Nat.le_refl _) _).trans (HB9.out.mono (by simp))⟩
  · go_enter Try.func14, Try.ntmps14
    go_wp2_with (go_at_call 15; refine (works_any _).mono ?_; rintro e w9 ⟨rfl, hb9⟩; have HB9 := hd hb9; clear hb9)
    go_ret
    exact ⟨rfl, ((Below.refl _ _).alloc (Nat.le_refl _) _).trans (HB9.out.mono (by simp))⟩
  · go_enter Try.func14, Try.ntmps14
    go_wp2_with (go_at_call 15; refine (works_any _).mono ?_; rintro e w9 ⟨rfl, hb9⟩; have HB9 := hd hb9; clear hb9)
    go_ret
    exact ⟨rfl, ((Below.refl _ _).alloc (Nat.le_refl _) _).trans (HB9.out.mono (by simp))⟩
  · obtain ⟨N, rfl⟩ : ∃ N : Nat, z = (N : Int) := ⟨z.toNat, by omega⟩
    have hN : N ≤ 20 := by omega
    have hn : n ≤ 130 := by omega
    have HS := hd hs
    have HLB := hd hlb
    clear hs hlb
    go_enter Try.func14, Try.ntmps14
    go_upto_block 0 with (go_at_call 23; refine (new_any _).mono ?_; rintro e w2 ⟨hb, rfl, hh2, hb2, hB2⟩; have H2 := hd hh2; have HB2 := hd hB2; clear hh2 hB2)
    have hbx : w2.heap[w.heap.size]? = some (.cells (ucs lb) 58 (0, 0)) := (HB2.out.block w.heap.size (by simp)).trans (heap_alloc_new w _)
    have hBw : Below w.heap.size w w2 := ((Below.refl _ _).alloc (Nat.le_refl _) (.cells (ucs lb) 58)).trans (HB2.out.mono (by simp))
    have hhw : w.heap.size < hb := by simp at hb2; omega
    have hhb : hb < w2.heap.size := H2.out.lt
    have HBX := hd hbx
    have HBw := hd hBw
    have HLL : Hid ((bcs lb).length = 64 * 1) := hd (by rw [bcs_length, HLB.out])
    have hbw2 : w.heap.size ≤ w2.heap.size := hBw.size
    clear hbx hBw HB2 hb2 h1 h2
    have hNI : ¬ (N : Int) < 0 := by omega
    go_wp2_with fail
    go_loopw [8, 9] (fun v i wr => ∃ k m : Nat, m = 64 * k ∧ k ≤ N ∧ i = .int .i64 (k : Int) ∧ wr.ownsRow w2.heap.size 5 1 v m (bcs (reps lb k)) ∧ HashFar wr hb (reps lb k) (fun j => v.ownBlock ≠ some j) ∧
      Below w.heap.size w wr ∧ wr.heap[w.heap.size]? = some (.cells (ucs lb) 58 (0, 0)) ∧ w2.heap.size ≤ wr.heap.size) (fun _ i _ => N - (intOf i).toNat)
    case atStart =>
      exact ⟨0, 0, rfl, Nat.zero_le _, rfl, ⟨rfl, .inl ⟨rfl, rfl⟩⟩, H2.out.farAll (fun k => nofun), HBw.out, HBX.out, Nat.le_refl _⟩
    case round =>
      obtain ⟨k, m, hmk, hk, rfl, ho, hf, hg, hx, hw2⟩ := hrel
      obtain ⟨v, rfl⟩ : ∃ v, v = u8 := ⟨_, rfl⟩
      have hm20 : m ≤ 1280 := by omega
      have HO := hd ho
      have HF := hd hf
      have HG := hd hg
      have HX := hd hx
      have HMK := hd hmk
      have hsb : SlW wr (.slice (some ⟨w.heap.size, 0, none⟩) 64 64) lb 64 := by
        have h := row_sl hx (by rw [HLB.out]; decide)
        rwa [HLB.out] at h
      have HSB := hd hsb
      have hrl : (reps lb k).length = m := by rw [reps_length lb HLB.out, hmk]
      have HRL := hd hrl
      clear ho hf hg hx hmk hsb hrl
      by_cases hlt : k < N
      · have hltI : (k : Int) < (N : Int) := by omega
        have HCL : Hid (Cl wr (some ⟨w.heap.size, 0, none⟩) (bcs lb)) := hd (by obtain ⟨_, _, e, _, _, _, h⟩ := HSB.out; cases e; exact h)
        have b1 : m + 64 ≤ maxLen := by unfold maxLen; omega
        have b2 : (m + 64) * 1 ≤ 140737488355328 := by omega
        go_upto_region 9 with (at_builtin; refine wpList_app rfl (.tmp 28) (.tmp 29) 33 rfl w2.heap.size 5 (.int .u8 0) 1 1 (by kernel_rfl) infoB rfl (by decide) v m (bcs (reps lb k)) rfl HO.out (some ⟨w.heap.size, 0, none⟩) 64 64 (bcs lb) rfl HLL.out (fun e => nomatch e) HCL.out (bcs_one lb) b1 b2 hw2 ?_; intro v3 w3 ho3 hg3 _; have HO3 := hd ho3; have HG3 := hd hg3; clear ho3 hg3)
        have HB3 : Hid (Below w.heap.size w w3) := hd (HG.out.grown HG3.out HG.out.size (fun g e => by have := (HO.out.lt g e).1; omega))
        have HX3 : Hid (w3.heap[w.heap.size]? = some (.cells (ucs lb) 58 (0, 0))) := hd ((HG3.out.block _ (blk_lt HX.out) (fun e => by have := (HO.out.lt _ e.symm).1; omega)).trans HX.out)
        have HH3 : Hid (HashAt w3 hb (reps lb k)) := hd (HF.out.keepRow HG3.out (fun e => by have := (HO.out.lt hb e).1; omega) (fun j e h => h e))
        have hsb3 : SlW w3 (.slice (some ⟨w.heap.size, 0, none⟩) 64 64) lb 64 := by
          have h := row_sl HX3.out (by rw [HLB.out]; decide)
          rwa [HLB.out] at h
        have HW := hd (write_v HH3.out hsb3 HLB.out (by omega) (by rw [HRL.out]; omega))
        clear hsb3
        go_wp2_with (first
          | (go_at_call 24; refine HW.out.mono ?_; rintro e w4 ⟨rfl, hh4, hg4⟩; have H4 := hd hh4; have HG4 := hd hg4; clear hh4 hg4)
          | (go_at_call 20; refine (num_any _ _).mono ?_; rintro e w' ⟨rfl, rfl⟩))
        go_roundw
        case rel =>
          refine ⟨k + 1, m + 64, by have := HMK.out; omega, hlt, by go_num, ?_, ?_, ?_, ?_, ?_⟩
          · rw [show bcs (reps lb (k + 1)) = bcs (reps lb k) ++ bcs lb from bcs_append _ _]
            exact own_keep HO3.out (fun g h5 h6 _ => HG4.out.block g h6 (fun e => by have e' : g = hb := (by simpa using e); omega))
          · exact H4.out.mono (fun j _ h5 h6 => by have := (HO3.out.lt j h6).2; omega)
          · exact HB3.out.grown HG4.out HB3.out.size (fun g e => by cases e; omega)
          · exact (HG4.out.block _ (blk_lt HX3.out) (fun e => by have e' : w.heap.size = hb := (by simpa using e); omega)).trans HX3.out
          · have := HG4.out.size; have := HG3.out.size; omega
        case measure => simp [intOf]; omega
      · obtain rfl : k = N := by omega
        have hltI : ¬ (k : Int) < (k : Int) := by omega
        obtain ⟨_, _, e0, hnc, hcm, hA0, hxx⟩ := HS.out
        cases e0
        have HXX : Hid (Cl wr A (bcs l)) := hd (hxx.below HG.out)
        have HA0 := hd hA0
        have HL : Hid ((bcs l).length = n * 1) := hd (by rw [bcs_length, hl, Nat.mul_one])
        have b1 : m + n ≤ maxLen := by unfold maxLen; omega
        have b2 : (m + n) * 1 ≤ 140737488355328 := by omega
        clear hA0 hxx
        go_upto_region 12 with (at_builtin; refine wpList_app rfl (.tmp 36) (.tmp 37) 33 rfl w2.heap.size 5 (.int .u8 0) 1 1 (by kernel_rfl) infoB rfl (by decide) v m (bcs (reps lb k)) rfl HO.out A n c (bcs l) rfl HL.out HA0.out HXX.out (bcs_one l) b1 b2 hw2 ?_; intro v3 w3 ho3 hg3 _; have HO3 := hd ho3; have HG3 := hd hg3; clear ho3 hg3)
        have HB3 : Hid (Below w.heap.size w w3) := hd (HG.out.grown HG3.out HG.out.size (fun g e => by have := (HO.out.lt g e).1; omega))
        have HH3 : Hid (HashAt w3 hb (reps lb k)) := hd (HF.out.keepRow HG3.out (fun e => by have := (HO.out.lt hb e).1; omega) (fun j e h => h e))
        obtain ⟨al, hal⟩ : ∃ al, reps lb k ++ l = al := ⟨_, rfl⟩
        have hall : al.length = m + n := by rw [← hal, List.length_append, HRL.out, hl]
        have HW := hd (write_v HH3.out (HS.out.below HB3.out) hl (by omega) (by rw [HRL.out]; omega))
        rw [hal] at HW
        go_upto_region 13 with (go_at_call 24; refine HW.out.mono ?_; rintro e w4 ⟨rfl, hh4, hg4⟩; have H4 := hd hh4.at; have HG4 := hd hg4; clear hh4 hg4)
        have HB4 : Hid (Below w.heap.size w w4) := hd (HB3.out.grown HG4.out HB3.out.size (fun g e => by cases e; omega))
        obtain ⟨B, cB, e1, _, _, _, _, _⟩ := own_cl HO3.out
        subst e1
        have HM : Hid (SlW w4 (.slice B (m + n) cB) al (m + n)) := hd (by
          have h := own_keep HO3.out (w' := w4) (fun g h5 h6 _ => HG4.out.block g h6 (fun e => by have e' : g = hb := (by simpa using e); omega))
          rw [← bcs_append, hal] at h
          exact own_sl h)
        have hdl : (sha al).length = 32 := sha_length al
        have hss := fun W (hb : SlW W (.slice B (m + n) cB) al (m + n)) => ssum_v hb hall (by omega)
        have hrs := fun W (hb : SlW W (.slice B (m + n) cB) al (m + n)) => rsum_v hb hall (by omega)
        have hhs := fun W (h : HashAt W hb al) => sum_any W hb al h (by omega)
        have hhl := fun W (h : HashAt W hb al) => len_any W hb al h
        rw [hall] at hhl
        revert hdl hss hrs hhs
        generalize sha al = dg0
        intro hdl hss hrs hhs
        have q1 := eq_digIn dg0 hdl
        have HSS := hd hss
        have HRS := hd hrs
        have HHS := hd hhs
        have HHL := hd hhl
        clear hss hrs hhs hhl hall hal HW HB3 HH3 HO3 HG3 HG4 HXX HA0 HL HO HF HG HX
        go_wp2_with (first
          | (go_at_call 27; refine (HHS.out _ H4.out).mono ?_; rintro e w5 ⟨rfl, hb5⟩; have HB5 := hd hb5; clear hb5)
          | (go_at_call 29; have h5 := HB7; clear h5; refine (HRS.out _ (HM.out.below HB7.out)).mono ?_; rintro e w8 ⟨rfl, hb8⟩; have HB8 := hd (HB7.out.trans (hb8.mono HB7.out.size)); clear hb8)
          | (go_at_call 29; refine (HRS.out _ (HM.out.below HB5.out)).mono ?_; rintro e w6 ⟨rfl, hb6⟩; have HB6 := hd (HB5.out.trans (hb6.mono HB5.out.size)); clear hb6)
          | (go_at_call 25; refine (HSS.out _ (HM.out.below HB6.out)).mono ?_; rintro e w7 ⟨rfl, hb7⟩; have HB7 := hd (HB6.out.trans (hb7.mono HB6.out.size)); clear hb7)
          | (go_at_call 28; refine (HHL.out _ (H4.out.below HB8.out)).mono ?_; rintro e w' ⟨rfl, rfl⟩)
          | (go_at_call 15; refine (works_any _).mono ?_; rintro e w9 ⟨rfl, hb9⟩; have HB9 := hd hb9; clear hb9))
        go_ret
        have k1 := HB4.out.trans (HB8.out.mono HB4.out.size)
        exact ⟨rfl, k1.trans (HB9.out.mono k1.size)⟩

end Go.Proofs.Ytolboolbapbniaa
