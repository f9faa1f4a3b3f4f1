/- ShaCopied: a copy goes on apart: it returns true. -/
import Derived.Test.YtolboolbapbniaaRow
namespace Go.Proofs.Ytolboolbapbniaa
open Go.RowKit Sp

attribute [local go_sem ↓] ldSt stSt ldD stD
attribute [local go_sem] run_ldA run_stA arrSt arrD loadX_at loadY_some storeX_at storeY_true wcs_size ones_wcs St.list_length ucs_size ones_ucs dg_length sha_length

set_option maxHeartbeats 2000000 in
set_option maxRecDepth 100000 in
theorem copied_big (w : World) (A0 : Option Addr) (n0 c0 : Nat) (A1 : Option Addr) (n1 c1 : Nat) (A2 : Option Addr) (n2 c2 : Nat) (h : ¬ (n0 ≤ 200 ∧ n1 ≤ 200 ∧ n2 ≤ 200)) :
    Calls Try.prog 11 #[.slice A0 n0 c0, .slice A1 n1 c1, .slice A2 n2 c2] w fun e w' => e = .returned (.bool true) ∧ Below w.heap.size w w' := by
  rcases (show (200 : Int) < (n0 : Int) ∨ (¬ (200 : Int) < (n0 : Int) ∧ (200 : Int) < (n1 : Int)) ∨ (¬ (200 : Int) < (n0 : Int) ∧ ¬ (200 : Int) < (n1 : Int) ∧ (200 : Int) < (n2 : Int)) by omega) with h1 | ⟨h1, h2⟩ | ⟨h1, h2, h3⟩ <;> clear h
  all_goals
    go_enter Try.func11, Try.ntmps11
    go_wp2_with (go_at_call 15; refine (works_any _).mono ?_; rintro e w9 ⟨rfl, hb9⟩; have HB9 := hd hb9; clear hb9)
    go_ret
    exact ⟨rfl, HB9.out⟩

set_option maxHeartbeats 2000000 in
set_option maxRecDepth 100000 in
theorem copied_any (w : World) (A0 : Option Addr) (n0 c0 : Nat) (l0 : List UInt8) (hl0 : l0.length = n0) (hs0 : SlW w (.slice A0 n0 c0) l0 n0)
    (A1 : Option Addr) (n1 c1 : Nat) (l1 : List UInt8) (hl1 : l1.length = n1) (hs1 : SlW w (.slice A1 n1 c1) l1 n1)
    (A2 : Option Addr) (n2 c2 : Nat) (l2 : List UInt8) (hl2 : l2.length = n2) (hs2 : SlW w (.slice A2 n2 c2) l2 n2) :
    Calls Try.prog 11 #[.slice A0 n0 c0, .slice A1 n1 c1, .slice A2 n2 c2] w fun e w' => e = .returned (.bool true) ∧ Below w.heap.size w w' := by
  by_cases hbig : n0 ≤ 200 ∧ n1 ≤ 200 ∧ n2 ≤ 200
  · obtain ⟨h0, h1, h2⟩ := hbig
    have i0 : ¬ (200 : Int) < (n0 : Int) := by omega
    have i1 : ¬ (200 : Int) < (n1 : Int) := by omega
    have i2 : ¬ (200 : Int) < (n2 : Int) := by omega
    have hw := fun W g l A n c (bs : List UInt8) (hb : bs.length = n) (hn : n ≤ 200) (h : HashAt W g l) (hll : l.length ≤ 1000) (hs : SlW W (.slice A n c) bs n) =>
      (write_v h hs hb (by omega) (by omega)).mono fun _ _ ⟨h1, h2, h3⟩ => (⟨h1, h2.at, h3⟩ : _ ∧ _ ∧ _)
    have HWR := hd hw
    have HS0 := hd hs0
    have HS1 := hd hs1
    have HS2 := hd hs2
    obtain ⟨m1, hm1⟩ : ∃ m, 0 + n0 + n1 = m := ⟨_, rfl⟩
    obtain ⟨m2, hm2⟩ : ∃ m, 0 + n0 + n2 = m := ⟨_, rfl⟩
    obtain ⟨a1, ha1⟩ : ∃ a, l0 ++ l1 = a := ⟨_, rfl⟩
    obtain ⟨a2, ha2⟩ : ∃ a, l0 ++ l2 = a := ⟨_, rfl⟩
    have hal1 : a1.length = m1 := by rw [← ha1, ← hm1, List.length_append, hl0, hl1]; omega
    have hal2 : a2.length = m2 := by rw [← ha2, ← hm2, List.length_append, hl0, hl2]; omega
    have e1 : [] ++ bcs l0 ++ bcs l1 = bcs a1 := by rw [← ha1, bcs_append]; rfl
    have e2 : [] ++ bcs l0 ++ bcs l2 = bcs a2 := by rw [← ha2, bcs_append]; rfl
    have E1 := hd e1
    have E2 := hd e2
    have HA1 := hd ha1
    have HA2 := hd ha2
    have HM1 := hd hm1
    have HM2 := hd hm2
    have b0 : 0 + n0 ≤ maxLen := by unfold maxLen; omega
    have b01 : 0 + n0 + n1 ≤ maxLen := by unfold maxLen; omega
    have b02 : 0 + n0 + n2 ≤ maxLen := by unfold maxLen; omega
    have hd1 : (sha a1).length = 32 := sha_length a1
    have hd2 : (sha a2).length = 32 := sha_length a2
    have hr1 := fun W v (h : SlW W v a1 m1) => rsum_v h hal1 (by omega)
    have hr2 := fun W v (h : SlW W v a2 m2) => rsum_v h hal2 (by omega)
    have hh1 := fun W g (h : HashAt W g a1) => sum_any W g a1 h (by omega)
    have hh2 := fun W g (h : HashAt W g a2) => sum_any W g a2 h (by omega)
    revert hd1 hd2 hr1 hr2 hh1 hh2
    generalize sha a1 = dg1
    generalize sha a2 = dg2
    intro hd1 hd2 hr1 hr2 hh1 hh2
    have q1 := eq_digIn dg1 hd1
    have q2 := eq_digIn dg2 hd2
    have HR1 := hd hr1
    have HR2 := hd hr2
    have HH1 := hd hh1
    have HH2 := hd hh2
    have HL0 : Hid ((bcs l0).length = n0 * 1) := hd (by rw [bcs_length, hl0, Nat.mul_one])
    have HL1 : Hid ((bcs l1).length = n1 * 1) := hd (by rw [bcs_length, hl1, Nat.mul_one])
    have HL2 : Hid ((bcs l2).length = n2 * 1) := hd (by rw [bcs_length, hl2, Nat.mul_one])
    have HN0 : Hid (A0 = none → n0 = 0 ∧ c0 = 0) := hd (by obtain ⟨_, _, e, _, _, h, _⟩ := hs0; cases e; exact h)
    have HN1 : Hid (A1 = none → n1 = 0 ∧ c1 = 0) := hd (by obtain ⟨_, _, e, _, _, h, _⟩ := hs1; cases e; exact h)
    have HN2 : Hid (A2 = none → n2 = 0 ∧ c2 = 0) := hd (by obtain ⟨_, _, e, _, _, h, _⟩ := hs2; cases e; exact h)
    have HX0 : Hid (Cl w A0 (bcs l0)) := hd (by obtain ⟨_, _, e, _, _, _, h⟩ := hs0; cases e; exact h)
    have HX1 : Hid (Cl w A1 (bcs l1)) := hd (by obtain ⟨_, _, e, _, _, _, h⟩ := hs1; cases e; exact h)
    have HX2 : Hid (Cl w A2 (bcs l2)) := hd (by obtain ⟨_, _, e, _, _, _, h⟩ := hs2; cases e; exact h)
    clear hw hs0 hs1 hs2 hr1 hr2 hh1 hh2 e1 e2 ha1 ha2 hm1 hm2
    go_enter Try.func11, Try.ntmps11
    go_upto_region 5 with (first
      | (go_at_call 23; refine (new_any _).mono ?_; rintro e w2 ⟨hb, rfl, hh2, hb2, hB2⟩; have H2 := hd hh2; have HB2 := hd hB2; clear hh2 hB2)
      | (go_at_call 24; refine (HWR.out w2 hb [] A0 n0 c0 l0 hl0 h0 H2.out (by simp) (HS0.out.below HB2.out)).mono ?_; rintro e w3 ⟨rfl, hh3, hg3⟩; have H3 := hd hh3; have HG3 := hd hg3; clear hh3 hg3))
    have HB3 : Hid (Below w.heap.size w w3) := hd (HB2.out.grown HG3.out HB2.out.size (fun k e => by cases e; exact hb2))
    go_upto_region 6 with (go_at_call 30; refine (copy_any w3 hb l0 H3.out).mono ?_; rintro e w4 ⟨g, rfl, hh4, hg4, hb4⟩; have H4 := hd hh4; have HB4 := hd hb4; clear hh4 hb4)
    have HB04 : Hid (Below w.heap.size w w4) := hd (HB3.out.trans (HB4.out.mono HB3.out.size))
    have H4h : Hid (HashAt w4 hb l0) := hd (H3.out.below HB4.out)
    have hbg : hb < g := Nat.lt_of_lt_of_le H3.out.lt hg4
    have HW5 := hd (HWR.out w4 hb l0 A1 n1 c1 l1 hl1 h1 H4h.out (by omega) (HS1.out.below HB04.out))
    go_upto_region 7 with (first
      | (go_at_call 24; have h5 := H5; clear h5; refine HW6.out.mono ?_; rintro e w6 ⟨rfl, hh6, hg6⟩; have H6 := hd hh6; have HG6 := hd hg6; clear hh6 hg6)
      | (go_at_call 24; refine HW5.out.mono ?_; rintro e w5 ⟨rfl, hh5, hg5⟩; have H5 := hd hh5; have HG5 := hd hg5; have HB05 := hd (HB04.out.grown hg5 HB04.out.size (fun k e => by cases e; exact hb2)); have H5c := hd (H4.out.far hg5 (by omega) H4h.out.nob); have HW6 := hd (HWR.out w5 g l0 A2 n2 c2 l2 hl2 h2 H5c.out (by omega) (HS2.out.below HB05.out)); clear hh5 hg5))
    have hgw : w.heap.size ≤ g := by omega
    have HB06 : Hid (Below w.heap.size w w6) := hd (HB05.out.grown HG6.out HB05.out.size (fun k e => by cases e; exact hgw))
    have H6h : Hid (HashAt w6 hb a1) := hd (by have h := H5.out.far HG6.out (by omega) H5c.out.nob; rwa [HA1.out] at h)
    have H6c : Hid (HashAt w6 g a2) := hd (by have h := H6.out; rwa [HA2.out] at h)
    clear H2 HB2 H3 HG3 HB3 H4 HB4 HB04 H4h HW5 H5 HG5 HB05 H5c HW6 H6 HG6
    go_wp2_with (first
      | (go_at_call 20; refine (num_any _ _).mono ?_; rintro e w' ⟨rfl, rfl⟩)
      | (go_at_call 27; have h5 := HB10; clear h5; refine (HH2.out _ _ (H6c.out.below HB10.out)).mono ?_; rintro e w11 ⟨rfl, hb11⟩; have HB11 := hd (HB10.out.trans (hb11.mono HB10.out.size)); have HB011 := hd (HB06.out.trans (HB11.out.mono HB06.out.size)); clear hb11)
      | (go_at_call 27; refine (HH1.out _ _ H6h.out).mono ?_; rintro e w7 ⟨rfl, hb7⟩; have HB7 := hd hb7; have HB07 := hd (HB06.out.trans (hb7.mono HB06.out.size)); clear hb7)
      | (at_builtin; refine wpList_appG rfl (.tmp 50) (.tmp 51) 33 rfl w7.heap.size 5 (.int .u8 0) 1 1 (by kernel_rfl) infoB rfl (by decide) _ 0 [] rfl (World.ownsRow_made w7 #[] 0 (Nat.le_refl _) (Nat.zero_le _) rfl) A0 n0 c0 (bcs l0) rfl HL0.out HN0.out ((HX0.out.below HB07.out).alloc _) (bcs_one l0) b0 (by omega) (Nat.le_of_lt (by simp)) ?_; intro v8 w8 ho hg _; have HO8 := hd ho; have HB8 := hd (((Below.refl _ w7).alloc (Nat.le_refl _) (.cells #[] 5)).grown hg (by simp) (fun g e => by cases e; exact Nat.le_refl _)); clear ho hg)
      | (at_builtin; refine wpList_appG rfl (.tmp 52) (.tmp 53) 33 rfl w7.heap.size 5 (.int .u8 0) 1 1 (by kernel_rfl) infoB rfl (by decide) _ (0 + n0) ([] ++ bcs l0) rfl HO8.out A1 n1 c1 (bcs l1) rfl HL1.out HN1.out (HX1.out.below (HB07.out.trans (HB8.out.mono HB07.out.size))) (bcs_one l1) b01 (by omega) HB8.out.size ?_; intro v9 w9 ho hg _; have HO9 := hd ho; have HB9 := hd (HB8.out.grown hg HB8.out.size (fun g e => (HO8.out.lt g e).1)); clear ho hg)
      | (at_builtin; refine wpList_appG rfl (.tmp 61) (.tmp 62) 33 rfl w11.heap.size 5 (.int .u8 0) 1 1 (by kernel_rfl) infoB rfl (by decide) _ 0 [] rfl (World.ownsRow_made w11 #[] 0 (Nat.le_refl _) (Nat.zero_le _) rfl) A0 n0 c0 (bcs l0) rfl HL0.out HN0.out ((HX0.out.below HB011.out).alloc _) (bcs_one l0) b0 (by omega) (Nat.le_of_lt (by simp)) ?_; intro v12 w12 ho hg _; have HO12 := hd ho; have HB12 := hd (((Below.refl _ w11).alloc (Nat.le_refl _) (.cells #[] 5)).grown hg (by simp) (fun g e => by cases e; exact Nat.le_refl _)); clear ho hg)
      | (at_builtin; refine wpList_appG rfl (.tmp 63) (.tmp 64) 33 rfl w11.heap.size 5 (.int .u8 0) 1 1 (by kernel_rfl) infoB rfl (by decide) _ (0 + n0) ([] ++ bcs l0) rfl HO12.out A2 n2 c2 (bcs l2) rfl HL2.out HN2.out (HX2.out.below (HB011.out.trans (HB12.out.mono HB011.out.size))) (bcs_one l2) b02 (by omega) HB12.out.size ?_; intro v13 w13 ho hg _; have HO13 := hd ho; have HB13 := hd (HB12.out.grown hg HB12.out.size (fun g e => (HO12.out.lt g e).1)); clear ho hg)
      | (go_at_call 29; have h5 := HO13; clear h5; refine (HR2.out _ _ (own_sl (by have h := HO13.out; rwa [E2.out, HM2.out] at h))).mono ?_; rintro e w14 ⟨rfl, hb14⟩; have HB14 := hd (HB13.out.trans (hb14.mono HB13.out.size)); clear hb14)
      | (go_at_call 29; refine (HR1.out _ _ (own_sl (by have h := HO9.out; rwa [E1.out, HM1.out] at h))).mono ?_; rintro e w10 ⟨rfl, hb10⟩; have HB10 := hd (HB7.out.trans ((HB9.out.trans (hb10.mono HB9.out.size)).mono HB7.out.size)); clear hb10)
      | (go_at_call 15; refine (works_any _).mono ?_; rintro e w15 ⟨rfl, hb15⟩; have HB15 := hd hb15; clear hb15))
    go_ret
    have k1 := HB011.out.trans (HB14.out.mono HB011.out.size)
    exact ⟨rfl, k1.trans (HB15.out.mono k1.size)⟩
  · exact copied_big w A0 n0 c0 A1 n1 c1 A2 n2 c2 hbig

end Go.Proofs.Ytolboolbapbniaa
