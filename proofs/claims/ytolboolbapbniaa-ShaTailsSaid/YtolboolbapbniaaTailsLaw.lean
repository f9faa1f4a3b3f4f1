/- ShaTails: the digest of bytes about a block's end: it returns true. -/
import Derived.Test.YtolboolbapbniaaRow
namespace Go.Proofs.Ytolboolbapbniaa
open Go.RowKit Sp

attribute [local go_sem ↓] ldSt stSt ldD stD
attribute [local go_sem] run_ldA run_stA arrSt arrD loadX_at loadY_some storeX_at storeY_true wcs_size ones_wcs St.list_length ucs_size ones_ucs dg_length sha_length

set_option maxHeartbeats 2000000 in
set_option maxRecDepth 100000 in
theorem tails_any (w : World) (z : Int) (A : Option Addr) (n c : Nat) (l : List UInt8) (hl : l.length = n) (hs : SlW w (.slice A n c) l n) :
    Calls Try.prog 10 #[.int .i64 z, .slice A n c] w fun e w' => e = .returned (.bool true) ∧ Below w.heap.size w w' := by
  rcases (show z < 0 ∨ (¬ z < 0 ∧ 130 < z) ∨ (¬ z < 0 ∧ ¬ 130 < z ∧ (70 : Int) < (n : Int)) ∨ (¬ z < 0 ∧ ¬ 130 < z ∧ ¬ (70 : Int) < (n : Int)) by omega) with h1 | ⟨h1, h2⟩ | ⟨h1, h2, h3⟩ | ⟨h1, h2, h3⟩
  · go_enter Try.func10, Try.ntmps10
    go_wp2_with (go_at_call 15; refine (works_any _).mono ?_; rintro e w9 ⟨rfl, hb9⟩; have HB9 := hd hb9; clear hb9)
    go_ret
    exact ⟨rfl, HB9.out⟩
  · go_enter Try.func10, Try.ntmps10
    go_wp2_with (go_at_call 15; refine (works_any _).mono ?_; rintro e w9 ⟨rfl, hb9⟩; have HB9 := hd hb9; clear hb9)
    go_ret
    exact ⟨rfl, HB9.out⟩
  · go_enter Try.func10, Try.ntmps10
    go_wp2_with (go_at_call 15; refine (works_any _).mono ?_; rintro e w9 ⟨rfl, hb9⟩; have HB9 := hd hb9; clear hb9)
    go_ret
    exact ⟨rfl, HB9.out⟩
  · obtain ⟨m, rfl⟩ : ∃ m : Nat, z = (m : Int) := ⟨z.toNat, by omega⟩
    have hm : m ≤ 130 := by omega
    have hn : n ≤ 70 := by omega
    have hmk := make_bytes m (by omega)
    obtain ⟨zs, hz⟩ : ∃ zs : List UInt8, List.replicate m 0 = zs := ⟨_, rfl⟩
    have hzl : zs.length = m := by rw [← hz]; simp
    rw [hz] at hmk
    obtain ⟨al, hal⟩ : ∃ al, zs ++ l = al := ⟨_, rfl⟩
    have hall : al.length = m + n := by rw [← hal, List.length_append, hzl, hl]
    have hdl : (sha al).length = 32 := sha_length al
    have hof := fun W g v (h0 : W.cell? ⟨g, 0, none⟩ = some v) (h1 : W.cell? ⟨g, 1, none⟩ = some (.slice A n c)) (hz : SlW W v zs m) (hb : SlW W (.slice A n c) l n) =>
      of_any W (some ⟨g, 0, none⟩) 2 2 [(v, zs), (.slice A n c, l)] rfl (fun j p hj => by
        have hj2 : j < 2 := by have := (List.getElem?_eq_some_iff.1 hj).1; simpa using this
        have : j = 0 ∨ j = 1 := by omega
        rcases this with rfl | rfl
        · cases hj; exact ⟨⟨_, rfl, by rw [add_lit]; exact h0⟩, by rw [hzl]; exact hz⟩
        · cases hj; exact ⟨⟨_, rfl, by rw [add_lit]; exact h1⟩, by rw [hl]; exact hb⟩) (by simp [flat]; omega) (by omega)
    have hfl : ∀ v, flat [((v : Value), zs), (.slice A n c, l)] = al := fun v => by rw [← hal]; simp [flat]
    simp only [hfl] at hof
    have hss := fun W B cc (hb : SlW W (.slice B (m + n) cc) al (m + n)) => shasum_any W B (m + n) cc al hall hb (by omega)
    have hrs := fun W B cc (hb : SlW W (.slice B (m + n) cc) al (m + n)) => rsum_any W B (m + n) cc al hall hb (by omega)
    revert hdl hof hss hrs
    generalize sha al = dg0
    intro hdl hof hss hrs
    have q1 := eq_digIn dg0 hdl
    have HRS := hd hrs
    have HSS := hd hss
    have HOF := hd hof
    have HS := hd hs
    obtain ⟨_, _, e0, hnc, hcm, hA0, hx⟩ := hs
    cases e0
    have HX : Hid (Cl (w.alloc (.cells (ucs zs) 5)) A (bcs l)) := hd (hx.alloc _)
    have HA0 := hd hA0
    have HL : Hid ((bcs l).length = n * 1) := hd (by rw [bcs_length, hl, Nat.mul_one])
    have HOW : Hid ((w.alloc (.cells (ucs zs) 5)).ownsRow w.heap.size 5 1 (.slice (some ⟨w.heap.size, 0, none⟩) m m) m (bcs zs)) := hd (by
      have h := own_made (w := w) zs (Nat.le_refl _) (by rw [hzl]; unfold maxLen; omega)
      rwa [hzl] at h)
    have b1 : m + n ≤ maxLen := by unfold maxLen; omega
    have b2 : (m + n) * 1 ≤ 140737488355328 := by omega
    have HALL := hd hal
    have HZ := hd hzl
    clear hof hss hrs hx hA0 hal hz hzl
    go_enter Try.func10, Try.ntmps10
    go_upto_region 4 with (at_builtin; refine wpList_app rfl (.tmp 19) (.tmp 20) 33 rfl w.heap.size 5 (.int .u8 0) 1 1 (by kernel_rfl) infoB rfl (by decide) _ m (bcs zs) rfl HOW.out A n c (bcs l) rfl HL.out HA0.out HX.out (bcs_one l) b1 b2 (Nat.le_of_lt (by simp)) ?_; intro v1 w1 ho hg _; have HO1 := hd ho; have HB1 := hd (((Below.refl _ w).alloc (Nat.le_refl _) (.cells (ucs zs) 5)).grown hg (by simp) (fun g e => by cases e; exact Nat.le_refl _)); clear ho hg)
    obtain ⟨B, cB, e1, _, _, _, _, _⟩ := own_cl HO1.out
    subst e1
    have HM : Hid (SlW w1 (.slice B (m + n) cB) al (m + n)) := hd (by
      have h := HO1.out
      rw [← bcs_append, HALL.out] at h
      exact own_sl h)
    obtain ⟨W2, hW2⟩ : ∃ W2, (w1.alloc (.cells (ucs zs) 5)).alloc (.cells #[.slice (some ⟨w1.heap.size, 0, none⟩) m m, .slice A n c] 33) = W2 := ⟨_, rfl⟩
    have HB2 : Hid (Below w1.heap.size w1 W2) := hd (by rw [← hW2]; exact ((Below.refl _ _).alloc (Nat.le_refl _) _).alloc (by simp) _)
    have HB12 : Hid (Below w.heap.size w W2) := hd (HB1.out.trans (HB2.out.mono HB1.out.size))
    have hrow : W2.heap[w1.heap.size + 1]? = some (.cells #[.slice (some ⟨w1.heap.size, 0, none⟩) m m, .slice A n c] 33 (0, 0)) := by rw [← hW2]; exact blk_new1 w1 _ _
    have hz1 : W2.heap[w1.heap.size]? = some (.cells (ucs zs) 5 (0, 0)) := by rw [← hW2]; exact blk_alloc (blk_new w1 _) _
    have hzs : SlW W2 (.slice (some ⟨w1.heap.size, 0, none⟩) m m) zs m := by
      have h := raw_sl hz1 (by rw [HZ.out]; unfold maxLen; omega)
      rwa [HZ.out] at h
    have HO2 := hd (HOF.out W2 (w1.heap.size + 1) _ ((blk_cell hrow 0).trans rfl) ((blk_cell hrow 1).trans rfl) hzs (HS.out.below HB12.out))
    clear hrow hz1 hzs HOF
    go_wp2_with (first
      | (go_at_call 26; refine HO2.out.mono ?_; rintro e w3 ⟨rfl, hb3⟩; have HB3 := hd (HB2.out.trans (hb3.mono HB2.out.size)); clear hb3)
      | (go_at_call 25; refine (HSS.out _ _ _ (HM.out.below HB4.out)).mono ?_; rintro e w5 ⟨rfl, hb5⟩; have HB5 := hd (HB4.out.trans (hb5.mono HB4.out.size)); clear hb5)
      | (go_at_call 29; have h5 := HB5; clear h5; refine (HRS.out _ _ _ (HM.out.below HB5.out)).mono ?_; rintro e w6 ⟨rfl, hb6⟩; have HB6 := hd (HB5.out.trans (hb6.mono HB5.out.size)); clear hb6)
      | (go_at_call 29; refine (HRS.out _ _ _ (HM.out.below HB3.out)).mono ?_; rintro e w4 ⟨rfl, hb4⟩; have HB4 := hd (HB3.out.trans (hb4.mono HB3.out.size)); clear hb4)
      | (go_at_call 15; refine (works_any _).mono ?_; rintro e w9 ⟨rfl, hb9⟩; have HB9 := hd hb9; clear hb9))
    go_ret
    have h1 := HB1.out.trans (HB6.out.mono HB1.out.size)
    exact ⟨rfl, h1.trans (HB9.out.mono h1.size)⟩

end Go.Proofs.Ytolboolbapbniaa
