/- ShaSums: the digest of bytes: it returns true. -/
import Derived.Test.YtolboolbapbniaaRow
namespace Go.Proofs.Ytolboolbapbniaa
open Go.RowKit Sp

attribute [local go_sem ↓] ldSt stSt ldD stD
attribute [local go_sem] run_ldA run_stA arrSt arrD loadX_at loadY_some storeX_at storeY_true wcs_size ones_wcs St.list_length ucs_size ones_ucs dg_length sha_length

set_option maxHeartbeats 2000000 in
set_option maxRecDepth 100000 in
theorem sums_any (w : World) (A : Option Addr) (n c : Nat) (l : List UInt8) (hl : l.length = n) (hs : SlW w (.slice A n c) l n) :
    Calls Try.prog 7 #[.slice A n c] w fun e w' => e = .returned (.bool true) ∧ Below w.heap.size w w' := by
  by_cases h1 : n ≤ 1000
  · have h1I : (n : Int) ≤ 1000 := by omega
    have HS := hd hs
    have htext := fun W (hb : Below w.heap.size w W) => sl_text (hs.below hb) hl
    have hrs := fun W (hb : Below w.heap.size w W) => rsum_any W A n c l hl (hs.below hb) (by omega)
    obtain ⟨_, _, e0, hnc, hcm, hA0, hx⟩ := hs
    cases e0
    have HX : Hid (Cl (w.alloc (.cells #[] 5)) A (bcs l)) := hd (hx.alloc _)
    have HA0 := hd hA0
    have HL : Hid ((bcs l).length = n * 1) := hd (by rw [bcs_length, hl, Nat.mul_one])
    have b1 : 0 + n ≤ maxLen := by unfold maxLen; omega
    have b2 : 0 + n + 1 ≤ maxLen := by unfold maxLen; omega
    have hdl : (sha l).length = 32 := sha_length l
    have hss := fun W g cc (hb : SlW W (.slice (some ⟨g, 0, none⟩) n cc) l n) => shasum_any W (some ⟨g, 0, none⟩) n cc l hl hb (by omega)
    revert hdl hss hrs
    generalize sha l = dg0
    intro hrs hdl hss
    have q1 := eq_digIn dg0 hdl
    have HTEXT := hd htext
    have HRS := hd hrs
    have HSS := hd hss
    clear hx hA0 htext hrs hss
    go_enter Try.func7, Try.ntmps7
    go_upto_region 4 with (first
      | (at_builtin; refine wpList_app rfl (.tmp 8) (.tmp 9) 33 rfl w.heap.size 5 (.int .u8 0) 1 1 (by kernel_rfl) infoB rfl (by decide) _ 0 [] rfl (World.ownsRow_made w #[] 0 (Nat.le_refl _) (Nat.zero_le _) rfl) A n c (bcs l) rfl HL.out HA0.out HX.out (bcs_one l) b1 (by omega) (Nat.le_of_lt (by simp)) ?_; intro v1 w1 ho hg _; have HO1 := hd ho; have HB1 := hd (((Below.refl _ w).alloc (Nat.le_refl _) (.cells #[] 5)).grown hg (by simp) (fun g e => by cases e; exact Nat.le_refl _)); clear ho hg)
      | (at_builtin; refine wpList_app rfl (.tmp 10) (.tmp 11) 33 rfl w.heap.size 5 (.int .u8 0) 1 1 (by kernel_rfl) infoB rfl (by decide) _ (0 + n) ([] ++ bcs l) rfl (own_below HO1.out ((Below.refl _ _).alloc (Nat.le_refl _) _)) (some ⟨w1.heap.size, 0, none⟩) 1 1 [.int .u8 77] rfl rfl (fun e => nomatch e) (one_cl w1 77) (fun u hu => by rw [List.mem_singleton.1 hu]; rfl) b2 (by omega) (Nat.le_trans HB1.out.size (Nat.le_of_lt (by simp))) ?_; intro v2 w2 ho hg _; have HO2 := hd ho; have HB2 := hd ((HB1.out.alloc HB1.out.size _).grown hg (by simp; have := HB1.out.size; omega) (fun g e => (HO1.out.lt g e).1)); clear ho hg; obtain ⟨g, c2, e2⟩ := own_form HO2.out (by omega); subst e2; have hc2 : 0 + n + 1 ≤ c2 := (by obtain ⟨_, _, e, h, _⟩ := own_cl HO2.out; cases e; exact h)))
    have hM : SlW w2 (.slice (some ⟨g, 0, none⟩) n c2) l n := by
      have h := HO2.out
      have e : bcs (l ++ [77]) = [] ++ bcs l ++ [.int .u8 77] := by rw [bcs_append]; rfl
      rw [← e] at h
      have h2 := own_head h
      rwa [hl] at h2
    have hc77 : w2.cell? ⟨g, n, none⟩ = some (.int .u8 77) := by
      rw [HO2.out.cellAt n (by omega)]
      simp [bcs, hl]
    have hgl : g < w2.heap.size := (own_from2 HO2.out).2
    have HM := hd hM
    have HC := hd hc77
    have HSM := hd (HSS.out w2 g c2 hM)
    have hcI : (n : Int) + 1 ≤ (c2 : Int) := by omega
    clear hM hc77 HO2 HO1 HSS
    go_wp2_with (first
      | (go_at_call 25; refine HSM.out.mono ?_; rintro e w3 ⟨rfl, hb3⟩; have HB3 := hd hb3; clear hb3)
      | (go_at_call 29; refine (HRS.out _ (HB2.out.trans (HB3.out.mono HB2.out.size))).mono ?_; rintro e w4 ⟨rfl, hb4⟩; have HB24 := hd (HB3.out.trans (hb4.mono HB3.out.size)); have hb5 := HB2.out.trans (HB24.out.mono HB2.out.size); have HB5 := hd hb5; have t1 := HTEXT.out _ hb5; have t2 := sl_text (HM.out.below HB24.out) hl; have c77 := (HB24.out.cell (p := ⟨g, n, none⟩) hgl).trans HC.out; clear hb4 hb5)
      | (go_at_call 15; refine (works_any _).mono ?_; rintro e w9 ⟨rfl, hb9⟩; have HB9 := hd hb9; clear hb9))
    go_ret
    exact ⟨rfl, HB5.out.trans (HB9.out.mono HB5.out.size)⟩
  · have h1I : 1000 < (n : Int) := by omega
    clear h1 hs
    go_enter Try.func7, Try.ntmps7
    go_wp2_with (go_at_call 15; refine (works_any _).mono ?_; rintro e w9 ⟨rfl, hb9⟩; have HB9 := hd hb9; clear hb9)
    go_ret
    exact ⟨rfl, HB9.out⟩

end Go.Proofs.Ytolboolbapbniaa
