/- The document's digest: its Sum. -/
import Derived.Test.YtolboolbapbniaaRblock
namespace Go.Proofs.Ytolboolbapbniaa
open Go.RowKit Sp

/-- How many noughts stand behind n bytes and the 128. -/
def zn (n : Nat) : Nat := (119 - n % 64) % 64
theorem zn_lt (n : Nat) : zn n < 64 := Nat.mod_lt _ (by omega)
def padTo (l : List UInt8) (z : Nat) : List UInt8 := l ++ 128 :: List.replicate z 0
theorem padTo_length (l : List UInt8) (z : Nat) : (padTo l z).length = l.length + 1 + z := by simp [padTo]; omega
theorem padTo_succ (l : List UInt8) (z : Nat) : padTo l (z + 1) = padTo l z ++ [0] := by simp [padTo, List.replicate_succ', List.append_assoc]
theorem padTo_tail (l : List UInt8) : padTo l (zn l.length) ++ len8 l.length = l ++ tail l.length := by simp [padTo, tail, zn]
theorem len8_length (n : Nat) : (len8 n).length = 8 := by simp [len8]
theorem len8_take (n k : Nat) (h : k < 8) : (len8 n).take (k + 1) = (len8 n).take k ++ [UInt8.ofNat (n * 8 / 2 ^ (56 - 8 * k))] := by
  rw [List.take_add_one, List.getElem?_eq_getElem (by rw [len8_length]; exact h)]
  simp [len8]
def sliceLen : Value → Nat
  | .slice _ n _ => n
  | _ => 0
/-- The row of one byte. -/
theorem one_cl (w : World) (b : Int) : Cl (w.alloc (.cells #[.int .u8 b] 5)) (some ⟨w.heap.size, 0, none⟩) [.int .u8 b] := Cl.mk fun j u hj => by
  cases j with
  | zero => cases hj; exact (Boxed.new _ _ _).cell
  | succ j => cases hj

theorem byte_raw (n q k : Nat) (h : q + 8 * k = 56) : (((n : Int) * 8 / (2 : Int) ^ min q 64).tmod 256 % 256) = ib (UInt8.ofNat (n * 8 / 2 ^ (56 - 8 * k))) := by
  rw [show min q 64 = 56 - 8 * k by omega, show (2 : Int) ^ (56 - 8 * k) = ((2 ^ (56 - 8 * k) : Nat) : Int) from (Int.natCast_pow 2 _).symm, show (n : Int) * 8 = ((n * 8 : Nat) : Int) by omega, ← Int.natCast_ediv]
  generalize n * 8 / 2 ^ (56 - 8 * k) = x
  rw [Int.tmod_eq_emod_of_nonneg (by omega)]
  unfold ib
  rw [UInt8.toNat_ofNat']
  omega

theorem out_raw (s : St) (j a b sh : Nat) (h1 : j = 4 * a + b) (ha : a < 8) (hb : sh + 8 * b = 24) : ((iw (wg s.list a) / (2 : Int) ^ min sh 32).tmod 256 % 256) = ib (bg (out s) j) := by
  have h2 := out_byte s a b ha (by omega)
  rw [show (24 - 8 * b : Nat) = sh by omega] at h2
  rw [h1, h2, show min sh 32 = sh by omega, show (2 : Int) ^ sh = ((2 ^ sh : Nat) : Int) from (Int.natCast_pow 2 _).symm]
  have h3 : 0 ≤ iw (wg s.list a) / ((2 ^ sh : Nat) : Int) := Int.ediv_nonneg (iw_lo _) (Int.natCast_nonneg _)
  rw [Int.tmod_eq_emod_of_nonneg h3]
  omega

attribute [local go_sem ↓] ldSt stSt ldD stD
attribute [local go_sem] run_ldA run_stA arrSt arrD loadX_at loadY_some storeX_at storeY_true wcs_size ones_wcs St.list_length ucs_size ones_ucs dg_length

set_option maxHeartbeats 2000000 in
set_option maxRecDepth 100000 in
theorem rsum_any (w : World) (A : Option Addr) (n c : Nat) (l : List UInt8) (hl : l.length = n) (hs : SlW w (.slice A n c) l n) (ht : n ≤ 549755813888) :
    Calls Try.prog 29 #[.slice A n c] w fun e w' => e = .returned (.agg (ucs (sha l))) ∧ Below w.heap.size w w' := by
  have HS := hd hs
  clear hs
  go_enter Try.func29, Try.ntmps29
  go_upto_region 0 with (fail)
  go_cut [2] (fun d wx => d = .pointer (some ⟨w.heap.size, 0, none⟩) ∧ wx.heap[w.heap.size]? = some (.cells (ucs (List.replicate 32 0)) 23 (0, 0)) ∧ wx.heap.size = w.heap.size + 1 ∧ Below w.heap.size w wx)
  case first =>
    go_wp2_with fail
    go_meet
    exact ⟨rfl, heap_alloc_new w _, by simp, (Below.refl _ _).alloc (Nat.le_refl _) _⟩
  case rest =>
    obtain ⟨rfl, hD, hz, hB⟩ := hcut
    obtain ⟨w0, rfl⟩ : ∃ w0, w0 = wc := ⟨_, rfl⟩
    have HD := hd hD
    have HB := hd hB
    have HZ := hd hz
    clear hD hB hz
    obtain ⟨_, _, e0, hnc, hcm, hA0, hx⟩ := HS.out
    cases e0
    have HX : Hid (Cl (w0.alloc (.cells #[] 5)) A (bcs l)) := hd (hx.below (HB.out.alloc HB.out.size _))
    have HA0 := hd hA0
    have HL : Hid ((bcs l).length = n * 1) := hd (by rw [bcs_length, hl, Nat.mul_one])
    have b1 : 0 + n ≤ maxLen := by unfold maxLen; omega
    have b2 : 0 + n + 1 ≤ maxLen := by unfold maxLen; omega
    clear hx hA0
    go_upto_block 0 with (first
      | (at_builtin; refine wpList_app rfl (.tmp 11) (.tmp 12) 33 rfl w0.heap.size 5 (.int .u8 0) 1 1 (by kernel_rfl) infoB rfl (by decide) _ 0 [] rfl (World.ownsRow_made w0 #[] 0 (Nat.le_refl _) (Nat.zero_le _) rfl) A n c (bcs l) rfl HL.out HA0.out HX.out (bcs_one l) b1 (by omega) (Nat.le_of_lt (by simp)) ?_; intro v1 w1 ho hg _; have HO1 := hd ho; have HB1 := hd (((Below.refl _ w0).alloc (Nat.le_refl _) (.cells #[] 5)).grown hg (by simp) (fun g e => by cases e; exact Nat.le_refl _)); clear ho hg)
      | (at_builtin; refine wpList_app rfl (.tmp 13) (.tmp 14) 33 rfl w0.heap.size 5 (.int .u8 0) 1 1 (by kernel_rfl) infoB rfl (by decide) _ (0 + n) ([] ++ bcs l) rfl (own_below HO1.out ((Below.refl _ _).alloc (Nat.le_refl _) _)) (some ⟨w1.heap.size, 0, none⟩) 1 1 [.int .u8 128] rfl rfl (fun e => nomatch e) (one_cl w1 128) (fun u hu => by rw [List.mem_singleton.1 hu]; rfl) b2 (by omega) (Nat.le_trans HB1.out.size (Nat.le_of_lt (by simp))) ?_; intro v2 w2 ho hg _; have HO2 := hd ho; have HB2 := hd ((HB1.out.alloc HB1.out.size _).grown hg (by simp; have := HB1.out.size; omega) (fun g e => (HO1.out.lt g e).1)); clear ho hg))
    go_cut [3] (fun v wx => wx.ownsRow w0.heap.size 5 1 v (n + 1 + zn n) (bcs (padTo l (zn n))) ∧ Below w0.heap.size w0 wx)
    case first =>
      --[a
      go_wp2_with fail
      go_loopw [3] (fun v wr => ∃ z : Nat, z ≤ zn n ∧ wr.ownsRow w0.heap.size 5 1 v (n + 1 + z) (bcs (padTo l z)) ∧ Below w0.heap.size w0 wr) (fun v _ => n + 1 + zn n - (sliceLen v))
      case atStart =>
        refine ⟨0, Nat.zero_le _, ?_, HB2.out⟩
        have h := HO2.out
        rw [Nat.zero_add, List.nil_append] at h
        have e : bcs (padTo l 0) = bcs l ++ [.int .u8 128] := by simp [padTo, bcs]; rfl
        rw [Nat.add_zero, e]
        exact h
      case round =>
        obtain ⟨z, hzz, hv, hbr⟩ := hrel
        obtain ⟨g, cap, e3⟩ := own_form hv (by omega)
        subst e3
        have hpz := zn_lt n
        obtain ⟨m, hm⟩ : ∃ m, n + 1 + z = m := ⟨_, rfl⟩
        have HM := hd hm
        rw [hm] at hv ⊢
        by_cases h56 : m % 64 = 56
        · have hzn : z = zn n := by unfold zn at hzz ⊢; omega
          have em : (m : Int).tmod 64 = 56 := by rw [Int.tmod_eq_emod_of_nonneg (by omega)]; omega
          subst hzn
          go_wp2_with fail
          go_meet
          rw [HM.out]
          exact ⟨hv, hbr⟩
        · have hzn : z < zn n := by
            rcases Nat.lt_or_ge z (zn n) with h | h
            · exact h
            · have : z = zn n := by omega
              exfalso
              subst this
              apply h56
              rw [← hm]
              unfold zn
              omega
          have em : ¬ ((m : Int).tmod 64 = 56) := by rw [Int.tmod_eq_emod_of_nonneg (by omega)]; omega
          have b4 : m + 1 ≤ maxLen := by unfold maxLen; omega
          have b5 : (m + 1) * 1 ≤ 140737488355328 := by omega
          have HV := hd hv
          have HBr := hd hbr
          clear hv hbr hm
          go_wp2_with (at_builtin; refine wpList_app rfl (.tmp 20) (.tmp 21) 33 rfl w0.heap.size 5 (.int .u8 0) 1 1 (by kernel_rfl) infoB rfl (by decide) _ m (bcs (padTo l z)) rfl (own_below HV.out ((Below.refl _ _).alloc (Nat.le_refl _) _)) (some ⟨wr.heap.size, 0, none⟩) 1 1 [.int .u8 0] rfl rfl (fun e => nomatch e) (one_cl wr 0) (fun u hu => by rw [List.mem_singleton.1 hu]; rfl) b4 b5 (Nat.le_trans HBr.out.size (Nat.le_of_lt (by simp))) ?_; intro v2 w2 ho hg _; have HO3 := hd ho; have HB3 := hd ((HBr.out.alloc HBr.out.size _).grown hg (by simp; have := HBr.out.size; omega) (fun g e => (HV.out.lt g e).1)); clear ho hg)
          go_roundw
          case rel =>
            have e : bcs (padTo l (z + 1)) = bcs (padTo l z) ++ [.int .u8 0] := by rw [padTo_succ, bcs_append]; rfl
            have h := HO3.out
            rw [← e, ← HM.out] at h
            exact ⟨z + 1, hzn, h, HB3.out⟩
          case measure =>
            obtain ⟨_, _, e2⟩ := own_form HO3.out (by omega)
            rw [e2]
            simp [sliceLen]
            have := HM.out
            omega
      --]a
    case rest =>
      obtain ⟨ho, hb⟩ := hcut
      have HV1 := hd ho
      have HBB1 := hd hb
      clear ho hb HO2 HB2 HO1 HB1 HX
      have en : IntKind.u64.wrap (n : Int) = (n : Int) := by rw [IntKind.wrap_u64]; omega
      have en8 : IntKind.u64.wrap ((n : Int) * 8) = (n : Int) * 8 := by rw [IntKind.wrap_u64]; omega
      go_upto_block 2 with (fail)
      go_cut [3] (fun v wx => wx.ownsRow w0.heap.size 5 1 v (n + 1 + zn n + 8) (bcs (l ++ tail n)) ∧ Below w0.heap.size w0 wx)
      case first =>
        --[b
        go_wp2_with fail
        go_loopw [3, 5] (fun v i wr => ∃ j : Nat, j ≤ 8 ∧ i = .int .i64 ((j : Int) - 1) ∧ wr.ownsRow w0.heap.size 5 1 v (n + 1 + zn n + (8 - j)) (bcs (padTo l (zn n) ++ (len8 n).take (8 - j))) ∧ Below w0.heap.size w0 wr) (fun _ i _ => (intOf i + 1).toNat)
        case atStart =>
          refine ⟨8, Nat.le_refl _, rfl, ?_, HBB1.out⟩
          have h := HV1.out
          rw [show (8 - 8 : Nat) = 0 from rfl, List.take_zero, List.append_nil]
          exact h
        case round =>
          obtain ⟨j, hj, rfl, hv, hbr⟩ := hrel
          cases j with
          | zero =>
            go_wp2_with fail
            go_meet
            have e : padTo l (zn n) ++ (len8 n).take (8 - 0) = l ++ tail n := by rw [List.take_of_length_le (by rw [len8_length]; omega), ← hl]; exact padTo_tail l
            rw [e] at hv
            exact ⟨hv, hbr⟩
          | succ j =>
            obtain ⟨k, hk⟩ : ∃ k, k + (j + 1) = 8 := ⟨8 - (j + 1), by omega⟩
            have e1 : (((j + 1 : Nat) : Int) - 1) = (j : Int) := by omega
            have e8 : 8 - (j + 1) = k := by omega
            rw [e1]
            rw [e8] at hv
            have hpz := zn_lt n
            have ew : IntKind.i64.wrap (8 * (j : Int)) = ((8 * j : Nat) : Int) := by rw [IntWalk.i64_in _ (by omega)]; omega
            obtain ⟨q, hq⟩ : ∃ q, 8 * j = q := ⟨_, rfl⟩
            rw [hq] at ew
            have ew2 : IntKind.u64.wrap (q : Int) = (q : Int) := by rw [IntKind.wrap_u64]; omega
            obtain ⟨m, hm⟩ : ∃ m, n + 1 + zn n + k = m := ⟨_, rfl⟩
            rw [hm] at hv
            have HV := hd hv
            have HBr := hd hbr
            have b4 : m + 1 ≤ maxLen := by unfold maxLen; omega
            have b5 : (m + 1) * 1 ≤ 140737488355328 := by omega
            have HM := hd hm
            have HK := hd hk
            have HQ := hd hq
            clear hv hbr hm e1 hk hq e8
            have HBY := hd (byte_raw n q k (by have := HQ.out; have := HK.out; omega))
            have HNX := hd (len8_take n k (by have := HK.out; omega))
            revert HBY HNX
            generalize UInt8.ofNat (n * 8 / 2 ^ (56 - 8 * k)) = y
            intro HBY HNX
            go_wp2_with (at_builtin; rw [HBY.out]; refine wpList_app rfl (.tmp 31) (.tmp 39) 33 rfl w0.heap.size 5 (.int .u8 0) 1 1 (by kernel_rfl) infoB rfl (by decide) _ m (bcs (padTo l (zn n) ++ (len8 n).take k)) rfl (own_below HV.out ((Below.refl _ _).alloc (Nat.le_refl _) _)) (some ⟨wr.heap.size, 0, none⟩) 1 1 [.int .u8 (ib y)] rfl rfl (fun e => nomatch e) (one_cl wr (ib y)) (fun u hu => by rw [List.mem_singleton.1 hu]; rfl) b4 b5 (Nat.le_trans HBr.out.size (Nat.le_of_lt (by simp))) ?_; intro v2 w2 ho hg _; have HO3 := hd ho; have HB3 := hd ((HBr.out.alloc HBr.out.size _).grown hg (by simp; have := HBr.out.size; omega) (fun g e => (HV.out.lt g e).1)); clear ho hg)
            go_roundw
            case rel =>
              have e : bcs (padTo l (zn n) ++ (len8 n).take (k + 1)) = bcs (padTo l (zn n) ++ (len8 n).take k) ++ [.int .u8 (ib y)] := by rw [HNX.out, ← List.append_assoc, bcs_append (padTo l (zn n) ++ (len8 n).take k)]; rfl
              have h := HO3.out
              rw [← e, ← HM.out] at h
              have e9 : 8 - j = k + 1 := by have := HK.out; omega
              refine ⟨j, by omega, by go_num, ?_, HB3.out⟩
              rw [e9]
              exact h
            case measure => simp [intOf]
        --]b
      case rest =>
        obtain ⟨ho, hb⟩ := hcut
        have HV2 := hd ho
        have HBB2 := hd hb
        clear ho hb HV1 HBB1
        go_upto_block 4 with (first
          | (go_at_call 41; have h6 := HV6; clear h6; refine (words_any _ true).mono ?_; rintro e w4 ⟨v7, rfl, ho, hb⟩; have HV7 := hd ho; have HB7 := hd hb; clear ho hb)
          | (go_at_call 41; refine (words_any _ false).mono ?_; rintro e w3 ⟨v6, rfl, ho, hb⟩; have HV6 := hd ho; have HB6 := hd hb; clear ho hb))
        obtain ⟨al, hal⟩ : ∃ al, l ++ tail n = al := ⟨_, rfl⟩
        obtain ⟨M, hM⟩ : ∃ M, n + 1 + zn n + 8 = M := ⟨_, rfl⟩
        obtain ⟨q, hq⟩ : ∃ q, M = 64 * q := ⟨M / 64, by rw [← hM]; unfold zn; omega⟩
        have hal2 : al.length = M := by rw [← hal, ← hM, List.length_append, hl, tail]; simp [zn, len8_length]; omega
        have HSH : Hid (sha l = out (blks init al q)) := hd (by unfold sha; rw [hl, hal, hal2, hq]; congr 2; omega)
        have hv2 := HV2.out
        rw [hal, hM] at hv2
        have hpz := zn_lt n
        have hM40 : M ≤ 1099511627776 := by omega
        have h6 : w3.ownsRow wc.heap.size 64 1 v6 8 (wcs init.list).toList := HV6.out
        have h7 : w4.ownsRow w3.heap.size 64 1 v7 64 (wcs kl).toList := by have h := HV7.out; simpa using h
        obtain ⟨ga, ca, e3⟩ := own_form hv2 (by omega)
        subst e3
        obtain ⟨g6, c6, rfl⟩ := own_form h6 (by omega)
        obtain ⟨g7, c7, rfl⟩ := own_form h7 (by omega)
        have hga := own_from2 hv2
        have hg6 := own_from2 h6
        have hg7 := own_from2 h7
        have hBc4 : Below wc.heap.size wc w4 := HB6.out.trans (HB7.out.mono HB6.out.size)
        have HB4 := hd (HBB2.out.trans (hBc4.mono HBB2.out.size))
        have HAL : Hid (∀ i, i < M → w4.cell? ⟨ga, i, none⟩ = some (.int .u8 (ib (bg al i)))) := hd (fun i hi => by
          refine (hBc4.cell (p := ⟨ga, i, none⟩) hga.2).trans ?_
          rw [hv2.cellAt i (by omega), bcs_get al i (by omega)])
        have HK7 : Hid (∀ i, i < 64 → w4.cell? ⟨g7, i, none⟩ = some (.int .u32 (iw (wg kl i)))) := hd (fun i hi => by
          rw [h7.cellAt i (by omega), Array.getElem?_toList, wcs_get _ _ (by rw [kl_length]; exact hi)])
        have HS6 : Hid (∀ i, i < 8 → w4.cell? ⟨g6, i, none⟩ = some (.int .u32 (iw (wg init.list i)))) := hd (fun i hi => by
          refine (HB7.out.cell (p := ⟨g6, i, none⟩) hg6.2).trans ?_
          rw [h6.cellAt i (by omega), Array.getElem?_toList, wcs_get _ _ (by rw [St.list_length]; exact hi)])
        have HS60 : Hid (∀ i, i < 8 → w4.cell? ⟨g6, i, none⟩ = some (.int .u32 (iw (wg (blks init al 0).list i)))) := hd (by rw [show blks init al 0 = init from rfl]; exact HS6.out)
        clear HS6
        have hca : M ≤ ca := by obtain ⟨_, _, e, h, _⟩ := own_cl hv2; cases e; exact h
        have hga4 : ga < w4.heap.size := Nat.lt_of_lt_of_le hga.2 hBc4.size
        clear hv2 h6 h7 HV6 HV7 HV2 HB6 HB7 HBB2 hBc4
        revert HSH HAL
        have HQ := hd hq
        have HAQ := hd hal2
        clear hal2 hq
        intro HSH HAL
        go_cut [6] (fun v wx => ∃ gs cs, v = .slice (some ⟨gs, 0, none⟩) 8 cs ∧ (∀ i, i < 8 → wx.cell? ⟨gs, i, none⟩ = some (.int .u32 (iw (wg (blks init al q).list i)))) ∧ Below w0.heap.size w0 wx)
        case first =>
          --[c
          clear hM hal
          go_wp2_with fail
          go_loopw [6, 8] (fun v i wr => ∃ p k : Nat, p = 64 * k ∧ k ≤ q ∧ i = .int .i64 (p : Int) ∧ (∃ gs cs, v = .slice (some ⟨gs, 0, none⟩) 8 cs ∧ (∀ i, i < 8 → wr.cell? ⟨gs, i, none⟩ = some (.int .u32 (iw (wg (blks init al k).list i))))) ∧ Below w4.heap.size w4 wr) (fun _ i _ => M - (intOf i).toNat)
          case atStart => exact ⟨0, 0, rfl, Nat.zero_le _, rfl, ⟨g6, c6, rfl, HS60.out⟩, Below.refl _ _⟩
          case round =>
            obtain ⟨p, k, hpk, hk, rfl, ⟨gs, cs, e6, hsc⟩, hbr⟩ := hrel
            subst e6
            have HSC := hd hsc
            have HBr := hd hbr
            have HPK := hd hpk
            have hq := HQ.out
            clear hsc
            by_cases hlt : k < q
            · have hpM : (p : Int) < (M : Int) := by omega
              have hp64 : (p : Int) + 64 ≤ (ca : Int) := by omega
              have hcp : ¬ ca = p := by omega
              have hg7r : g7 < w4.heap.size := hg7.2
              have HBK := hd (rblock_any wr gs cs g7 c7 ga p (ca - p) (blks init al k) ((al.drop p).take 64) HSC.out (fun i hi => (hbr.cell (p := ⟨g7, i, none⟩) hg7r).trans (HK7.out i hi)) (fun i hi => by
                refine (hbr.cell (p := ⟨ga, p + i, none⟩) hga4).trans ?_
                rw [HAL.out (p + i) (by omega)]
                congr 3
                simp [bg, List.getElem?_drop, hi]))
              have hpk1 : p + 64 = 64 * (k + 1) := by omega
              have HPK1 := hd hpk1
              have hpM2 := hd (show p < M by omega)
              clear hbr hpk hq hpk1
              go_wp2_with (go_at_call 42; refine HBK.out.mono ?_; rintro e w5 ⟨v5, rfl, ho, hb⟩; have HO5 := hd ho; have HB5 := hd hb; clear ho hb)
              go_roundw
              case rel =>
                obtain ⟨g5, c5, e5⟩ := own_form HO5.out (by omega)
                subst e5
                refine ⟨p + 64, k + 1, HPK1.out, hlt, by go_num, ⟨g5, c5, rfl, fun i hi => ?_⟩, HBr.out.trans (HB5.out.mono HBr.out.size)⟩
                rw [HO5.out.cellAt i (by omega), Array.getElem?_toList, wcs_get _ _ (by rw [St.list_length]; exact hi), blks_succ, HPK.out]
              case measure => simp [intOf]; have := hpM2.out; omega
            · obtain rfl : k = q := by omega
              have hpM : ¬ (p : Int) < (M : Int) := by omega
              clear hpk hq
              go_wp2_with fail
              go_meet
              exact ⟨gs, cs, rfl, HSC.out, HB4.out.trans (HBr.out.mono HB4.out.size)⟩
          --]c
        case rest =>
          obtain ⟨gs, cs, e6, hsc, hb⟩ := hcut
          subst e6
          obtain ⟨w5, rfl⟩ : ∃ w5, w5 = wc := ⟨_, rfl⟩
          obtain ⟨s, hs⟩ : ∃ s, blks init al q = s := ⟨_, rfl⟩
          rw [hs] at hsc HSH
          have HSC := hd hsc
          have HB5 := hd hb
          have hgs : gs < w5.heap.size := World.block_lt_of_cell? w5 _ (hsc 0 (by omega))
          clear hsc hb hs HS60 HK7 HAL HB4
          go_upto_block 6 with (fail)
          go_wp2_with fail
          go_loopw [10] (fun i wr => ∃ j : Nat, j ≤ 32 ∧ i = .int .i64 (j : Int) ∧ wr.heap[w5.heap.size]? = some (.cells (ucs (dg s j)) 23 (0, 0)) ∧ Below w5.heap.size w5 wr) (fun i _ => 32 - (intOf i).toNat)
          case atStart => exact ⟨0, by omega, rfl, heap_alloc_new w5 _, (Below.refl _ _).alloc (Nat.le_refl _) _⟩
          case round =>
            obtain ⟨j, hj, rfl, hh, hbr⟩ := hrel
            have HH := hd hh
            have HBr := hd hbr
            by_cases hlt : j < 32
            · obtain ⟨a, ha⟩ : ∃ a, j / 4 = a := ⟨_, rfl⟩
              obtain ⟨b, hb⟩ : ∃ b, j % 4 = b := ⟨_, rfl⟩
              have hjab : j = 4 * a + b := by omega
              have ha8 : (a : Int) < 8 := by omega
              have hj32 : (j : Int) < 32 := by omega
              have eq4 : (j : Int).tdiv 4 = (a : Int) := by rw [Int.tdiv_eq_ediv_of_nonneg (by omega)]; omega
              have em4 : (j : Int).tmod 4 = (b : Int) := by rw [Int.tmod_eq_emod_of_nonneg (by omega)]; omega
              obtain ⟨sh, hsh⟩ : ∃ sh, sh + 8 * b = 24 := ⟨24 - 8 * b, by omega⟩
              have e8b : 8 * (b : Int) = 24 - (sh : Int) := by omega
              have cst : wr.cell? ⟨gs, a, none⟩ = some (.int .u32 (iw (wg s.list a))) := (hbr.cell (p := ⟨gs, a, none⟩) hgs).trans (HSC.out a (by omega))
              have hcell := (blk_cell hh j).trans (ucs_get _ _ (by rw [dg_length]; omega))
              have hf := blk_frozen hh j
              have ewa : IntKind.i64.wrap (a : Int) = (a : Int) := IntWalk.i64_in _ (by omega)
              have HJ := hd hjab
              have HSHI := hd hsh
              have ew8 : IntKind.i64.wrap (8 * (b : Int)) = 24 - (sh : Int) := by rw [e8b]; exact IntWalk.i64_in _ (by omega)
              have ewsh : IntKind.i64.wrap (24 - (24 - (sh : Int))) = (sh : Int) := by rw [show 24 - (24 - (sh : Int)) = (sh : Int) by omega]; exact IntWalk.i64_in _ (by omega)
              have ewu : IntKind.u64.wrap (sh : Int) = (sh : Int) := by rw [IntKind.wrap_u64]; omega
              clear hh hbr ha hb hjab hsh e8b
              go_wp2_with fail
              rw [out_raw s j a b sh HJ.out (by omega) HSHI.out]
              go_roundw
              case rel =>
                have hset := blk_set HH.out j (.int .u8 (ib (bg (out s) j)))
                rw [ucs_set, dg_set s j hlt] at hset
                exact ⟨j + 1, by omega, by go_num, hset, HBr.out.setCell (Nat.le_refl _) _⟩
              case measure => simp [intOf]; omega
            · obtain rfl : j = 32 := by omega
              have hsub := sub_row (n := 32) HH.out (by rw [ucs_size, dg_length])
              have hd0 := (HBr.out.block w.heap.size (by have := HB5.out.size; have := HZ.out; omega)).trans ((HB5.out.block w.heap.size (by have := HZ.out; omega)).trans HD.out)
              have hcan := can_row (o := 0) (n := 32) hd0 (by simp [ucs_size])
              have HD0 := hd hd0
              clear hd0
              go_wp2_with fail
              have hrow := putSub_row (c := ucs (dg s 32)) HD0.out (by simp [ucs_size, dg_length])
              refine bodyPost_ret (ret_row rfl (n := 32) (by kernel_rfl) _ _ w.heap.size 0 (ucs (dg s 32)) rfl (sub_row hrow (by rw [ucs_size, dg_length]))) rfl ⟨by rw [HSH.out, dg_end], Below.putSub (HB.out.trans ((HB5.out.mono (by have := HZ.out; omega)).trans (HBr.out.mono (by have := HZ.out; have := HB5.out.size; omega)))) (Nat.le_refl _)⟩

end Go.Proofs.Ytolboolbapbniaa
