/- ShaKnown: digests that all know: it returns true. -/
import Derived.Test.YtolboolbapbniaaRow
import Derived.Test.YtolboolbapbniaaOrders
namespace Go.Proofs.Ytolboolbapbniaa
open Go.RowKit Sp

theorem wpList_builtG {P : Program} {Q : Exit → Act → World → Prop} {ops : Array Oper} {rest : List Oper} {o : Oper} {a : Act} {w : World} (hg : Region.wanted o (yielded ops a.tmps) = true) (t : TypeId) (parts : Array (Nat × Operand)) (ho : o.op = .build t parts)
    (cells : Array Value) (hf : P.built t (parts.map fun (i, x) => (i, a.eval x)).toList = some cells) (h : wpList P ops Q rest (a.put o.dst (.agg cells)) w) : wpList P ops Q (o :: rest) a w :=
  BigFrame.wpList_want hg fun _ hK => oper_built t parts ho cells hf (hK _ _ h)

theorem e3b : (hexT (sha [])).take 16 = [101, 51, 98, 48, 99, 52, 52, 50, 57, 56, 102, 99, 49, 99, 49, 52] := by decide +kernel
theorem f20 : (hexT (sha [97, 98, 99])).drop 56 = [102, 50, 48, 48, 49, 53, 97, 100] := by decide +kernel
theorem cmp0 : Lib.compareBytes (List.replicate 32 0) (sha []) = -1 := by decide +kernel

attribute [local go_sem ↓] ldSt stSt ldD stD
attribute [local go_sem] run_ldA run_stA arrSt arrD loadX_at loadY_some storeX_at storeY_true wcs_size ones_wcs St.list_length ucs_size ones_ucs dg_length sha_length

set_option maxHeartbeats 4000000 in
set_option maxRecDepth 100000 in
theorem known_gen (w : World) (d0 d1 : List UInt8) (h0 : sha [] = d0) (h1 : sha [97, 98, 99] = d1) (hl0 : d0.length = 32) (hl1 : d1.length = 32)
    (ht0 : (hexT d0).take 16 = [101, 51, 98, 48, 99, 52, 52, 50, 57, 56, 102, 99, 49, 99, 49, 52]) (ht1 : (hexT d1).drop 56 = [102, 50, 48, 48, 49, 53, 97, 100]) (hc : Lib.compareBytes (List.replicate 32 0) d0 = -1) :
    Calls Try.prog 12 #[] w fun e w' => e = .returned (.bool true) ∧ Below w.heap.size w w' := by
  have hnil : ∀ W : World, SlW W (.slice none 0 0) [] 0 := fun W => ⟨none, 0, rfl, Nat.le_refl _, Nat.zero_le _, fun _ => ⟨rfl, rfl⟩, Cl.nil _ _⟩
  have hs0 := fun W => ssum_v (hnil W) rfl (by omega)
  have hr0 := fun W => rsum_v (hnil W) rfl (by omega)
  have hh0 := fun W g (h : HashAt W g []) => sum_any W g [] h (by simp)
  have hs1 := fun W v (h : SlW W v [97, 98, 99] 3) => ssum_v h rfl (by omega)
  rw [h0] at hs0 hr0 hh0
  rw [h1] at hs1
  have htx0 := fun W => text_any W d0 hl0
  have htx1 := fun W => text_any W d1 hl1
  have hcp := fun W => compare_any W (List.replicate 32 0) d0 (by simp) hl0
  rw [hc] at hcp
  have htl0 : (hexT d0).length = 64 := by rw [hexT_length, hl0]
  have htl1 : (hexT d1).length = 64 := by rw [hexT_length, hl1]
  have hx0 : ∀ W, (Instr.slice 9 (.string ⟨(hexT d0).toArray⟩) none (some (.int .i64 16)) none).run Try.prog W = .ok (.string ⟨#[101, 51, 98, 48, 99, 52, 52, 50, 57, 56, 102, 99, 49, 99, 49, 52]⟩) W := fun W => by
    have h9 := run_slice_string_h (P := Try.prog) W 9 ⟨(hexT d0).toArray⟩ (by kernel_rfl) .i64 16 (by omega) (by simp [ByteArray.size, htl0])
    rw [h9]
    congr 2
    apply ByteArray.ext
    rw [show (#[101, 51, 98, 48, 99, 52, 52, 50, 57, 56, 102, 99, 49, 99, 49, 52] : Array UInt8) = ((hexT d0).take 16).toArray by rw [ht0]]
    simp
  have hx1 : ∀ W, (Instr.slice 9 (.string ⟨(hexT d1).toArray⟩) (some (.int .i64 56)) none none).run Try.prog W = .ok (.string ⟨#[102, 50, 48, 48, 49, 53, 97, 100]⟩) W := fun W => by
    have h9 := run_slice_string_l (P := Try.prog) W 9 ⟨(hexT d1).toArray⟩ (by kernel_rfl) .i64 56 (by omega) (by simp [ByteArray.size, htl1])
    rw [h9]
    congr 2
    apply ByteArray.ext
    rw [show (#[102, 50, 48, 48, 49, 53, 97, 100] : Array UInt8) = ((hexT d1).drop 56).toArray by rw [ht1]]
    simp [ByteArray.size, htl1]
    rw [List.take_of_length_le (by rw [List.length_drop]; omega)]
  unfold str at htx0 htx1
  clear ht0 ht1 hc h0 h1
  revert htx0 htx1 htl0 htl1 hx0 hx1
  generalize hexT d0 = t0
  generalize hexT d1 = t1
  intro htx0 htx1 htl0 htl1 hx0 hx1
  have hz0 : (⟨t0.toArray⟩ : ByteArray).size = 64 := by simp [ByteArray.size, htl0]
  have hz1 : (⟨t1.toArray⟩ : ByteArray).size = 64 := by simp [ByteArray.size, htl1]
  have q0 := eq_digIn d0 hl0
  have HS0 := hd hs0
  have HR0 := hd hr0
  have HH0 := hd hh0
  have HS1 := hd hs1
  have HT0 := hd htx0
  have HT1 := hd htx1
  have HCP := hd hcp
  have HB := hd (Below.refl w.heap.size w)
  clear hs0 hr0 hh0 hs1 htx0 htx1 hcp hnil htl0 htl1
  go_enter Try.func12, Try.ntmps12
  go_upto_region 2 with (first
    | (go_at_call 25; have h5 := HSL; clear h5; refine (HS1.out _ _ HSL.out).mono ?_; rintro e w' ⟨rfl, hb⟩; have HB := hd (HB2.out.trans (hb.mono HB2.out.size)); clear hb)
    | (go_at_call 25; refine (HS0.out _).mono ?_; rintro e w' ⟨rfl, hb⟩; have HB := hd (HB.out.trans (hb.mono HB.out.size)); clear hb)
    | (go_at_call 16; have h5 := HSL; clear h5; refine (HT1.out _).mono ?_; rintro e w' ⟨rfl, hb⟩; have HB := hd (HB.out.trans (hb.mono HB.out.size)); clear hb)
    | (go_at_call 16; refine (HT0.out _).mono ?_; rintro e w' ⟨rfl, hb⟩; have HB := hd (HB.out.trans (hb.mono HB.out.size)); clear hb; obtain ⟨W1, fr1, e1, k1, kg1⟩ := run_mark (P := Try.prog) (t := 33) (e := 5) (by kernel_rfl) (by kernel_rfl) (w'.alloc (.cells #[.int .u8 97, .int .u8 98, .int .u8 99] 5)) w'.heap.size 3 3 _ _ _ (heap_alloc_new w' _); have HSL := hd (show SlW W1 (.slice (some ⟨w'.heap.size, 0, none⟩) 3 3) [97, 98, 99] 3 from raw_sl (l := [97, 98, 99]) k1 (by decide)); have HB2 := hd ((HB.out.alloc HB.out.size _).grown kg1 (by simp; have := HB.out.size; omega) (fun k e => by cases e; exact HB.out.size)); clear k1 kg1))
  clear HSL HB2
  go_wp2_with (first
    | (go_at_call 25; refine (HS0.out _).mono ?_; rintro e w' ⟨rfl, hb⟩; have HB := hd (HB.out.trans (hb.mono HB.out.size)); clear hb)
    | (go_at_call 29; refine (HR0.out _).mono ?_; rintro e w' ⟨rfl, hb⟩; have HB := hd (HB.out.trans (hb.mono HB.out.size)); clear hb)
    | (go_at_call 23; refine (new_any _).mono ?_; rintro e w' ⟨g, rfl, hh, _, hb⟩; have HH := hd hh; have HB := hd (HB.out.trans (hb.mono HB.out.size)); clear hb hh)
    | (go_at_call 27; refine (HH0.out _ _ HH.out).mono ?_; rintro e w' ⟨rfl, hb⟩; have HB := hd (HB.out.trans (hb.mono HB.out.size)); clear hb)
    | (go_at_call 21; refine (HCP.out _).mono ?_; rintro e w' ⟨rfl, hb⟩; have HB := hd (HB.out.trans (hb.mono HB.out.size)); clear hb)
    | (go_at_call 15; refine (works_any _).mono ?_; rintro e w' ⟨rfl, hb⟩; have HB := hd (HB.out.trans (hb.mono HB.out.size)); clear hb)
    | (refine wpList_builtG rfl 23 _ rfl (ucs (List.replicate 32 0)) (by kernel_rfl) ?_))
  go_ret
  exact ⟨rfl, HB.out⟩

theorem known_any (w : World) : Calls Try.prog 12 #[] w fun e w' => e = .returned (.bool true) ∧ Below w.heap.size w w' :=
  known_gen w _ _ rfl rfl (sha_length _) (sha_length _) e3b f20 cmp0

end Go.Proofs.Ytolboolbapbniaa
