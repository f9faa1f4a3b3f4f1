/- Which of two digests comes first: the program's Compare and the document's. -/
import Derived.Test.YtolboolbapbniaaWorks
namespace Go.Proofs.Ytolboolbapbniaa
open Go.RowKit Sp

theorem cmp_refl : ∀ l : List UInt8, Lib.compareBytes l l = 0
  | [] => rfl
  | a :: l => by
    have h : ¬ a < a := UInt8.lt_irrefl a
    simp only [Lib.compareBytes, if_neg h]
    exact cmp_refl l
theorem cmp_flip : ∀ l m : List UInt8, Lib.compareBytes m l = -Lib.compareBytes l m
  | [], [] => rfl
  | [], _ :: _ => rfl
  | _ :: _, [] => rfl
  | a :: l, b :: m => by
    have ih := cmp_flip l m
    simp only [Lib.compareBytes]
    by_cases h1 : a < b
    · have h2 : ¬ b < a := fun h => UInt8.lt_irrefl _ (UInt8.lt_trans h1 h)
      rw [if_pos h1, if_neg h2, if_pos h1]; rfl
    · by_cases h2 : b < a
      · rw [if_pos h2, if_neg h1, if_pos h2]
      · rw [if_neg h2, if_neg h1, if_neg h1, if_neg h2, ih]
theorem cmp_cases (l m : List UInt8) : Lib.compareBytes l m = -1 ∨ Lib.compareBytes l m = 0 ∨ Lib.compareBytes l m = 1 := by
  induction l generalizing m with
  | nil => cases m <;> simp [Lib.compareBytes]
  | cons a l ih =>
    cases m with
    | nil => simp [Lib.compareBytes]
    | cons b m =>
      simp only [Lib.compareBytes]
      split
      · exact .inl rfl
      · split
        · exact .inr (.inr rfl)
        · exact ih m
/-- Where the first k bytes are alike, what follows decides. -/
theorem cmp_drop : ∀ (k : Nat) (l m : List UInt8), (∀ j, j < k → bg l j = bg m j) → k ≤ l.length → k ≤ m.length → Lib.compareBytes l m = Lib.compareBytes (l.drop k) (m.drop k)
  | 0, _, _, _, _, _ => rfl
  | k + 1, [], _, _, h, _ => by simp at h
  | k + 1, _ :: _, [], _, _, h => by simp at h
  | k + 1, a :: l, b :: m, h, h1, h2 => by
    have e : a = b := by simpa [bg] using h 0 (by omega)
    subst e
    have hn : ¬ a < a := UInt8.lt_irrefl a
    simp only [Lib.compareBytes, if_neg hn, List.drop_succ_cons]
    exact cmp_drop k l m (fun j hj => by simpa [bg] using h (j + 1) (by omega)) (by simpa using h1) (by simpa using h2)
theorem drop_bg (l : List UInt8) (k : Nat) (h : k < l.length) : l.drop k = bg l k :: l.drop (k + 1) := by
  rw [List.drop_eq_getElem_cons h]
  simp [bg, h]
theorem ib_lt (a b : UInt8) : ib a < ib b ↔ a < b := by unfold ib; rw [UInt8.lt_iff_toNat_lt]; omega
theorem cmp_less (k : Nat) (l m : List UInt8) (h : ∀ j, j < k → bg l j = bg m j) (h1 : k < l.length) (h2 : k < m.length) (hlt : ib (bg l k) < ib (bg m k)) : Lib.compareBytes l m = -1 := by
  rw [cmp_drop k l m h (by omega) (by omega), drop_bg l k h1, drop_bg m k h2]
  simp only [Lib.compareBytes, if_pos ((ib_lt _ _).1 hlt)]
theorem cmp_more (k : Nat) (l m : List UInt8) (h : ∀ j, j < k → bg l j = bg m j) (h1 : k < l.length) (h2 : k < m.length) (hlt : ib (bg m k) < ib (bg l k)) : Lib.compareBytes l m = 1 := by
  rw [cmp_drop k l m h (by omega) (by omega), drop_bg l k h1, drop_bg m k h2]
  have hn : ¬ bg l k < bg m k := fun e => by have := (ib_lt _ _).2 e; omega
  simp only [Lib.compareBytes, if_neg hn, if_pos ((ib_lt _ _).1 hlt)]
theorem cmp_all (l m : List UInt8) (hl : l.length = 32) (hm : m.length = 32) (h : ∀ j, j < 32 → bg l j = bg m j) : Lib.compareBytes l m = 0 := by
  rw [cmp_drop 32 l m h (by omega) (by omega), List.drop_eq_nil_of_le (by omega), List.drop_eq_nil_of_le (by omega)]
  rfl

theorem load_ucs {P : Program} (w : World) (g : Nat) (l : List UInt8) {t : TypeId} {fr : Nat × Nat} (h : w.heap[g]? = some (.cells (ucs l) t fr)) :
    (Extern.Bytes.loadBytes ⟨g, 0, none⟩ l.length .empty).run P w = .ok ⟨l.toArray⟩ w := by
  have h1 := Lib.run_loadBytesX (P := P) w (l.map ib) ⟨g, 0, none⟩ .empty (fun j x hj => by
    rw [add_lit, Nat.zero_add, cell_of_row w g j _ _ _ h]
    simp [ucs, bcs] at hj ⊢
    obtain ⟨b, hb, rfl⟩ := hj
    exact ⟨b, hb, rfl⟩)
  rw [List.length_map] at h1
  rw [h1]
  congr 1
  apply ByteArray.ext
  have e : Lib.bytesOf (l.map ib) = l := by simp [Lib.bytesOf, ib, List.map_map, Function.comp_def]
  rw [e]
  show (#[] : Array UInt8) ++ l.toArray = l.toArray
  simp
theorem run_cmp {P : Program} (w : World) (g1 g2 : Nat) (l m : List UInt8) {t1 t2 : TypeId} {fr1 fr2 : Nat × Nat} (n1 n2 c1 c2 : Nat) (hl : l.length = n1) (hm : m.length = n2) (h1 : w.heap[g1]? = some (.cells (ucs l) t1 fr1)) (h2 : w.heap[g2]? = some (.cells (ucs m) t2 fr2)) :
    (Extern.BytealgCompare.compare #[.slice (some ⟨g1, 0, none⟩) n1 c1, .slice (some ⟨g2, 0, none⟩) n2 c2]).run P w = .ok (.int .i64 (Lib.compareBytes l m)) w := by
  subst hl hm
  have a1 := load_ucs (P := P) w g1 l h1
  have a2 := load_ucs (P := P) w g2 m h2
  change Sem.run P (do pure (goInt (Extern.BytealgCompare.cmp (← Extern.Bytes.bytesOf (.slice (some ⟨g1, 0, none⟩) l.length c1)) (← Extern.Bytes.bytesOf (.slice (some ⟨g2, 0, none⟩) m.length c2))))) w = _
  simp only [Extern.Bytes.bytesOf, Sem.run_bind, a1, a2, Sem.run_pure, Result.andThen]
  rw [Lib.cmp_eq]
  rfl

set_option maxHeartbeats 400000 in
theorem bcmp_any (w : World) (g1 g2 : Nat) (l m : List UInt8) (hl : l.length = 32) (hm : m.length = 32) {t1 t2 : TypeId} {fr1 fr2 : Nat × Nat} (h1 : w.heap[g1]? = some (.cells (ucs l) t1 fr1)) (h2 : w.heap[g2]? = some (.cells (ucs m) t2 fr2)) :
    Calls Try.prog 33 #[.slice (some ⟨g1, 0, none⟩) 32 32, .slice (some ⟨g2, 0, none⟩) 32 32] w fun e w' => e = .returned (.int .i64 (Lib.compareBytes l m)) ∧ w = w' := by
  have HR := hd (run_cmp (P := Try.prog) w g1 g2 l m 32 32 32 32 hl hm h1 h2)
  clear h1 h2 hl hm
  go_enter Try.func33, Try.ntmps33
  go_wp2
  rw [run_callFunc_extern Try.func44 (by kernel_rfl) (by kernel_rfl) (by kernel_rfl) (e := Extern.BytealgCompare.compare) (by kernel_rfl), HR.out]
  simp only [Result.andThen]
  rw [Oper.upon_value]
  go_wp2
  go_ret
  exact ⟨rfl, rfl⟩

set_option maxHeartbeats 1000000 in
set_option maxRecDepth 100000 in
theorem compare_any (w : World) (l m : List UInt8) (hl : l.length = 32) (hm : m.length = 32) :
    Calls Try.prog 21 #[.agg (ucs l), .agg (ucs m)] w fun e w' => e = .returned (.int .i64 (Lib.compareBytes l m)) ∧ Below w.heap.size w w' := by
  go_enter Try.func21, Try.ntmps21
  go_upto_region 1 with (fail)
  obtain ⟨g1, hg1e⟩ : ∃ g, w.heap.size = g := ⟨_, rfl⟩
  obtain ⟨g2, hg2e⟩ : ∃ g, w.heap.size + 1 = g := ⟨_, rfl⟩
  obtain ⟨wr, hwr⟩ : ∃ W, (w.alloc (.cells (ucs l) 23)).alloc (.cells (ucs m) 23) = W := ⟨_, rfl⟩
  have HG1 : Hid (wr.heap[g1]? = some (.cells (ucs l) 23 (0, 0))) := hd (by rw [← hwr, ← hg1e]; exact blk_alloc (heap_alloc_new w _) _)
  have HG2 : Hid (wr.heap[g2]? = some (.cells (ucs m) 23 (0, 0))) := hd (by rw [← hwr, ← hg2e]; exact blk_new1 w _ _)
  have HBW : Hid (Below w.heap.size w wr) := hd (by rw [← hwr]; exact ((Below.refl _ w).alloc (Nat.le_refl _) _).alloc (by simp) _)
  have hg1 := blk_lt HG1.out
  have hg2 := blk_lt HG2.out
  rw [hwr, hg2e, hg1e]
  clear hwr hg1e hg2e
  refine wp_region_inv [5, 6, 7, 4] (fun done σ w' => Below wr.heap.size wr w' ∧
    (done 0 = true → σ 5 = .slice (some ⟨g1, 0, none⟩) 32 32) ∧
    (done 1 = true → σ 6 = .slice (some ⟨g2, 0, none⟩) 32 32) ∧
    (done 2 = true → σ 7 = .int .i64 (Lib.compareBytes l m)) ∧
    (done 3 = true → σ 4 = .int .i64 (Lib.compareBytes l m))) (by kernel_rfl) (by kernel_rfl) ?_ ?_ ?_
  · simp
    exact Below.drew (Below.refl _ _)
  · refine ⟨fun done σ w' a hi hA hC ha hσ ⟨hR, r0, r1, r2, r3⟩ => ?_, ?_⟩
    · have e0 := hσ 2 (by simp)
      simp only [List.getElem?_toArray] at e0
      refine stepG_plain rfl fun K hK => ?_
      go_simp
      refine hK _ _ ?_
      simp [mk, up]
      exact ⟨hR, r1, r2, r3⟩
    refine ⟨fun done σ w' a hi hA hC ha hσ ⟨hR, r0, r1, r2, r3⟩ => ?_, ?_⟩
    · have e0 := hσ 3 (by simp)
      simp only [List.getElem?_toArray] at e0
      refine stepG_plain rfl fun K hK => ?_
      go_simp
      refine hK _ _ ?_
      simp [mk, up]
      exact ⟨hR, r0, r2, r3⟩
    refine ⟨fun done σ w' a hi hA hC ha hσ ⟨hR, r0, r1, r2, r3⟩ => ?_, ?_⟩
    · simp [After, Region.binds] at hA
      have e0 := r0 hA.1
      have e1 := r1 hA.2
      have HC := hd (bcmp_any w' g1 g2 l m hl hm ((hR.block _ hg1).trans HG1.out) ((hR.block _ hg2).trans HG2.out))
      refine stepG_plain rfl fun K hK => ?_
      go_simp
      refine HC.out.mono ?_
      rintro e w2 ⟨rfl, rfl⟩
      refine hK _ _ ?_
      simp [mk, up]
      exact ⟨hR, r0, r1, r3⟩
    refine ⟨fun done σ w' a hi hA hC ha hσ ⟨hR, r0, r1, r2, r3⟩ => ?_, trivial⟩
    · simp [After, Region.binds] at hA
      have e0 := r2 hA.1
      refine stepG_plain rfl fun K hK => ?_
      go_simp
      refine hK _ _ ?_
      simp [mk, up]
      exact ⟨hR, r0, r1, r2⟩
  · rintro done σ w' hall hσ ⟨hR, r0, r1, r2, r3⟩
    have h3 := r3 (hall 3 (by simp))
    simp only [putF, List.foldl_cons, List.foldl_nil, Act.put, List.setIfInBounds_toArray, List.set_cons_succ, List.set_cons_zero]
    rw [h3]
    have HR := hd hR
    clear hσ r0 r1 r2 r3 hall h3 hR
    go_wp2_with fail
    go_ret
    exact ⟨rfl, HBW.out.trans (HR.out.mono HBW.out.size)⟩

set_option maxHeartbeats 1000000 in
set_option maxRecDepth 100000 in
theorem rcompare_any (w : World) (l m : List UInt8) (hl : l.length = 32) (hm : m.length = 32) :
    Calls Try.prog 22 #[.agg (ucs l), .agg (ucs m)] w fun e w' => e = .returned (.int .i64 (Lib.compareBytes l m)) ∧ Below w.heap.size w w' := by
  go_enter Try.func22, Try.ntmps22
  go_upto_block 0 with (fail)
  obtain ⟨g1, hg1e⟩ : ∃ g, w.heap.size = g := ⟨_, rfl⟩
  obtain ⟨g2, hg2e⟩ : ∃ g, w.heap.size + 1 = g := ⟨_, rfl⟩
  obtain ⟨wr0, hwr⟩ : ∃ W, (w.alloc (.cells (ucs l) 23)).alloc (.cells (ucs m) 23) = W := ⟨_, rfl⟩
  have HG1 : Hid (wr0.heap[g1]? = some (.cells (ucs l) 23 (0, 0))) := hd (by rw [← hwr, ← hg1e]; exact blk_alloc (heap_alloc_new w _) _)
  have HG2 : Hid (wr0.heap[g2]? = some (.cells (ucs m) 23 (0, 0))) := hd (by rw [← hwr, ← hg2e]; exact blk_new1 w _ _)
  have HBW : Hid (Below w.heap.size w wr0) := hd (by rw [← hwr]; exact ((Below.refl _ w).alloc (Nat.le_refl _) _).alloc (by simp) _)
  rw [hwr, hg2e, hg1e]
  clear hwr hg1e hg2e
  go_wp2_with fail
  go_loopw [5] (fun i wr => ∃ k : Nat, k ≤ 32 ∧ i = .int .i64 k ∧ wr.heap[g1]? = some (.cells (ucs l) 23 (0, 0)) ∧ wr.heap[g2]? = some (.cells (ucs m) 23 (0, 0)) ∧ Below w.heap.size w wr ∧ ∀ j, j < k → bg l j = bg m j) (fun i _ => 32 - (intOf i).toNat)
  case atStart => exact ⟨0, by omega, rfl, HG1.out, HG2.out, HBW.out, fun j hj => absurd hj (by omega)⟩
  case round =>
    obtain ⟨k, hk, rfl, h1, h2, hb, hs⟩ := hrel
    clear HG1 HG2 HBW
    have HG1 := hd h1
    have HG2 := hd h2
    have HB := hd hb
    have HS := hd hs
    clear h1 h2 hb hs
    by_cases hlt : k < 32
    · have c1 := (blk_cell HG1.out k).trans (ucs_get _ _ (by omega))
      have c2 := (blk_cell HG2.out k).trans (ucs_get _ _ (by omega))
      by_cases hless : ib (bg l k) < ib (bg m k)
      · have hr := hd (cmp_less k l m HS.out (by omega) (by omega) hless)
        go_upto_region 4 with (fail)
        go_quiet (fail)
        go_wp2_with fail
        go_ret
        exact ⟨by rw [hr.out]; rfl, (by first | exact HB.out | exact below_drewN HB.out _ | exact below_drewN (below_drewN HB.out _) _)⟩
      · have hle : ib (bg m k) ≤ ib (bg l k) := by omega
        by_cases hmore : ib (bg m k) < ib (bg l k)
        · have hr := hd (cmp_more k l m HS.out (by omega) (by omega) hmore)
          clear hless
          go_upto_region 4 with (fail)
          go_quiet (fail)
          go_upto_region 6 with (fail)
          go_quiet (fail)
          go_wp2_with fail
          go_ret
          exact ⟨by rw [hr.out]; rfl, (by first | exact HB.out | exact below_drewN HB.out _ | exact below_drewN (below_drewN HB.out _) _)⟩
        · have heq : bg l k = bg m k := by
            have : ib (bg l k) = ib (bg m k) := by omega
            unfold ib at this
            exact UInt8.toNat_inj.1 (by omega)
          have hle2 : ib (bg l k) ≤ ib (bg m k) := by omega
          have HEQ := hd heq
          clear hless hmore heq
          go_upto_region 4 with (fail)
          go_quiet (fail)
          go_upto_region 6 with (fail)
          go_quiet (fail)
          go_wp2_with fail
          go_roundw
          case rel =>
            refine ⟨k + 1, by omega, by go_num, HG1.out, HG2.out, (by first | exact HB.out | exact below_drewN HB.out _ | exact below_drewN (below_drewN HB.out _) _), fun j hj => ?_⟩
            by_cases e : j = k
            · subst e; exact HEQ.out
            · exact HS.out j (by omega)
          case measure => simp [intOf]; omega
    · obtain rfl : k = 32 := by omega
      have hr := hd (cmp_all l m hl hm HS.out)
      go_wp2_with fail
      go_ret
      exact ⟨by rw [hr.out]; rfl, (by first | exact HB.out | exact below_drewN HB.out _ | exact below_drewN (below_drewN HB.out _) _)⟩

end Go.Proofs.Ytolboolbapbniaa
