/- A digest's text. -/
import Derived.Test.YtolboolbapbniaaOf
import Derived.Laws.IdiomStrings
import Derived.Lib.BytesEntry
import Derived.BigQuiet
namespace Go.Proofs.Ytolboolbapbniaa
open Go.RowKit Sp

/-- The digits to the base 16. -/
def hexes : List UInt8 := [48, 49, 50, 51, 52, 53, 54, 55, 56, 57, 97, 98, 99, 100, 101, 102]
def hexd (n : Nat) : UInt8 := hexes.getD n 0
def hexT : List UInt8 → List UInt8
  | [] => []
  | b :: l => hexd (b.toNat / 16) :: hexd (b.toNat % 16) :: hexT l
theorem hexT_length : ∀ l : List UInt8, (hexT l).length = 2 * l.length
  | [] => rfl
  | b :: l => by simp only [hexT, List.length_cons, hexT_length l]; omega
theorem hexT_append : ∀ l m : List UInt8, hexT (l ++ m) = hexT l ++ hexT m
  | [], _ => rfl
  | b :: l, m => by simp only [hexT, List.cons_append, hexT_append l m]
theorem hexT_take (l : List UInt8) (k : Nat) (h : k < l.length) : hexT (l.take (k + 1)) = hexT (l.take k) ++ [hexd ((bg l k).toNat / 16), hexd ((bg l k).toNat % 16)] := by
  have : l.take (k + 1) = l.take k ++ [bg l k] := by
    rw [List.take_add_one, List.getElem?_eq_getElem h]; simp [bg, h]
  rw [this, hexT_append]; rfl

/-- The text of bytes, as a value. -/
def str (l : List UInt8) : Value := .string ⟨l.toArray⟩

theorem idx_any (n : Nat) (h : n < 16) (W : World) : (Instr.index 9 (.string ⟨#[48, 49, 50, 51, 52, 53, 54, 55, 56, 57, 97, 98, 99, 100, 101, 102]⟩) (.int .u8 (n : Int))).run Try.prog W = .ok (.int .u8 (ib (hexd n))) W := by
  rw [run_index_string W _ _ _ _ (by kernel_rfl)]
  have : n = 0 ∨ n = 1 ∨ n = 2 ∨ n = 3 ∨ n = 4 ∨ n = 5 ∨ n = 6 ∨ n = 7 ∨ n = 8 ∨ n = 9 ∨ n = 10 ∨ n = 11 ∨ n = 12 ∨ n = 13 ∨ n = 14 ∨ n = 15 := by omega
  rcases this with rfl | rfl | rfl | rfl | rfl | rfl | rfl | rfl | rfl | rfl | rfl | rfl | rfl | rfl | rfl | rfl <;> rfl
theorem idx_hi (x : UInt8) (W : World) : (Instr.index 9 (.string ⟨#[48, 49, 50, 51, 52, 53, 54, 55, 56, 57, 97, 98, 99, 100, 101, 102]⟩) (.int .u8 (ib x / 16))).run Try.prog W = .ok (.int .u8 (ib (hexd (x.toNat / 16)))) W := by
  have h := x.toNat_lt
  exact idx_any (x.toNat / 16) (by omega) W
theorem idx_lo (x : UInt8) (W : World) : (Instr.index 9 (.string ⟨#[48, 49, 50, 51, 52, 53, 54, 55, 56, 57, 97, 98, 99, 100, 101, 102]⟩) (.int .u8 (ib x % 16))).run Try.prog W = .ok (.int .u8 (ib (hexd (x.toNat % 16)))) W := by
  exact idx_any (x.toNat % 16) (by omega) W
theorem ib_and (x : UInt8) : bits .and .u8 (ib x) 15 = ib x % 16 := by
  have : ∀ n : Nat, n < 256 → bits .and .u8 (n : Int) 15 = (n : Int) % 16 := by decide +kernel
  exact this x.toNat x.toNat_lt

/-- A slice of two bytes. -/
def PairAt (w : World) (v : Value) (a b : UInt8) : Prop := ∃ g, v = .slice (some ⟨g, 0, none⟩) 2 2 ∧ Cl w (some ⟨g, 0, none⟩) (bcs [a, b]) ∧ g < w.heap.size
theorem PairAt.new (w : World) (a b : UInt8) : PairAt (w.alloc (.cells #[.int .u8 (ib a), .int .u8 (ib b)] 5)) (.slice (some ⟨w.heap.size, 0, none⟩) 2 2) a b :=
  ⟨_, rfl, Cl.mk fun j u hj => by rw [Nat.zero_add, blk_cell (heap_alloc_new w _) j]; simpa [bcs] using hj, by simp⟩
theorem own_from {w : World} {base e size n : Nat} {v : Value} {xs : List Value} (h : w.ownsRow base e size v n xs) (k : Nat) (hk : v.ownBlock = some k) : base ≤ k := by
  rcases h.2 with ⟨rfl, _⟩ | ⟨g, cap, cur, rfl, hb, _⟩
  · simp [Value.ownBlock] at hk
  · simp [Value.ownBlock] at hk; omega
/-- A row of the call's own that holds these bytes. -/
def RowAt (w0 w : World) (v : Value) (l : List UInt8) : Prop := w.ownsRow w0.heap.size 5 1 v l.length (bcs l) ∧ Below w0.heap.size w0 w

attribute [local go_sem ↓] ldSt stSt ldD stD
attribute [local go_sem] run_ldA run_stA arrSt arrD loadX_at loadY_some storeX_at storeY_true wcs_size ones_wcs St.list_length ucs_size ones_ucs dg_length sha_length

set_option maxHeartbeats 1000000 in
set_option maxRecDepth 100000 in
theorem text_any (w : World) (l : List UInt8) (hl : l.length = 32) :
    Calls Try.prog 16 #[.agg (ucs l)] w fun e w' => e = .returned (str (hexT l)) ∧ Below w.heap.size w w' := by
  go_enter Try.func16, Try.ntmps16
  have hsub : sub? (w.alloc (.cells (ucs l) 23)) w.heap.size 0 32 = some (ucs l) := sub_alloc_new rfl (by rw [ucs_size, hl])
  go_upto_block 0 with (fail)
  go_wp2_with fail
  go_loopw [3, 7] (fun v i wr => ∃ k : Nat, k ≤ 32 ∧ i = .int .i64 k ∧ RowAt w wr v (hexT (l.take k))) (fun _ i _ => 32 - (intOf i).toNat)
  case atStart => exact ⟨0, by omega, rfl, World.ownsRow_nil _ _ _ _, (Below.refl _ _).alloc (Nat.le_refl _) _⟩
  case round =>
    obtain ⟨k, hk, rfl, hv⟩ := hrel
    obtain ⟨v, rfl⟩ : ∃ v, v = u3 := ⟨_, rfl⟩
    have HV := hd hv
    clear hv
    by_cases hlt : k < 32
    · have hix : ∀ W, (Instr.index 23 (.agg (ucs l)) (.int .i64 k)).run Try.prog W = .ok (.int .u8 (ib (bg l k))) W := fun W =>
        run_index_cells (len := 32) (e := 5) (by kernel_rfl) (by kernel_rfl) W _ k _ hlt (ucs_get _ _ (by omega))
      have hpl : (hexT (l.take k)).length = 2 * k := by rw [hexT_length, List.length_take, hl]; omega
      go_upto_region 5 with (fail)
      have hnx := hexT_take l k (by omega)
      have HNX := hd hnx
      clear hnx hix
      obtain ⟨pre, hpre⟩ : ∃ pre, hexT (l.take k) = pre := ⟨_, rfl⟩
      obtain ⟨x, hx⟩ : ∃ x, bg l k = x := ⟨_, rfl⟩
      rw [hpre] at HV hpl HNX
      rw [hx] at HNX ⊢
      refine wp_region_inv [10, 11, 12, 13, 14, 15, 16, 17, 18, 3] (fun done σ w' => (done 8 = false → Below wr.heap.size wr w') ∧
        (done 0 = true → σ 10 = v) ∧
        (done 1 = true → σ 11 = .int .u8 (ib x)) ∧
        (done 2 = true → σ 12 = .int .u8 (ib x / 16)) ∧
        (done 3 = true → σ 13 = .int .u8 (ib (hexd (x.toNat / 16)))) ∧
        (done 4 = true → σ 14 = .int .u8 (ib x)) ∧
        (done 5 = true → σ 15 = .int .u8 (ib x % 16)) ∧
        (done 6 = true → σ 16 = .int .u8 (ib (hexd (x.toNat % 16)))) ∧
        (done 7 = true → done 8 = false → PairAt w' (σ 17) (hexd (x.toNat / 16)) (hexd (x.toNat % 16))) ∧
        (done 8 = true → RowAt w w' (σ 18) (pre ++ [hexd (x.toNat / 16), hexd (x.toNat % 16)])) ∧
        (done 9 = true → RowAt w w' (σ 3) (pre ++ [hexd (x.toNat / 16), hexd (x.toNat % 16)])) ∧
        (done 9 = false → σ 3 = v)) (by kernel_rfl) (by kernel_rfl) ?_ ?_ ?_
      · simp
        exact Below.drew (Below.refl _ _)
      · refine ⟨fun done σ w' a hi hA hC ha hσ ⟨hR, r0, r1, r2, r3, r4, r5, r6, r7, r8, r9, r10⟩ => ?_, ?_⟩
        · have d8 := hC.at 0 8 _ rfl hi rfl
          have d9 := hC.at 8 9 _ rfl d8 rfl
          have e0 := r10 d9
          refine stepG_plain rfl fun K hK => ?_
          go_simp
          refine hK _ _ ?_
          simp [mk, up]
          exact ⟨hR, r1, r2, r3, r4, r5, r6, r7, r8, r9, r10⟩
        refine ⟨fun done σ w' a hi hA hC ha hσ ⟨hR, r0, r1, r2, r3, r4, r5, r6, r7, r8, r9, r10⟩ => ?_, ?_⟩
        · have e0 := hσ 5 (by simp)
          simp only [List.getElem?_toArray] at e0
          refine stepG_plain rfl fun K hK => ?_
          go_simp
          refine hK _ _ ?_
          simp [mk, up]
          exact ⟨hR, r0, r2, r3, r4, r5, r6, r7, r8, r9, r10⟩
        refine ⟨fun done σ w' a hi hA hC ha hσ ⟨hR, r0, r1, r2, r3, r4, r5, r6, r7, r8, r9, r10⟩ => ?_, ?_⟩
        · simp [After, Region.binds] at hA
          have e0 := r1 hA
          refine stepG_plain rfl fun K hK => ?_
          go_simp
          refine hK _ _ ?_
          simp [mk, up]
          exact ⟨hR, r0, r1, r3, r4, r5, r6, r7, r8, r9, r10⟩
        refine ⟨fun done σ w' a hi hA hC ha hσ ⟨hR, r0, r1, r2, r3, r4, r5, r6, r7, r8, r9, r10⟩ => ?_, ?_⟩
        · simp [After, Region.binds] at hA
          have e0 := r2 hA
          have e1 := idx_hi x
          refine stepG_plain rfl fun K hK => ?_
          go_simp
          refine hK _ _ ?_
          simp [mk, up]
          exact ⟨hR, r0, r1, r2, r4, r5, r6, r7, r8, r9, r10⟩
        refine ⟨fun done σ w' a hi hA hC ha hσ ⟨hR, r0, r1, r2, r3, r4, r5, r6, r7, r8, r9, r10⟩ => ?_, ?_⟩
        · have e0 := hσ 5 (by simp)
          simp only [List.getElem?_toArray] at e0
          refine stepG_plain rfl fun K hK => ?_
          go_simp
          refine hK _ _ ?_
          simp [mk, up]
          exact ⟨hR, r0, r1, r2, r3, r5, r6, r7, r8, r9, r10⟩
        refine ⟨fun done σ w' a hi hA hC ha hσ ⟨hR, r0, r1, r2, r3, r4, r5, r6, r7, r8, r9, r10⟩ => ?_, ?_⟩
        · simp [After, Region.binds] at hA
          have e0 := r4 hA
          have e1 := ib_and x
          refine stepG_plain rfl fun K hK => ?_
          go_simp
          refine hK _ _ ?_
          simp [mk, up]
          exact ⟨hR, r0, r1, r2, r3, r4, r6, r7, r8, r9, r10⟩
        refine ⟨fun done σ w' a hi hA hC ha hσ ⟨hR, r0, r1, r2, r3, r4, r5, r6, r7, r8, r9, r10⟩ => ?_, ?_⟩
        · simp [After, Region.binds] at hA
          have e0 := r5 hA
          have e1 := idx_lo x
          refine stepG_plain rfl fun K hK => ?_
          go_simp
          refine hK _ _ ?_
          simp [mk, up]
          exact ⟨hR, r0, r1, r2, r3, r4, r5, r7, r8, r9, r10⟩
        refine ⟨fun done σ w' a hi hA hC ha hσ ⟨hR, r0, r1, r2, r3, r4, r5, r6, r7, r8, r9, r10⟩ => ?_, ?_⟩
        · simp [After, Region.binds] at hA
          have d8 := hC.at 7 8 _ rfl hi rfl
          have d9 := hC.at 8 9 _ rfl d8 rfl
          have e0 := r3 hA.1
          have e1 := r6 hA.2
          refine stepG_plain rfl fun K hK => ?_
          go_simp
          refine hK _ _ ?_
          simp [mk, up]
          exact ⟨fun h => (hR h).alloc (hR h).size _, r0, r1, r2, r3, r4, r5, r6, fun _ => PairAt.new w' _ _, (fun h => by rw [d8] at h; cases h), (fun h => by rw [d9] at h; cases h), r10⟩
        refine ⟨fun done σ w' a hi hA hC ha hσ ⟨hR, r0, r1, r2, r3, r4, r5, r6, r7, r8, r9, r10⟩ => ?_, ?_⟩
        · simp [After, Region.binds] at hA
          have d9 := hC.at 8 9 _ rfl hi rfl
          have e0 := r0 hA.1
          obtain ⟨g, e1, h1, h2⟩ := r7 hA.2 hi
          have HO := own_below HV.out.1 (hR hi)
          refine stepG_plain rfl fun K hK => ?_
          refine wp_app (.tmp 10) (.tmp 17) 33 rfl w.heap.size 5 (.int .u8 0) 1 1 (by kernel_rfl) infoB rfl (by decide) v _ _ ((ev_tmp ha).trans e0) HO (some ⟨g, 0, none⟩) 2 2 (bcs [hexd (x.toNat / 16), hexd (x.toNat % 16)]) ((ev_tmp ha).trans e1) rfl (fun e => nomatch e) h1 (bcs_one _) (by unfold maxLen; omega) (by omega) (Nat.le_trans HV.out.2.size (hR hi).size) ?_
          intro v' w2 ho2 hg2 hnil
          refine hK _ _ ?_
          simp [mk, up]
          exact ⟨r0, r1, r2, r3, r4, r5, r6, ⟨by rw [List.length_append, bcs_append]; exact ho2, (HV.out.2.trans ((hR hi).mono HV.out.2.size)).grown hg2 (Nat.le_trans HV.out.2.size (hR hi).size) (fun j hj => own_from HV.out.1 j hj)⟩, (fun h => by rw [d9] at h; cases h), r10⟩
        refine ⟨fun done σ w' a hi hA hC ha hσ ⟨hR, r0, r1, r2, r3, r4, r5, r6, r7, r8, r9, r10⟩ => ?_, trivial⟩
        · simp [After, Region.binds] at hA
          have e0 := r8 hA.1
          refine stepG_plain rfl fun K hK => ?_
          go_simp
          refine hK _ _ ?_
          simp [mk, up]
          exact ⟨hR, r0, r1, r2, r3, r4, r5, r6, r7, r8, e0⟩
      · rintro done σ w' hall hσ ⟨hR, r0, r1, r2, r3, r4, r5, r6, r7, r8, r9, r10⟩
        obtain ⟨ho9, hb9⟩ := r9 (hall 9 (by simp))
        simp only [putF, List.foldl_cons, List.foldl_nil, Act.put, List.setIfInBounds_toArray, List.set_cons_succ, List.set_cons_zero]
        clear hσ r0 r1 r2 r3 r4 r5 r6 r7 r8 r9 r10 hall hR
        have HO9 := hd ho9
        have HB9 := hd hb9
        clear ho9 hb9
        go_wp2_with fail
        go_roundw
        case rel =>
          refine ⟨k + 1, by omega, by go_num, ?_⟩
          rw [HNX.out]
          exact ⟨HO9.out, HB9.out⟩
        case measure => simp [intOf]; omega
    · obtain rfl : k = 32 := by omega
      obtain ⟨hv1, hvb⟩ := HV.out
      have ht : l.take 32 = l := List.take_of_length_le (by omega)
      rw [ht] at hv1
      obtain ⟨A, c, rfl, hn1, hc1, hx1, hA1, hA10⟩ := own_cl hv1
      have h64 : (hexT l).length = 64 := by rw [hexT_length, hl]
      obtain ⟨a, rfl⟩ : ∃ a, A = some a := by
        cases A with
        | none => have := (hA10 rfl).1; omega
        | some a => exact ⟨a, rfl⟩
      have hcv := run_convert_bytes_back (P := Try.prog) wr 33 9 5 a c (hexT l) (by kernel_rfl) (by kernel_rfl) (by kernel_rfl) (fun j hj => by
        obtain ⟨a', ha', hc'⟩ := hx1 j _ (bcs_get (hexT l) j hj)
        cases ha'
        rw [hc']
        simp [ib, bg, List.getD_eq_getElem?_getD, hj])
      have HVB := hd hvb
      clear hv1 hvb hx1 hA1 hA10 HV
      rw [h64] at hcv
      go_wp2_with fail
      go_ret
      exact ⟨rfl, HVB.out⟩

end Go.Proofs.Ytolboolbapbniaa
