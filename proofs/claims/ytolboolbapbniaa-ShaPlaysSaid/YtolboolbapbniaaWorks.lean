/- works(): the digest of three bytes, and its text. -/
import Derived.Test.YtolboolbapbniaaHexlaw
namespace Go.Proofs.Ytolboolbapbniaa
open Go.RowKit Sp

/-- A guarded operation whose guard has come out true. -/
theorem stepG_on {P : Program} {ops : Array Oper} {Q : Exit → Act → World → Prop} {R : (Nat → Bool) → (Nat → Value) → World → Prop} {o : Oper} {i : Nat} {done : Nat → Bool} {σ : Nat → Value} {a : Act} {w : World}
    (j t : Nat) (hg : o.guard = some (j, true)) (hj : (ops[j]?).bind (·.dst) = some t) (hv : σ t = .bool true) (ha : ∀ t, a.tmps[t]?.getD undef = σ t)
    (h : ∀ K : Act → World → Prop, (∀ v w', R (mk done i) (up σ o.dst v) w' → K (a.put o.dst v) w') → o.wp P a w K Q) : StepG P ops Q R o i done σ a w := by
  have h1 : a.tmps[t]? = some (.bool true) := by
    have h2 := ha t
    rw [hv] at h2
    cases h3 : a.tmps[t]? with
    | none => rw [h3] at h2; cases h2
    | some v => rw [h3] at h2; simpa using h2
  unfold StepG
  rw [if_pos (by simp [Region.wanted, hg, yielded, hj, h1])]
  exact h _ fun v w' hr => ⟨v, rfl, hr⟩

/-- Bytes in a row of the call's own, marked or not. -/
def RawAt (B : Nat) (w : World) (v : Value) (l : List UInt8) : Prop := ∃ g fr, v = .slice (some ⟨g, 0, none⟩) l.length l.length ∧ B ≤ g ∧ w.heap[g]? = some (.cells (ucs l) 5 fr)
theorem RawAt.new {B : Nat} {w : World} {l : List UInt8} (h : B ≤ w.heap.size) : RawAt B (w.alloc (.cells (ucs l) 5)) (.slice (some ⟨w.heap.size, 0, none⟩) l.length l.length) l := ⟨_, _, rfl, h, heap_alloc_new w _⟩
theorem RawAt.alloc {B : Nat} {w : World} {v : Value} {l : List UInt8} (h : RawAt B w v l) (q : Obj) : RawAt B (w.alloc q) v l := by
  obtain ⟨g, fr, h1, h2, h3⟩ := h
  exact ⟨g, fr, h1, h2, blk_alloc h3 q⟩
theorem RawAt.below {B : Nat} {w w' : World} {v : Value} {l : List UInt8} (h : RawAt B w v l) (hb : Below w.heap.size w w') : RawAt B w' v l := by
  obtain ⟨g, fr, h1, h2, h3⟩ := h
  exact ⟨g, fr, h1, h2, (hb.block g (blk_lt h3)).trans h3⟩
theorem RawAt.mark {B : Nat} {w w' : World} {v : Value} {l : List UInt8} {g : Nat} {c : Array Value} {fr0 fr : Nat × Nat} (h : RawAt B w v l) (hg : w.grownBy w' (some g)) (hc : w'.heap[g]? = some (.cells c 5 fr)) (h0 : w.heap[g]? = some (.cells c 5 fr0)) : RawAt B w' v l := by
  obtain ⟨g1, fr1, h1, h2, h3⟩ := h
  by_cases e : g1 = g
  · subst e
    rw [h3] at h0
    cases h0
    exact ⟨_, _, h1, h2, hc⟩
  · exact ⟨g1, fr1, h1, h2, (hg.block g1 (blk_lt h3) (fun e' => e (by simpa using e'))).trans h3⟩
theorem raw_sl {w : World} {g : Nat} {l : List UInt8} {fr : Nat × Nat} (h : w.heap[g]? = some (.cells (ucs l) 5 fr)) (hm : l.length ≤ maxLen) : SlW w (.slice (some ⟨g, 0, none⟩) l.length l.length) l l.length :=
  ⟨_, _, rfl, Nat.le_refl _, hm, (fun e => nomatch e), Cl.mk fun j u hj => by rw [Nat.zero_add, cell_of_row w g j _ _ _ h]; simpa [ucs] using hj⟩
/-- The three parts. -/
def TriAt (w : World) (v : Value) : Prop := ∃ g v1 v2, v = .slice (some ⟨g, 0, none⟩) 3 3 ∧ PartsAt w (some ⟨g, 0, none⟩) [(v1, [97]), (.slice none 0 0, []), (v2, [98, 99])]
theorem TriAt.below {w w' : World} {v : Value} (h : TriAt w v) (hb : Below w.heap.size w w') : TriAt w' v := by
  obtain ⟨g, v1, v2, h1, h2⟩ := h
  exact ⟨g, v1, v2, h1, h2.below hb⟩
theorem TriAt.new {w : World} {g1 g2 : Nat} {fr1 fr2 : Nat × Nat} (h1 : w.heap[g1]? = some (.cells (ucs [97]) 5 fr1)) (h2 : w.heap[g2]? = some (.cells (ucs [98, 99]) 5 fr2)) :
    TriAt (w.alloc (.cells #[.slice (some ⟨g1, 0, none⟩) 1 1, .slice none 0 0, .slice (some ⟨g2, 0, none⟩) 2 2] 33)) (.slice (some ⟨w.heap.size, 0, none⟩) 3 3) := by
  refine ⟨_, .slice (some ⟨g1, 0, none⟩) 1 1, .slice (some ⟨g2, 0, none⟩) 2 2, rfl, fun j p hj => ?_⟩
  have hc : ∀ i, (w.alloc (.cells #[.slice (some ⟨g1, 0, none⟩) 1 1, .slice none 0 0, .slice (some ⟨g2, 0, none⟩) 2 2] 33)).cell? ((⟨w.heap.size, 0, none⟩ : Addr).add i) = (#[.slice (some ⟨g1, 0, none⟩) 1 1, .slice none 0 0, .slice (some ⟨g2, 0, none⟩) 2 2] : Array Value)[i]? := fun i => by
    rw [add_lit, Nat.zero_add, blk_cell (heap_alloc_new w _)]
  have hj3 : j < 3 := (List.getElem?_eq_some_iff.1 hj).1
  have hj' : j = 0 ∨ j = 1 ∨ j = 2 := by omega
  rcases hj' with rfl | rfl | rfl
  · cases hj
    exact ⟨⟨_, rfl, (hc 0).trans rfl⟩, raw_sl (l := [97]) (blk_alloc h1 _) (by decide)⟩
  · cases hj
    exact ⟨⟨_, rfl, (hc 1).trans rfl⟩, ⟨none, 0, rfl, Nat.le_refl _, Nat.zero_le _, fun _ => ⟨rfl, rfl⟩, Cl.nil _ _⟩⟩
  · cases hj
    exact ⟨⟨_, rfl, (hc 2).trans rfl⟩, raw_sl (l := [98, 99]) (blk_alloc h2 _) (by decide)⟩

set_option maxHeartbeats 400000 in
theorem num_any (w : World) (n : Int) : Calls Try.prog 20 #[.int .i64 n] w fun e w' => e = .returned (.int .i64 n) ∧ w = w' := by
  go_enter Try.func20, Try.ntmps20
  go_wp2
  go_ret
  exact ⟨rfl, rfl⟩

attribute [local go_sem ↓] ldSt stSt ldD stD
attribute [local go_sem] run_ldA run_stA arrSt arrD loadX_at loadY_some storeX_at storeY_true wcs_size ones_wcs St.list_length ucs_size ones_ucs dg_length sha_length

set_option maxHeartbeats 4000000 in
set_option maxRecDepth 100000 in
theorem works_gen (w : World) (dg0 : List UInt8) (hdg : sha [97, 98, 99] = dg0) (hdl : dg0.length = 32) (ht8 : (hexT dg0).take 8 = [98, 97, 55, 56, 49, 54, 98, 102]) : Calls Try.prog 15 #[] w fun e w' => e = .returned (.bool true) ∧ Below w.heap.size w w' := by
  obtain ⟨W1, fr1, e1, h1, hg1⟩ := run_mark (P := Try.prog) (t := 33) (e := 5) (by kernel_rfl) (by kernel_rfl) (w.alloc (.cells #[.int .u8 97, .int .u8 98, .int .u8 99] 5)) w.heap.size 3 3 _ _ _ (heap_alloc_new w _)
  have HB1 : Hid (Below w.heap.size w W1) := hd (((Below.refl _ w).alloc (Nat.le_refl _) _).grown hg1 (by simp) (fun k e => by cases e; exact Nat.le_refl _))
  have h1' : W1.heap[w.heap.size]? = some (.cells (ucs [97, 98, 99]) 5 fr1) := h1
  have hs1 := shasum_any W1 (some ⟨w.heap.size, 0, none⟩) 3 3 [97, 98, 99] rfl (raw_sl (l := [97, 98, 99]) h1' (by decide)) (by omega)
  rw [hdg] at hs1
  have HS := hd hs1
  have HDG := hd hdg
  clear h1 hg1 h1' hdg hs1
  have htx := fun W => text_any W dg0 hdl
  have hpa := fun W => parse_any W (hexT dg0)
  rw [parse_hexT dg0 hdl] at hpa
  have hpb := fun W => parse_any W [66, 65]
  rw [parse_BA] at hpb
  have htl : (hexT dg0).length = 64 := by rw [hexT_length, hdl]
  have HT8 : Hid (∀ W, (Instr.slice 9 (.string ⟨(hexT dg0).toArray⟩) none (some (.int .i64 8)) none).run Try.prog W = .ok (.string ⟨#[98, 97, 55, 56, 49, 54, 98, 102]⟩) W) := hd (fun W => by
    have h9 := run_slice_string_h (P := Try.prog) W 9 ⟨(hexT dg0).toArray⟩ (by kernel_rfl) .i64 8 (by omega) (by simp [ByteArray.size, htl])
    rw [h9]
    congr 2
    apply ByteArray.ext
    rw [show (#[98, 97, 55, 56, 49, 54, 98, 102] : Array UInt8) = ((hexT dg0).take 8).toArray by rw [ht8]]
    simp)
  unfold str at htx
  revert htx hpa htl HT8
  generalize hexT dg0 = t
  intro htx hpa htl HT8
  have htsz : (⟨t.toArray⟩ : ByteArray).size = 64 := by simp [ByteArray.size, htl]
  have HTX := hd htx
  have HPA := hd hpa
  have HPB := hd hpb
  clear htx hpa hpb htl
  go_enter Try.func15, Try.ntmps15
  go_upto_region 2 with (first
    | (go_at_call 25; refine HS.out.mono ?_; rintro e w2 ⟨rfl, hb2⟩; have HB2 := hd hb2; clear hb2)
    | (go_at_call 16; refine (HTX.out _).mono ?_; rintro e w3 ⟨rfl, hb3⟩; have HB3 := hd hb3; clear hb3))
  go_upto_region 3 with (go_at_call 17; refine (HPA.out _).mono ?_; rintro e w4 ⟨rfl, hb4⟩; have HB4 := hd hb4; clear hb4)
  go_upto_region 4 with (go_at_call 17; refine (HPB.out _).mono ?_; rintro e w5 ⟨rfl, hb5⟩; have HB5 := hd hb5; clear hb5)
  have HX4 := hd (show HoldS 32 w4.heap.size 0 (ucs dg0) (w4.alloc (.cells (ucs dg0) 23)) from ⟨sub_alloc_new rfl (by rw [ucs_size, hdl]), by simp⟩)
  obtain ⟨wr, hwr⟩ : ∃ W, w5.alloc (.cells (ucs (List.replicate 32 0)) 23) = W := ⟨_, rfl⟩
  have HX := hd (show HoldS 32 w4.heap.size 0 (ucs dg0) wr by rw [← hwr]; exact (HX4.out.below HB5.out).alloc _)
  have HBW := hd (show Below w.heap.size w wr by
    have h1 := HB1.out.trans (HB2.out.mono HB1.out.size)
    have h2 := h1.trans (HB3.out.mono h1.size)
    have h3 := h2.trans (HB4.out.mono h2.size)
    have h4 := h3.alloc h3.size (.cells (ucs dg0) 23)
    have h5 := h4.trans (HB5.out.mono h4.size)
    rw [← hwr]
    exact h5.alloc h5.size _)
  rw [show List.replicate 32 (0 : UInt8) = [0, 0, 0, 0, 0, 0, 0, 0, 0, 0, 0, 0, 0, 0, 0, 0, 0, 0, 0, 0, 0, 0, 0, 0, 0, 0, 0, 0, 0, 0, 0, 0] from rfl] at hwr
  rw [hwr]
  clear HB1 HB2 HB3 HB4 HB5 HX4 HTX HPA HPB HS hwr e1
  refine wp_region_inv [19, 20, 21, 22, 23, 24, 25, 26, 27, 28, 29, 30, 31, 32, 33, 34, 35, 36, 37, 38, 39, 40, 41, 42, 43, 44, 45, 46, 0] (fun done σ w' => Below wr.heap.size wr w' ∧
    (done 0 = true → σ 19 = .string ⟨t.toArray⟩) ∧
    (done 1 = true → σ 20 = .int .i64 64) ∧
    (done 2 = true → σ 21 = .bool true) ∧
    (done 3 = true → σ 22 = .bool true) ∧
    (done 4 = true → σ 23 = .string ⟨t.toArray⟩) ∧
    (done 5 = true → σ 24 = .string ⟨#[98, 97, 55, 56, 49, 54, 98, 102]⟩) ∧
    (done 6 = true → σ 25 = .bool true) ∧
    (done 7 = true → σ 26 = .bool true) ∧
    (done 8 = true → σ 27 = .bool true) ∧
    (done 9 = true → σ 28 = .int .i64 0) ∧
    (done 10 = true → σ 29 = .int .i64 0) ∧
    (done 11 = true → σ 30 = .bool true) ∧
    (done 12 = true → σ 31 = .bool true) ∧
    (done 13 = true → σ 32 = .bool true) ∧
    (done 14 = true → σ 33 = .agg (ucs dg0)) ∧
    (done 15 = true → RawAt wr.heap.size w' (σ 34) [97]) ∧
    (done 16 = true → RawAt wr.heap.size w' (σ 35) [97]) ∧
    (done 17 = true → RawAt wr.heap.size w' (σ 36) [98, 99]) ∧
    (done 18 = true → RawAt wr.heap.size w' (σ 37) [98, 99]) ∧
    (done 19 = true → TriAt w' (σ 38)) ∧
    (done 20 = true → σ 39 = .agg (ucs dg0)) ∧
    (done 21 = true → σ 40 = .bool true) ∧
    (done 22 = true → σ 41 = .bool true) ∧
    (done 23 = true → σ 42 = .bool true) ∧
    (done 24 = true → σ 43 = .int .i64 110) ∧
    (done 25 = true → σ 44 = .int .i64 110) ∧
    (done 26 = true → σ 45 = .bool true) ∧
    (done 27 = true → σ 46 = .bool true) ∧
    (done 28 = true → σ 0 = .bool true)) (by kernel_rfl) (by kernel_rfl) ?_ ?_ ?_
  · simp
    exact Below.drew (Below.refl _ _)
  · refine ⟨fun done σ w' a hi hA hC ha hσ ⟨hR, r0, r1, r2, r3, r4, r5, r6, r7, r8, r9, r10, r11, r12, r13, r14, r15, r16, r17, r18, r19, r20, r21, r22, r23, r24, r25, r26, r27, r28⟩ => ?_, ?_⟩
    · have e0 := hσ 1 (by simp)
      simp only [List.getElem?_toArray] at e0
      refine stepG_plain rfl fun K hK => ?_
      go_simp
      refine hK _ _ ?_
      simp [mk, up]
      exact ⟨hR, r1, r2, r3, r4, r5, r6, r7, r8, r9, r10, r11, r12, r13, r14, r15, r16, r17, r18, r19, r20, r21, r22, r23, r24, r25, r26, r27, r28⟩
    refine ⟨fun done σ w' a hi hA hC ha hσ ⟨hR, r0, r1, r2, r3, r4, r5, r6, r7, r8, r9, r10, r11, r12, r13, r14, r15, r16, r17, r18, r19, r20, r21, r22, r23, r24, r25, r26, r27, r28⟩ => ?_, ?_⟩
    · simp [After, Region.binds] at hA
      have e0 := r0 (by first | exact hA | exact hA.1 | exact hA.2 | exact hA.2.1 | exact hA.2.2 | exact hA.2.2.1)
      have e9 := htsz
      refine stepG_plain rfl fun K hK => ?_
      go_simp
      refine hK _ _ ?_
      simp [mk, up]
      exact ⟨hR, r0, r2, r3, r4, r5, r6, r7, r8, r9, r10, r11, r12, r13, r14, r15, r16, r17, r18, r19, r20, r21, r22, r23, r24, r25, r26, r27, r28⟩
    refine ⟨fun done σ w' a hi hA hC ha hσ ⟨hR, r0, r1, r2, r3, r4, r5, r6, r7, r8, r9, r10, r11, r12, r13, r14, r15, r16, r17, r18, r19, r20, r21, r22, r23, r24, r25, r26, r27, r28⟩ => ?_, ?_⟩
    · simp [After, Region.binds] at hA
      have e0 := r1 (by first | exact hA | exact hA.1 | exact hA.2 | exact hA.2.1 | exact hA.2.2 | exact hA.2.2.1)
      refine stepG_plain rfl fun K hK => ?_
      go_simp
      refine hK _ _ ?_
      simp [mk, up]
      exact ⟨hR, r0, r1, r3, r4, r5, r6, r7, r8, r9, r10, r11, r12, r13, r14, r15, r16, r17, r18, r19, r20, r21, r22, r23, r24, r25, r26, r27, r28⟩
    refine ⟨fun done σ w' a hi hA hC ha hσ ⟨hR, r0, r1, r2, r3, r4, r5, r6, r7, r8, r9, r10, r11, r12, r13, r14, r15, r16, r17, r18, r19, r20, r21, r22, r23, r24, r25, r26, r27, r28⟩ => ?_, ?_⟩
    · simp [After, Region.binds] at hA
      have e0 := r2 (by first | exact hA | exact hA.1 | exact hA.2 | exact hA.2.1 | exact hA.2.2 | exact hA.2.2.1)
      refine stepG_plain rfl fun K hK => ?_
      go_simp
      refine hK _ _ ?_
      simp [mk, up]
      exact ⟨hR, r0, r1, r2, r4, r5, r6, r7, r8, r9, r10, r11, r12, r13, r14, r15, r16, r17, r18, r19, r20, r21, r22, r23, r24, r25, r26, r27, r28⟩
    refine ⟨fun done σ w' a hi hA hC ha hσ ⟨hR, r0, r1, r2, r3, r4, r5, r6, r7, r8, r9, r10, r11, r12, r13, r14, r15, r16, r17, r18, r19, r20, r21, r22, r23, r24, r25, r26, r27, r28⟩ => ?_, ?_⟩
    · simp [After, Region.binds] at hA
      have e0 := hσ 1 (by simp)
      simp only [List.getElem?_toArray] at e0
      refine stepG_on 3 22 rfl rfl (r3 (by first | exact hA | exact hA.1 | exact hA.2 | exact hA.2.1 | exact hA.2.2 | exact hA.2.2.1)) ha fun K hK => ?_
      go_simp
      refine hK _ _ ?_
      simp [mk, up]
      exact ⟨hR, r0, r1, r2, r3, r5, r6, r7, r8, r9, r10, r11, r12, r13, r14, r15, r16, r17, r18, r19, r20, r21, r22, r23, r24, r25, r26, r27, r28⟩
    refine ⟨fun done σ w' a hi hA hC ha hσ ⟨hR, r0, r1, r2, r3, r4, r5, r6, r7, r8, r9, r10, r11, r12, r13, r14, r15, r16, r17, r18, r19, r20, r21, r22, r23, r24, r25, r26, r27, r28⟩ => ?_, ?_⟩
    · simp [After, Region.binds] at hA
      have e0 := r4 (by first | exact hA | exact hA.1 | exact hA.2 | exact hA.2.1 | exact hA.2.2 | exact hA.2.2.1)
      have e9 := HT8.out w'
      refine stepG_on 3 22 rfl rfl (r3 (by first | exact hA | exact hA.1 | exact hA.2 | exact hA.2.1 | exact hA.2.2 | exact hA.2.2.1)) ha fun K hK => ?_
      go_simp
      refine hK _ _ ?_
      simp [mk, up]
      exact ⟨hR, r0, r1, r2, r3, r4, r6, r7, r8, r9, r10, r11, r12, r13, r14, r15, r16, r17, r18, r19, r20, r21, r22, r23, r24, r25, r26, r27, r28⟩
    refine ⟨fun done σ w' a hi hA hC ha hσ ⟨hR, r0, r1, r2, r3, r4, r5, r6, r7, r8, r9, r10, r11, r12, r13, r14, r15, r16, r17, r18, r19, r20, r21, r22, r23, r24, r25, r26, r27, r28⟩ => ?_, ?_⟩
    · simp [After, Region.binds] at hA
      have e0 := r5 (by first | exact hA | exact hA.1 | exact hA.2 | exact hA.2.1 | exact hA.2.2 | exact hA.2.2.1)
      refine stepG_on 3 22 rfl rfl (r3 (by first | exact hA | exact hA.1 | exact hA.2 | exact hA.2.1 | exact hA.2.2 | exact hA.2.2.1)) ha fun K hK => ?_
      go_simp
      refine hK _ _ ?_
      simp [mk, up]
      exact ⟨hR, r0, r1, r2, r3, r4, r5, r7, r8, r9, r10, r11, r12, r13, r14, r15, r16, r17, r18, r19, r20, r21, r22, r23, r24, r25, r26, r27, r28⟩
    refine ⟨fun done σ w' a hi hA hC ha hσ ⟨hR, r0, r1, r2, r3, r4, r5, r6, r7, r8, r9, r10, r11, r12, r13, r14, r15, r16, r17, r18, r19, r20, r21, r22, r23, r24, r25, r26, r27, r28⟩ => ?_, ?_⟩
    · simp [After, Region.binds] at hA
      have e0 := r3 (by first | exact hA | exact hA.1 | exact hA.2 | exact hA.2.1 | exact hA.2.2 | exact hA.2.2.1)
      have e1 := r6 (by first | exact hA | exact hA.1 | exact hA.2 | exact hA.2.1 | exact hA.2.2 | exact hA.2.2.1)
      refine stepG_plain rfl fun K hK => ?_
      go_simp
      refine hK _ _ ?_
      simp [mk, up]
      exact ⟨hR, r0, r1, r2, r3, r4, r5, r6, r8, r9, r10, r11, r12, r13, r14, r15, r16, r17, r18, r19, r20, r21, r22, r23, r24, r25, r26, r27, r28⟩
    refine ⟨fun done σ w' a hi hA hC ha hσ ⟨hR, r0, r1, r2, r3, r4, r5, r6, r7, r8, r9, r10, r11, r12, r13, r14, r15, r16, r17, r18, r19, r20, r21, r22, r23, r24, r25, r26, r27, r28⟩ => ?_, ?_⟩
    · simp [After, Region.binds] at hA
      have e0 := r7 (by first | exact hA | exact hA.1 | exact hA.2 | exact hA.2.1 | exact hA.2.2 | exact hA.2.2.1)
      refine stepG_plain rfl fun K hK => ?_
      go_simp
      refine hK _ _ ?_
      simp [mk, up]
      exact ⟨hR, r0, r1, r2, r3, r4, r5, r6, r7, r9, r10, r11, r12, r13, r14, r15, r16, r17, r18, r19, r20, r21, r22, r23, r24, r25, r26, r27, r28⟩
    refine ⟨fun done σ w' a hi hA hC ha hσ ⟨hR, r0, r1, r2, r3, r4, r5, r6, r7, r8, r9, r10, r11, r12, r13, r14, r15, r16, r17, r18, r19, r20, r21, r22, r23, r24, r25, r26, r27, r28⟩ => ?_, ?_⟩
    · simp [After, Region.binds] at hA
      have e0 := hσ 3 (by simp)
      simp only [List.getElem?_toArray] at e0
      refine stepG_on 8 27 rfl rfl (r8 (by first | exact hA | exact hA.1 | exact hA.2 | exact hA.2.1 | exact hA.2.2 | exact hA.2.2.1)) ha fun K hK => ?_
      go_simp
      refine hK _ _ ?_
      simp [mk, up]
      exact ⟨hR, r0, r1, r2, r3, r4, r5, r6, r7, r8, r10, r11, r12, r13, r14, r15, r16, r17, r18, r19, r20, r21, r22, r23, r24, r25, r26, r27, r28⟩
    refine ⟨fun done σ w' a hi hA hC ha hσ ⟨hR, r0, r1, r2, r3, r4, r5, r6, r7, r8, r9, r10, r11, r12, r13, r14, r15, r16, r17, r18, r19, r20, r21, r22, r23, r24, r25, r26, r27, r28⟩ => ?_, ?_⟩
    · simp [After, Region.binds] at hA
      have e0 := r9 (by first | exact hA | exact hA.1 | exact hA.2 | exact hA.2.1 | exact hA.2.2 | exact hA.2.2.1)
      refine stepG_on 8 27 rfl rfl (r8 (by first | exact hA | exact hA.1 | exact hA.2 | exact hA.2.1 | exact hA.2.2 | exact hA.2.2.1)) ha fun K hK => ?_
      go_simp
      refine (num_any w' 0).mono ?_
      rintro e w2 ⟨rfl, rfl⟩
      refine hK _ _ ?_
      simp [mk, up]
      exact ⟨hR, r0, r1, r2, r3, r4, r5, r6, r7, r8, r9, r11, r12, r13, r14, r15, r16, r17, r18, r19, r20, r21, r22, r23, r24, r25, r26, r27, r28⟩
    refine ⟨fun done σ w' a hi hA hC ha hσ ⟨hR, r0, r1, r2, r3, r4, r5, r6, r7, r8, r9, r10, r11, r12, r13, r14, r15, r16, r17, r18, r19, r20, r21, r22, r23, r24, r25, r26, r27, r28⟩ => ?_, ?_⟩
    · simp [After, Region.binds] at hA
      have e0 := r10 (by first | exact hA | exact hA.1 | exact hA.2 | exact hA.2.1 | exact hA.2.2 | exact hA.2.2.1)
      refine stepG_on 8 27 rfl rfl (r8 (by first | exact hA | exact hA.1 | exact hA.2 | exact hA.2.1 | exact hA.2.2 | exact hA.2.2.1)) ha fun K hK => ?_
      go_simp
      refine hK _ _ ?_
      simp [mk, up]
      exact ⟨hR, r0, r1, r2, r3, r4, r5, r6, r7, r8, r9, r10, r12, r13, r14, r15, r16, r17, r18, r19, r20, r21, r22, r23, r24, r25, r26, r27, r28⟩
    refine ⟨fun done σ w' a hi hA hC ha hσ ⟨hR, r0, r1, r2, r3, r4, r5, r6, r7, r8, r9, r10, r11, r12, r13, r14, r15, r16, r17, r18, r19, r20, r21, r22, r23, r24, r25, r26, r27, r28⟩ => ?_, ?_⟩
    · simp [After, Region.binds] at hA
      have e0 := r8 (by first | exact hA | exact hA.1 | exact hA.2 | exact hA.2.1 | exact hA.2.2 | exact hA.2.2.1)
      have e1 := r11 (by first | exact hA | exact hA.1 | exact hA.2 | exact hA.2.1 | exact hA.2.2 | exact hA.2.2.1)
      refine stepG_plain rfl fun K hK => ?_
      go_simp
      refine hK _ _ ?_
      simp [mk, up]
      exact ⟨hR, r0, r1, r2, r3, r4, r5, r6, r7, r8, r9, r10, r11, r13, r14, r15, r16, r17, r18, r19, r20, r21, r22, r23, r24, r25, r26, r27, r28⟩
    refine ⟨fun done σ w' a hi hA hC ha hσ ⟨hR, r0, r1, r2, r3, r4, r5, r6, r7, r8, r9, r10, r11, r12, r13, r14, r15, r16, r17, r18, r19, r20, r21, r22, r23, r24, r25, r26, r27, r28⟩ => ?_, ?_⟩
    · simp [After, Region.binds] at hA
      have e0 := r12 (by first | exact hA | exact hA.1 | exact hA.2 | exact hA.2.1 | exact hA.2.2 | exact hA.2.2.1)
      refine stepG_plain rfl fun K hK => ?_
      go_simp
      refine hK _ _ ?_
      simp [mk, up]
      exact ⟨hR, r0, r1, r2, r3, r4, r5, r6, r7, r8, r9, r10, r11, r12, r14, r15, r16, r17, r18, r19, r20, r21, r22, r23, r24, r25, r26, r27, r28⟩
    refine ⟨fun done σ w' a hi hA hC ha hσ ⟨hR, r0, r1, r2, r3, r4, r5, r6, r7, r8, r9, r10, r11, r12, r13, r14, r15, r16, r17, r18, r19, r20, r21, r22, r23, r24, r25, r26, r27, r28⟩ => ?_, ?_⟩
    · simp [After, Region.binds] at hA
      have e0 := hσ 2 (by simp)
      simp only [List.getElem?_toArray] at e0
      have e9 := (HX.out.below hR).sub
      refine stepG_on 13 32 rfl rfl (r13 (by first | exact hA | exact hA.1 | exact hA.2 | exact hA.2.1 | exact hA.2.2 | exact hA.2.2.1)) ha fun K hK => ?_
      go_simp
      refine hK _ _ ?_
      simp [mk, up]
      exact ⟨hR, r0, r1, r2, r3, r4, r5, r6, r7, r8, r9, r10, r11, r12, r13, r15, r16, r17, r18, r19, r20, r21, r22, r23, r24, r25, r26, r27, r28⟩
    refine ⟨fun done σ w' a hi hA hC ha hσ ⟨hR, r0, r1, r2, r3, r4, r5, r6, r7, r8, r9, r10, r11, r12, r13, r14, r15, r16, r17, r18, r19, r20, r21, r22, r23, r24, r25, r26, r27, r28⟩ => ?_, ?_⟩
    · simp [After, Region.binds] at hA
      have d16 := hC.at 15 16 _ rfl hi rfl
      have d19 := hC.at 16 19 _ rfl d16 rfl
      refine stepG_on 13 32 rfl rfl (r13 (by first | exact hA | exact hA.1 | exact hA.2 | exact hA.2.1 | exact hA.2.2 | exact hA.2.2.1)) ha fun K hK => ?_
      go_simp
      refine hK _ _ ?_
      simp [mk, up]
      exact ⟨hR.alloc hR.size _, r0, r1, r2, r3, r4, r5, r6, r7, r8, r9, r10, r11, r12, r13, r14, RawAt.new hR.size (l := [97]), (fun h => (r16 h).alloc _), (fun h => (r17 h).alloc _), (fun h => (r18 h).alloc _), (fun h => by rw [d19] at h; cases h), r20, r21, r22, r23, r24, r25, r26, r27, r28⟩
    refine ⟨fun done σ w' a hi hA hC ha hσ ⟨hR, r0, r1, r2, r3, r4, r5, r6, r7, r8, r9, r10, r11, r12, r13, r14, r15, r16, r17, r18, r19, r20, r21, r22, r23, r24, r25, r26, r27, r28⟩ => ?_, ?_⟩
    · simp [After, Region.binds] at hA
      have d19 := hC.at 16 19 _ rfl hi rfl
      obtain ⟨g, fr, e0, hBg, h1⟩ := r15 (by first | exact hA | exact hA.1 | exact hA.2 | exact hA.2.1 | exact hA.2.2 | exact hA.2.2.1)
      have H0 := hd h1
      obtain ⟨w3, fr3, e1, h3, hg3⟩ := run_mark (P := Try.prog) (t := 33) (e := 5) (by kernel_rfl) (by kernel_rfl) w' g 1 1 _ _ _ h1
      have H3 := hd h3
      have HG3 := hd hg3
      clear h1 h3 hg3
      refine stepG_on 13 32 rfl rfl (r13 (by first | exact hA | exact hA.1 | exact hA.2 | exact hA.2.1 | exact hA.2.2 | exact hA.2.2.1)) ha fun K hK => ?_
      go_simp
      refine hK _ _ ?_
      simp [mk, up]
      exact ⟨hR.grown HG3.out hR.size (fun j e => by cases e; exact hBg), r0, r1, r2, r3, r4, r5, r6, r7, r8, r9, r10, r11, r12, r13, r14, (fun h => (r15 h).mark HG3.out H3.out H0.out), ⟨g, fr3, rfl, hBg, H3.out⟩, (fun h => (r17 h).mark HG3.out H3.out H0.out), (fun h => (r18 h).mark HG3.out H3.out H0.out), (fun h => by rw [d19] at h; cases h), r20, r21, r22, r23, r24, r25, r26, r27, r28⟩
    refine ⟨fun done σ w' a hi hA hC ha hσ ⟨hR, r0, r1, r2, r3, r4, r5, r6, r7, r8, r9, r10, r11, r12, r13, r14, r15, r16, r17, r18, r19, r20, r21, r22, r23, r24, r25, r26, r27, r28⟩ => ?_, ?_⟩
    · simp [After, Region.binds] at hA
      have d18 := hC.at 17 18 _ rfl hi rfl
      have d19 := hC.at 18 19 _ rfl d18 rfl
      refine stepG_on 13 32 rfl rfl (r13 (by first | exact hA | exact hA.1 | exact hA.2 | exact hA.2.1 | exact hA.2.2 | exact hA.2.2.1)) ha fun K hK => ?_
      go_simp
      refine hK _ _ ?_
      simp [mk, up]
      exact ⟨hR.alloc hR.size _, r0, r1, r2, r3, r4, r5, r6, r7, r8, r9, r10, r11, r12, r13, r14, (fun h => (r15 h).alloc _), (fun h => (r16 h).alloc _), RawAt.new hR.size (l := [98, 99]), (fun h => (r18 h).alloc _), (fun h => by rw [d19] at h; cases h), r20, r21, r22, r23, r24, r25, r26, r27, r28⟩
    refine ⟨fun done σ w' a hi hA hC ha hσ ⟨hR, r0, r1, r2, r3, r4, r5, r6, r7, r8, r9, r10, r11, r12, r13, r14, r15, r16, r17, r18, r19, r20, r21, r22, r23, r24, r25, r26, r27, r28⟩ => ?_, ?_⟩
    · simp [After, Region.binds] at hA
      have d19 := hC.at 18 19 _ rfl hi rfl
      obtain ⟨g, fr, e0, hBg, h1⟩ := r17 (by first | exact hA | exact hA.1 | exact hA.2 | exact hA.2.1 | exact hA.2.2 | exact hA.2.2.1)
      have H0 := hd h1
      obtain ⟨w3, fr3, e1, h3, hg3⟩ := run_mark (P := Try.prog) (t := 33) (e := 5) (by kernel_rfl) (by kernel_rfl) w' g 2 2 _ _ _ h1
      have H3 := hd h3
      have HG3 := hd hg3
      clear h1 h3 hg3
      refine stepG_on 13 32 rfl rfl (r13 (by first | exact hA | exact hA.1 | exact hA.2 | exact hA.2.1 | exact hA.2.2 | exact hA.2.2.1)) ha fun K hK => ?_
      go_simp
      refine hK _ _ ?_
      simp [mk, up]
      exact ⟨hR.grown HG3.out hR.size (fun j e => by cases e; exact hBg), r0, r1, r2, r3, r4, r5, r6, r7, r8, r9, r10, r11, r12, r13, r14, (fun h => (r15 h).mark HG3.out H3.out H0.out), (fun h => (r16 h).mark HG3.out H3.out H0.out), (fun h => (r17 h).mark HG3.out H3.out H0.out), ⟨g, fr3, rfl, hBg, H3.out⟩, (fun h => by rw [d19] at h; cases h), r20, r21, r22, r23, r24, r25, r26, r27, r28⟩
    refine ⟨fun done σ w' a hi hA hC ha hσ ⟨hR, r0, r1, r2, r3, r4, r5, r6, r7, r8, r9, r10, r11, r12, r13, r14, r15, r16, r17, r18, r19, r20, r21, r22, r23, r24, r25, r26, r27, r28⟩ => ?_, ?_⟩
    · simp [After, Region.binds] at hA
      obtain ⟨g1, fr1, e0, hB1, h1⟩ := r16 (by first | exact hA | exact hA.1 | exact hA.2 | exact hA.2.1 | exact hA.2.2 | exact hA.2.2.1)
      obtain ⟨g2, fr2, e1, hB2, h2⟩ := r18 (by first | exact hA | exact hA.1 | exact hA.2 | exact hA.2.1 | exact hA.2.2 | exact hA.2.2.1)
      have H1 := hd h1
      have H2 := hd h2
      clear h1 h2
      refine stepG_on 13 32 rfl rfl (r13 (by first | exact hA | exact hA.1 | exact hA.2 | exact hA.2.1 | exact hA.2.2 | exact hA.2.2.1)) ha fun K hK => ?_
      go_simp
      refine hK _ _ ?_
      simp [mk, up]
      exact ⟨hR.alloc hR.size _, r0, r1, r2, r3, r4, r5, r6, r7, r8, r9, r10, r11, r12, r13, r14, (fun h => (r15 h).alloc _), (fun h => (r16 h).alloc _), (fun h => (r17 h).alloc _), (fun h => (r18 h).alloc _), TriAt.new H1.out H2.out, r20, r21, r22, r23, r24, r25, r26, r27, r28⟩
    refine ⟨fun done σ w' a hi hA hC ha hσ ⟨hR, r0, r1, r2, r3, r4, r5, r6, r7, r8, r9, r10, r11, r12, r13, r14, r15, r16, r17, r18, r19, r20, r21, r22, r23, r24, r25, r26, r27, r28⟩ => ?_, ?_⟩
    · simp [After, Region.binds] at hA
      obtain ⟨g, v1, v2, e0, hp⟩ := r19 (by first | exact hA | exact hA.1 | exact hA.2 | exact hA.2.1 | exact hA.2.2 | exact hA.2.2.1)
      have ho := of_any w' (some ⟨g, 0, none⟩) 3 3 [(v1, [97]), (.slice none 0 0, []), (v2, [98, 99])] rfl hp (by simp [flat]) (by omega)
      rw [show flat [(v1, [97]), (.slice none 0 0, []), (v2, [98, 99])] = [97, 98, 99] from rfl, HDG.out] at ho
      have HO := hd ho
      clear hp ho
      refine stepG_on 13 32 rfl rfl (r13 (by first | exact hA | exact hA.1 | exact hA.2 | exact hA.2.1 | exact hA.2.2 | exact hA.2.2.1)) ha fun K hK => ?_
      go_simp
      refine HO.out.mono ?_
      rintro e w2 ⟨rfl, hb2⟩
      refine hK _ _ ?_
      simp [mk, up]
      exact ⟨hR.trans (hb2.mono hR.size), r0, r1, r2, r3, r4, r5, r6, r7, r8, r9, r10, r11, r12, r13, r14, (fun h => (r15 h).below hb2), (fun h => (r16 h).below hb2), (fun h => (r17 h).below hb2), (fun h => (r18 h).below hb2), (fun h => (r19 h).below hb2), r21, r22, r23, r24, r25, r26, r27, r28⟩
    refine ⟨fun done σ w' a hi hA hC ha hσ ⟨hR, r0, r1, r2, r3, r4, r5, r6, r7, r8, r9, r10, r11, r12, r13, r14, r15, r16, r17, r18, r19, r20, r21, r22, r23, r24, r25, r26, r27, r28⟩ => ?_, ?_⟩
    · simp [After, Region.binds] at hA
      have e0 := r14 (by first | exact hA | exact hA.1 | exact hA.2 | exact hA.2.1 | exact hA.2.2 | exact hA.2.2.1)
      have e1 := r20 (by first | exact hA | exact hA.1 | exact hA.2 | exact hA.2.1 | exact hA.2.2 | exact hA.2.2.1)
      have e9 := eq_digIn dg0 hdl w'
      refine stepG_on 13 32 rfl rfl (r13 (by first | exact hA | exact hA.1 | exact hA.2 | exact hA.2.1 | exact hA.2.2 | exact hA.2.2.1)) ha fun K hK => ?_
      go_simp
      refine hK _ _ ?_
      simp [mk, up]
      exact ⟨hR, r0, r1, r2, r3, r4, r5, r6, r7, r8, r9, r10, r11, r12, r13, r14, r15, r16, r17, r18, r19, r20, r22, r23, r24, r25, r26, r27, r28⟩
    refine ⟨fun done σ w' a hi hA hC ha hσ ⟨hR, r0, r1, r2, r3, r4, r5, r6, r7, r8, r9, r10, r11, r12, r13, r14, r15, r16, r17, r18, r19, r20, r21, r22, r23, r24, r25, r26, r27, r28⟩ => ?_, ?_⟩
    · simp [After, Region.binds] at hA
      have e0 := r13 (by first | exact hA | exact hA.1 | exact hA.2 | exact hA.2.1 | exact hA.2.2 | exact hA.2.2.1)
      have e1 := r21 (by first | exact hA | exact hA.1 | exact hA.2 | exact hA.2.1 | exact hA.2.2 | exact hA.2.2.1)
      refine stepG_plain rfl fun K hK => ?_
      go_simp
      refine hK _ _ ?_
      simp [mk, up]
      exact ⟨hR, r0, r1, r2, r3, r4, r5, r6, r7, r8, r9, r10, r11, r12, r13, r14, r15, r16, r17, r18, r19, r20, r21, r23, r24, r25, r26, r27, r28⟩
    refine ⟨fun done σ w' a hi hA hC ha hσ ⟨hR, r0, r1, r2, r3, r4, r5, r6, r7, r8, r9, r10, r11, r12, r13, r14, r15, r16, r17, r18, r19, r20, r21, r22, r23, r24, r25, r26, r27, r28⟩ => ?_, ?_⟩
    · simp [After, Region.binds] at hA
      have e0 := r22 (by first | exact hA | exact hA.1 | exact hA.2 | exact hA.2.1 | exact hA.2.2 | exact hA.2.2.1)
      refine stepG_plain rfl fun K hK => ?_
      go_simp
      refine hK _ _ ?_
      simp [mk, up]
      exact ⟨hR, r0, r1, r2, r3, r4, r5, r6, r7, r8, r9, r10, r11, r12, r13, r14, r15, r16, r17, r18, r19, r20, r21, r22, r24, r25, r26, r27, r28⟩
    refine ⟨fun done σ w' a hi hA hC ha hσ ⟨hR, r0, r1, r2, r3, r4, r5, r6, r7, r8, r9, r10, r11, r12, r13, r14, r15, r16, r17, r18, r19, r20, r21, r22, r23, r24, r25, r26, r27, r28⟩ => ?_, ?_⟩
    · simp [After, Region.binds] at hA
      have e0 := hσ 5 (by simp)
      simp only [List.getElem?_toArray] at e0
      refine stepG_on 23 42 rfl rfl (r23 (by first | exact hA | exact hA.1 | exact hA.2 | exact hA.2.1 | exact hA.2.2 | exact hA.2.2.1)) ha fun K hK => ?_
      go_simp
      refine hK _ _ ?_
      simp [mk, up]
      exact ⟨hR, r0, r1, r2, r3, r4, r5, r6, r7, r8, r9, r10, r11, r12, r13, r14, r15, r16, r17, r18, r19, r20, r21, r22, r23, r25, r26, r27, r28⟩
    refine ⟨fun done σ w' a hi hA hC ha hσ ⟨hR, r0, r1, r2, r3, r4, r5, r6, r7, r8, r9, r10, r11, r12, r13, r14, r15, r16, r17, r18, r19, r20, r21, r22, r23, r24, r25, r26, r27, r28⟩ => ?_, ?_⟩
    · simp [After, Region.binds] at hA
      have e0 := r24 (by first | exact hA | exact hA.1 | exact hA.2 | exact hA.2.1 | exact hA.2.2 | exact hA.2.2.1)
      refine stepG_on 23 42 rfl rfl (r23 (by first | exact hA | exact hA.1 | exact hA.2 | exact hA.2.1 | exact hA.2.2 | exact hA.2.2.1)) ha fun K hK => ?_
      go_simp
      refine (num_any w' 110).mono ?_
      rintro e w2 ⟨rfl, rfl⟩
      refine hK _ _ ?_
      simp [mk, up]
      exact ⟨hR, r0, r1, r2, r3, r4, r5, r6, r7, r8, r9, r10, r11, r12, r13, r14, r15, r16, r17, r18, r19, r20, r21, r22, r23, r24, r26, r27, r28⟩
    refine ⟨fun done σ w' a hi hA hC ha hσ ⟨hR, r0, r1, r2, r3, r4, r5, r6, r7, r8, r9, r10, r11, r12, r13, r14, r15, r16, r17, r18, r19, r20, r21, r22, r23, r24, r25, r26, r27, r28⟩ => ?_, ?_⟩
    · simp [After, Region.binds] at hA
      have e0 := r25 (by first | exact hA | exact hA.1 | exact hA.2 | exact hA.2.1 | exact hA.2.2 | exact hA.2.2.1)
      refine stepG_on 23 42 rfl rfl (r23 (by first | exact hA | exact hA.1 | exact hA.2 | exact hA.2.1 | exact hA.2.2 | exact hA.2.2.1)) ha fun K hK => ?_
      go_simp
      refine hK _ _ ?_
      simp [mk, up]
      exact ⟨hR, r0, r1, r2, r3, r4, r5, r6, r7, r8, r9, r10, r11, r12, r13, r14, r15, r16, r17, r18, r19, r20, r21, r22, r23, r24, r25, r27, r28⟩
    refine ⟨fun done σ w' a hi hA hC ha hσ ⟨hR, r0, r1, r2, r3, r4, r5, r6, r7, r8, r9, r10, r11, r12, r13, r14, r15, r16, r17, r18, r19, r20, r21, r22, r23, r24, r25, r26, r27, r28⟩ => ?_, ?_⟩
    · simp [After, Region.binds] at hA
      have e0 := r23 (by first | exact hA | exact hA.1 | exact hA.2 | exact hA.2.1 | exact hA.2.2 | exact hA.2.2.1)
      have e1 := r26 (by first | exact hA | exact hA.1 | exact hA.2 | exact hA.2.1 | exact hA.2.2 | exact hA.2.2.1)
      refine stepG_plain rfl fun K hK => ?_
      go_simp
      refine hK _ _ ?_
      simp [mk, up]
      exact ⟨hR, r0, r1, r2, r3, r4, r5, r6, r7, r8, r9, r10, r11, r12, r13, r14, r15, r16, r17, r18, r19, r20, r21, r22, r23, r24, r25, r26, r28⟩
    refine ⟨fun done σ w' a hi hA hC ha hσ ⟨hR, r0, r1, r2, r3, r4, r5, r6, r7, r8, r9, r10, r11, r12, r13, r14, r15, r16, r17, r18, r19, r20, r21, r22, r23, r24, r25, r26, r27, r28⟩ => ?_, trivial⟩
    · simp [After, Region.binds] at hA
      have e0 := r27 (by first | exact hA | exact hA.1 | exact hA.2 | exact hA.2.1 | exact hA.2.2 | exact hA.2.2.1)
      refine stepG_plain rfl fun K hK => ?_
      go_simp
      refine hK _ _ ?_
      simp [mk, up]
      exact ⟨hR, r0, r1, r2, r3, r4, r5, r6, r7, r8, r9, r10, r11, r12, r13, r14, r15, r16, r17, r18, r19, r20, r21, r22, r23, r24, r25, r26, r27⟩
  · rintro done σ w' hall hσ ⟨hR, r0, r1, r2, r3, r4, r5, r6, r7, r8, r9, r10, r11, r12, r13, r14, r15, r16, r17, r18, r19, r20, r21, r22, r23, r24, r25, r26, r27, r28⟩
    have h28 := r28 (hall 28 (by simp))
    simp only [putF, List.foldl_cons, List.foldl_nil, Act.put, List.setIfInBounds_toArray, List.set_cons_succ, List.set_cons_zero]
    rw [h28]
    clear hσ r0 r1 r2 r3 r4 r5 r6 r7 r8 r9 r10 r11 r12 r13 r14 r15 r16 r17 r18 r19 r20 r21 r22 r23 r24 r25 r26 r27 r28 hall h28
    have HR := hd hR
    clear hR
    go_wp2_with fail
    go_ret
    exact ⟨rfl, HBW.out.trans (HR.out.mono HBW.out.size)⟩

theorem works_any (w : World) : Calls Try.prog 15 #[] w fun e w' => e = .returned (.bool true) ∧ Below w.heap.size w w' :=
  works_gen w _ rfl (sha_length _) abc8

end Go.Proofs.Ytolboolbapbniaa
