/- The digest of a text: the program's Parse. -/
import Derived.Test.YtolboolbapbniaaDigit
namespace Go.Proofs.Ytolboolbapbniaa
open Go.RowKit Sp

/-- Are the first k pairs of digits digits? -/
def okB (s : List UInt8) (k : Nat) : Bool := (List.range k).all fun i => decide (0 ≤ digI (bg s (2 * i))) && decide (0 ≤ digI (bg s (2 * i + 1)))
def pb (s : List UInt8) (i : Nat) : UInt8 := UInt8.ofNat ((digI (bg s (2 * i))).toNat * 16 + (digI (bg s (2 * i + 1))).toNat)
/-- The digest when k pairs are read. -/
def pk (s : List UInt8) (k : Nat) : List UInt8 := (List.range k).map (pb s) ++ List.replicate (32 - k) 0
theorem pk_length (s : List UInt8) (k : Nat) (h : k ≤ 32) : (pk s k).length = 32 := by simp [pk]; omega
theorem pk_set (s : List UInt8) (k : Nat) (h : k < 32) : (pk s k).set k (pb s k) = pk s (k + 1) := by
  unfold pk
  rw [List.set_append_right _ _ (by simp), show 32 - k = (32 - (k + 1)) + 1 by omega, List.replicate_succ]
  simp [List.range_succ]
theorem okB_succ (s : List UInt8) (k : Nat) : okB s (k + 1) = (okB s k && (decide (0 ≤ digI (bg s (2 * k))) && decide (0 ≤ digI (bg s (2 * k + 1))))) := by
  unfold okB
  rw [List.range_succ, List.all_append]; simp
theorem okB_mono (s : List UInt8) (k : Nat) : ∀ n, k ≤ n → okB s k = false → okB s n = false := by
  intro n hn h
  induction hn with
  | refl => exact h
  | step _ ih => rw [okB_succ, ih]; rfl
/-- **The digest of a text, and no error; or none, and the error's number.** -/
def parseV (s : List UInt8) : Value :=
  if s.length = 64 ∧ okB s 32 = true then .tuple #[.agg (ucs (pk s 32)), .int .i64 0] else .tuple #[.agg (ucs (List.replicate 32 0)), .int .i64 110]
theorem parse_len (s : List UInt8) (h : s.length ≠ 64) : parseV s = .tuple #[.agg (ucs (List.replicate 32 0)), .int .i64 110] := if_neg fun e => h e.1
theorem parse_no (s : List UInt8) (k : Nat) (hk : k ≤ 32) (h : okB s k = false) : parseV s = .tuple #[.agg (ucs (List.replicate 32 0)), .int .i64 110] :=
  if_neg fun e => by rw [okB_mono s k 32 hk h] at e; exact absurd e.2 (by simp)
theorem parse_yes (s : List UInt8) (h : s.length = 64) (h2 : okB s 32 = true) : parseV s = .tuple #[.agg (ucs (pk s 32)), .int .i64 0] := if_pos ⟨h, h2⟩

theorem str_index (s : List UInt8) (i : Nat) (h : i < s.length) (W : World) : (Instr.index 9 (.string ⟨s.toArray⟩) (.int .i64 (i : Int))).run Try.prog W = .ok (.int .u8 (ib (bg s i))) W := by
  have hsz : (⟨s.toArray⟩ : ByteArray).size = s.length := by simp [ByteArray.size]
  rw [run_index_string W _ _ _ _ (by kernel_rfl), dif_pos (by rw [hsz]; omega)]
  congr 2
  unfold ib bg
  congr 1
  simp [ByteArray.getElem_eq_getElem_data, List.getD_eq_getElem?_getD, h]

theorem or_dig : ∀ a : Nat, a < 16 → ∀ b : Nat, b < 16 → bits .or .i64 ((a : Int) * 16) (b : Int) % 256 = ((UInt8.ofNat (a * 16 + b)).toNat : Int) := by decide +kernel

/-- A slice of the sixteen digits, from block B on. -/
def HexAt (B : Nat) (w : World) (v : Value) : Prop := ∃ g fr, v = .slice (some ⟨g, 0, none⟩) 16 16 ∧ B ≤ g ∧ w.heap[g]? = some (.cells (ucs hexes) 5 fr)
theorem HexAt.new {B : Nat} {w : World} (h : B ≤ w.heap.size) : HexAt B (w.alloc (.cells (ucs hexes) 5)) (.slice (some ⟨w.heap.size, 0, none⟩) 16 16) := ⟨_, _, rfl, h, heap_alloc_new w _⟩
theorem HexAt.alloc {B : Nat} {w : World} {v : Value} (h : HexAt B w v) (q : Obj) : HexAt B (w.alloc q) v := by
  obtain ⟨g, fr, h1, h2, h3⟩ := h
  exact ⟨g, fr, h1, h2, blk_alloc h3 q⟩
theorem HexAt.mark {B : Nat} {w w' : World} {v : Value} {g : Nat} {fr : Nat × Nat} (h : HexAt B w v) (hg : w.grownBy w' (some g)) (hc : w'.heap[g]? = some (.cells (ucs hexes) 5 fr)) : HexAt B w' v := by
  obtain ⟨g1, fr1, h1, h2, h3⟩ := h
  by_cases e : g1 = g
  · subst e; exact ⟨_, _, h1, h2, hc⟩
  · exact ⟨g1, fr1, h1, h2, (hg.block g1 (blk_lt h3) (fun e' => e (by simpa using e'))).trans h3⟩

/-- Two results, the first in memory. -/
theorem ret_row2 {P : Program} {T n : Nat} {fn : Func} {p q : Tmp} (h : fn.results = #[.cell p T, .tmp q]) (hT : arrT P T n = true) (tmps : Array Value) (w : World) (g o : Nat) (c : Array Value)
    (hp : tmps.getD p undef = .pointer (some ⟨g, o, none⟩)) (v : Value) (hq : tmps.getD q undef = v) (hs : sub? w g o n = some c) : (results fn tmps).run P w = .ok (.tuple #[.agg c, v]) w := by
  have hp' : tmps[p]?.getD undef = .pointer (some ⟨g, o, none⟩) := by simpa using hp
  have hq' : tmps[q]?.getD undef = v := by simpa using hq
  simp [results, h, hp', hq', asAddr, run_loadVar_sub hT w g o c hs]

attribute [local go_sem ↓] ldSt stSt ldD stD
attribute [local go_sem] run_ldA run_stA arrSt arrD loadX_at loadY_some storeX_at storeY_true wcs_size ones_wcs St.list_length ucs_size ones_ucs dg_length sha_length

set_option maxHeartbeats 4000000 in
set_option maxRecDepth 100000 in
theorem parse_any (w : World) (s : List UInt8) :
    Calls Try.prog 17 #[.string ⟨s.toArray⟩] w fun e w' => e = .returned (parseV s) ∧ Below w.heap.size w w' := by
  have hsz : (⟨s.toArray⟩ : ByteArray).size = s.length := by simp [ByteArray.size]
  have hrl : (List.replicate 32 (0 : UInt8)).length = 32 := List.length_replicate
  go_enter Try.func17, Try.ntmps17
  go_upto_region 1 with (fail)
  go_cut [4] (fun d wx => d = .pointer (some ⟨w.heap.size + 1, 0, none⟩) ∧ wx.heap[w.heap.size]? = some (.cells (ucs (List.replicate 32 0)) 23 (0, 0)) ∧ wx.heap[w.heap.size + 1]? = some (.cells (ucs (List.replicate 32 0)) 23 (0, 0)) ∧ wx.heap.size = w.heap.size + 2 ∧ Below w.heap.size w wx)
  case first =>
    go_wp2_with fail
    go_meet
    exact ⟨by first | rfl | simp, blk_alloc (heap_alloc_new w _) _, blk_new1 w _ _, by simp, ((Below.refl _ _).alloc (Nat.le_refl _) _).alloc (by simp) _⟩
  case rest =>
    obtain ⟨rfl, hD, hE, hz, hB⟩ := hcut
    have HD := hd hD
    have HE := hd hE
    have HB := hd hB
    clear hD hE hB
    by_cases h64 : s.length = 64
    · have hsz64 : (⟨s.toArray⟩ : ByteArray).size = 64 := by rw [hsz, h64]
      have H64 := hd h64
      clear hsz h64
      go_upto_block 0 with (fail)
      go_wp2_with fail
      go_loopw [12] (fun i wr => ∃ k : Nat, k ≤ 32 ∧ i = .int .i64 k ∧ wr.heap[w.heap.size]? = some (.cells (ucs (List.replicate 32 0)) 23 (0, 0)) ∧ wr.heap[w.heap.size + 1]? = some (.cells (ucs (pk s k)) 23 (0, 0)) ∧ Below w.heap.size w wr ∧ okB s k = true) (fun i _ => 32 - (intOf i).toNat)
      case atStart => exact ⟨0, by omega, rfl, HD.out, HE.out, HB.out, rfl⟩
      case round =>
        obtain ⟨k, hk, rfl, hd1, he1, hb1, hok⟩ := hrel
        clear HD HE HB
        have HD := hd hd1
        have HE := hd he1
        have HB := hd hb1
        have HOK := hd hok
        clear hd1 he1 hb1 hok
        by_cases hlt : k < 32
        · have HI0 : Hid (∀ W, (Instr.index 9 (.string ⟨s.toArray⟩) (.int .i64 (2 * (k : Int)))).run Try.prog W = .ok (.int .u8 (ib (bg s (2 * k)))) W) := hd (fun W => str_index s (2 * k) (by rw [H64.out]; omega) W)
          have HI1 : Hid (∀ W, (Instr.index 9 (.string ⟨s.toArray⟩) (.int .i64 (2 * (k : Int) + 1))).run Try.prog W = .ok (.int .u8 (ib (bg s (2 * k + 1)))) W) := hd (fun W => str_index s (2 * k + 1) (by rw [H64.out]; omega) W)
          have e2k : IntKind.i64.wrap (2 * (k : Int)) = 2 * (k : Int) := IntWalk.i64_in _ (by omega)
          have e2k1 : IntKind.i64.wrap (2 * (k : Int) + 1) = 2 * (k : Int) + 1 := IntWalk.i64_in _ (by omega)
          go_upto_region 7 with (fail)
          refine wp_region_inv [15, 16, 17, 18, 19, 20, 21, 22, 23, 24, 25, 26, 27, 28, 29, 6, 7] (fun done σ w' => Below wr.heap.size wr w' ∧
            (done 0 = true → HexAt wr.heap.size w' (σ 15)) ∧
            (done 1 = true → HexAt wr.heap.size w' (σ 16)) ∧
            (done 2 = true → σ 17 = Value.string ⟨s.toArray⟩) ∧
            (done 3 = true → σ 18 = .int .i64 k) ∧
            (done 4 = true → σ 19 = .int .i64 (2 * (k : Int))) ∧
            (done 5 = true → σ 20 = .int .u8 (ib (bg s (2 * k)))) ∧
            (done 6 = true → σ 21 = .int .i64 (digI (bg s (2 * k)))) ∧
            (done 7 = true → HexAt wr.heap.size w' (σ 22)) ∧
            (done 8 = true → HexAt wr.heap.size w' (σ 23)) ∧
            (done 9 = true → σ 24 = Value.string ⟨s.toArray⟩) ∧
            (done 10 = true → σ 25 = .int .i64 k) ∧
            (done 11 = true → σ 26 = .int .i64 (2 * (k : Int))) ∧
            (done 12 = true → σ 27 = .int .i64 (2 * (k : Int) + 1)) ∧
            (done 13 = true → σ 28 = .int .u8 (ib (bg s (2 * k + 1)))) ∧
            (done 14 = true → σ 29 = .int .i64 (digI (bg s (2 * k + 1)))) ∧
            (done 15 = true → σ 6 = .int .i64 (digI (bg s (2 * k)))) ∧
            (done 16 = true → σ 7 = .int .i64 (digI (bg s (2 * k + 1))))) (by kernel_rfl) (by kernel_rfl) ?_ ?_ ?_
          · simp
            exact Below.drew (Below.refl _ _)
          · refine ⟨fun done σ w' a hi hA hC ha hσ ⟨hR, r0, r1, r2, r3, r4, r5, r6, r7, r8, r9, r10, r11, r12, r13, r14, r15, r16⟩ => ?_, ?_⟩
            · refine stepG_plain rfl fun K hK => ?_
              go_simp
              refine hK _ _ ?_
              simp [mk, up]
              exact ⟨hR.alloc hR.size _, HexAt.new hR.size, fun h => (r1 h).alloc _, r2, r3, r4, r5, r6, fun h => (r7 h).alloc _, fun h => (r8 h).alloc _, r9, r10, r11, r12, r13, r14, r15, r16⟩
            refine ⟨fun done σ w' a hi hA hC ha hσ ⟨hR, r0, r1, r2, r3, r4, r5, r6, r7, r8, r9, r10, r11, r12, r13, r14, r15, r16⟩ => ?_, ?_⟩
            · simp [After, Region.binds] at hA
              obtain ⟨g, fr, e0, hBg, h1⟩ := r0 hA
              obtain ⟨w3, fr3, e1, h3, hg3⟩ := run_mark (P := Try.prog) (t := 33) (e := 5) (by kernel_rfl) (by kernel_rfl) w' g 16 16 _ _ _ h1
              have H3 := hd h3
              have HG3 := hd hg3
              have H1 := hd h1
              clear h1 h3 hg3
              refine stepG_plain rfl fun K hK => ?_
              go_simp
              refine hK _ _ ?_
              simp [mk, up]
              exact ⟨hR.grown HG3.out hR.size (fun j e => by cases e; exact hBg), (fun h => (r0 h).mark HG3.out H3.out), ⟨g, fr3, rfl, hBg, H3.out⟩, r2, r3, r4, r5, r6, (fun h => (r7 h).mark HG3.out H3.out), (fun h => (r8 h).mark HG3.out H3.out), r9, r10, r11, r12, r13, r14, r15, r16⟩
            refine ⟨fun done σ w' a hi hA hC ha hσ ⟨hR, r0, r1, r2, r3, r4, r5, r6, r7, r8, r9, r10, r11, r12, r13, r14, r15, r16⟩ => ?_, ?_⟩
            · have e0 := hσ 0 (by simp)
              simp only [List.getElem?_toArray] at e0
              refine stepG_plain rfl fun K hK => ?_
              go_simp
              refine hK _ _ ?_
              simp [mk, up]
              exact ⟨hR, r0, r1, r3, r4, r5, r6, r7, r8, r9, r10, r11, r12, r13, r14, r15, r16⟩
            refine ⟨fun done σ w' a hi hA hC ha hσ ⟨hR, r0, r1, r2, r3, r4, r5, r6, r7, r8, r9, r10, r11, r12, r13, r14, r15, r16⟩ => ?_, ?_⟩
            · have e0 := hσ 5 (by simp)
              simp only [List.getElem?_toArray] at e0
              refine stepG_plain rfl fun K hK => ?_
              go_simp
              refine hK _ _ ?_
              simp [mk, up]
              exact ⟨hR, r0, r1, r2, r4, r5, r6, r7, r8, r9, r10, r11, r12, r13, r14, r15, r16⟩
            refine ⟨fun done σ w' a hi hA hC ha hσ ⟨hR, r0, r1, r2, r3, r4, r5, r6, r7, r8, r9, r10, r11, r12, r13, r14, r15, r16⟩ => ?_, ?_⟩
            · simp [After, Region.binds] at hA
              have e0 := r3 hA
              refine stepG_plain rfl fun K hK => ?_
              go_simp
              refine hK _ _ ?_
              simp [mk, up]
              exact ⟨hR, r0, r1, r2, r3, r5, r6, r7, r8, r9, r10, r11, r12, r13, r14, r15, r16⟩
            refine ⟨fun done σ w' a hi hA hC ha hσ ⟨hR, r0, r1, r2, r3, r4, r5, r6, r7, r8, r9, r10, r11, r12, r13, r14, r15, r16⟩ => ?_, ?_⟩
            · simp [After, Region.binds] at hA
              have e0 := r2 hA.1
              have e1 := r4 hA.2
              have e2 := HI0.out
              refine stepG_plain rfl fun K hK => ?_
              go_simp
              refine hK _ _ ?_
              simp [mk, up]
              exact ⟨hR, r0, r1, r2, r3, r4, r6, r7, r8, r9, r10, r11, r12, r13, r14, r15, r16⟩
            refine ⟨fun done σ w' a hi hA hC ha hσ ⟨hR, r0, r1, r2, r3, r4, r5, r6, r7, r8, r9, r10, r11, r12, r13, r14, r15, r16⟩ => ?_, ?_⟩
            · simp [After, Region.binds] at hA
              obtain ⟨g, fr, e0, hBg, h1⟩ := r1 hA.1
              have e1 := r5 hA.2
              have HC := hd (index_any w' g (bg s (2 * k)) fr h1)
              refine stepG_plain rfl fun K hK => ?_
              go_simp
              refine HC.out.mono ?_
              rintro e w2 ⟨rfl, rfl⟩
              refine hK _ _ ?_
              simp [mk, up]
              exact ⟨hR, r0, r1, r2, r3, r4, r5, r7, r8, r9, r10, r11, r12, r13, r14, r15, r16⟩
            refine ⟨fun done σ w' a hi hA hC ha hσ ⟨hR, r0, r1, r2, r3, r4, r5, r6, r7, r8, r9, r10, r11, r12, r13, r14, r15, r16⟩ => ?_, ?_⟩
            · refine stepG_plain rfl fun K hK => ?_
              go_simp
              refine hK _ _ ?_
              simp [mk, up]
              exact ⟨hR.alloc hR.size _, fun h => (r0 h).alloc _, fun h => (r1 h).alloc _, r2, r3, r4, r5, r6, HexAt.new hR.size, fun h => (r8 h).alloc _, r9, r10, r11, r12, r13, r14, r15, r16⟩
            refine ⟨fun done σ w' a hi hA hC ha hσ ⟨hR, r0, r1, r2, r3, r4, r5, r6, r7, r8, r9, r10, r11, r12, r13, r14, r15, r16⟩ => ?_, ?_⟩
            · simp [After, Region.binds] at hA
              obtain ⟨g, fr, e0, hBg, h1⟩ := r7 hA
              obtain ⟨w3, fr3, e1, h3, hg3⟩ := run_mark (P := Try.prog) (t := 33) (e := 5) (by kernel_rfl) (by kernel_rfl) w' g 16 16 _ _ _ h1
              have H3 := hd h3
              have HG3 := hd hg3
              have H1 := hd h1
              clear h1 h3 hg3
              refine stepG_plain rfl fun K hK => ?_
              go_simp
              refine hK _ _ ?_
              simp [mk, up]
              exact ⟨hR.grown HG3.out hR.size (fun j e => by cases e; exact hBg), (fun h => (r0 h).mark HG3.out H3.out), (fun h => (r1 h).mark HG3.out H3.out), r2, r3, r4, r5, r6, (fun h => (r7 h).mark HG3.out H3.out), ⟨g, fr3, rfl, hBg, H3.out⟩, r9, r10, r11, r12, r13, r14, r15, r16⟩
            refine ⟨fun done σ w' a hi hA hC ha hσ ⟨hR, r0, r1, r2, r3, r4, r5, r6, r7, r8, r9, r10, r11, r12, r13, r14, r15, r16⟩ => ?_, ?_⟩
            · have e0 := hσ 0 (by simp)
              simp only [List.getElem?_toArray] at e0
              refine stepG_plain rfl fun K hK => ?_
              go_simp
              refine hK _ _ ?_
              simp [mk, up]
              exact ⟨hR, r0, r1, r2, r3, r4, r5, r6, r7, r8, r10, r11, r12, r13, r14, r15, r16⟩
            refine ⟨fun done σ w' a hi hA hC ha hσ ⟨hR, r0, r1, r2, r3, r4, r5, r6, r7, r8, r9, r10, r11, r12, r13, r14, r15, r16⟩ => ?_, ?_⟩
            · have e0 := hσ 5 (by simp)
              simp only [List.getElem?_toArray] at e0
              refine stepG_plain rfl fun K hK => ?_
              go_simp
              refine hK _ _ ?_
              simp [mk, up]
              exact ⟨hR, r0, r1, r2, r3, r4, r5, r6, r7, r8, r9, r11, r12, r13, r14, r15, r16⟩
            refine ⟨fun done σ w' a hi hA hC ha hσ ⟨hR, r0, r1, r2, r3, r4, r5, r6, r7, r8, r9, r10, r11, r12, r13, r14, r15, r16⟩ => ?_, ?_⟩
            · simp [After, Region.binds] at hA
              have e0 := r10 hA
              refine stepG_plain rfl fun K hK => ?_
              go_simp
              refine hK _ _ ?_
              simp [mk, up]
              exact ⟨hR, r0, r1, r2, r3, r4, r5, r6, r7, r8, r9, r10, r12, r13, r14, r15, r16⟩
            refine ⟨fun done σ w' a hi hA hC ha hσ ⟨hR, r0, r1, r2, r3, r4, r5, r6, r7, r8, r9, r10, r11, r12, r13, r14, r15, r16⟩ => ?_, ?_⟩
            · simp [After, Region.binds] at hA
              have e0 := r11 hA
              refine stepG_plain rfl fun K hK => ?_
              go_simp
              refine hK _ _ ?_
              simp [mk, up]
              exact ⟨hR, r0, r1, r2, r3, r4, r5, r6, r7, r8, r9, r10, r11, r13, r14, r15, r16⟩
            refine ⟨fun done σ w' a hi hA hC ha hσ ⟨hR, r0, r1, r2, r3, r4, r5, r6, r7, r8, r9, r10, r11, r12, r13, r14, r15, r16⟩ => ?_, ?_⟩
            · simp [After, Region.binds] at hA
              have e0 := r9 hA.1
              have e1 := r12 hA.2
              have e2 := HI1.out
              refine stepG_plain rfl fun K hK => ?_
              go_simp
              refine hK _ _ ?_
              simp [mk, up]
              exact ⟨hR, r0, r1, r2, r3, r4, r5, r6, r7, r8, r9, r10, r11, r12, r14, r15, r16⟩
            refine ⟨fun done σ w' a hi hA hC ha hσ ⟨hR, r0, r1, r2, r3, r4, r5, r6, r7, r8, r9, r10, r11, r12, r13, r14, r15, r16⟩ => ?_, ?_⟩
            · simp [After, Region.binds] at hA
              obtain ⟨g, fr, e0, hBg, h1⟩ := r8 hA.1
              have e1 := r13 hA.2.1
              have HC := hd (index_any w' g (bg s (2 * k + 1)) fr h1)
              refine stepG_plain rfl fun K hK => ?_
              go_simp
              refine HC.out.mono ?_
              rintro e w2 ⟨rfl, rfl⟩
              refine hK _ _ ?_
              simp [mk, up]
              exact ⟨hR, r0, r1, r2, r3, r4, r5, r6, r7, r8, r9, r10, r11, r12, r13, r15, r16⟩
            refine ⟨fun done σ w' a hi hA hC ha hσ ⟨hR, r0, r1, r2, r3, r4, r5, r6, r7, r8, r9, r10, r11, r12, r13, r14, r15, r16⟩ => ?_, ?_⟩
            · simp [After, Region.binds] at hA
              have e0 := r6 hA.1
              refine stepG_plain rfl fun K hK => ?_
              go_simp
              refine hK _ _ ?_
              simp [mk, up]
              exact ⟨hR, r0, r1, r2, r3, r4, r5, r6, r7, r8, r9, r10, r11, r12, r13, r14, r16⟩
            refine ⟨fun done σ w' a hi hA hC ha hσ ⟨hR, r0, r1, r2, r3, r4, r5, r6, r7, r8, r9, r10, r11, r12, r13, r14, r15, r16⟩ => ?_, trivial⟩
            · simp [After, Region.binds] at hA
              have e0 := r14 hA.1
              refine stepG_plain rfl fun K hK => ?_
              go_simp
              refine hK _ _ ?_
              simp [mk, up]
              exact ⟨hR, r0, r1, r2, r3, r4, r5, r6, r7, r8, r9, r10, r11, r12, r13, r14, r15⟩
          · rintro done σ w' hall hσ ⟨hR, r0, r1, r2, r3, r4, r5, r6, r7, r8, r9, r10, r11, r12, r13, r14, r15, r16⟩
            have h15 := r15 (hall 15 (by simp))
            have h16 := r16 (hall 16 (by simp))
            simp only [putF, List.foldl_cons, List.foldl_nil, Act.put, List.setIfInBounds_toArray, List.set_cons_succ, List.set_cons_zero]
            rw [h15, h16]
            clear hσ r0 r1 r2 r3 r4 r5 r6 r7 r8 r9 r10 r11 r12 r13 r14 r15 r16 hall h15 h16 HI0 HI1
            have hD3 := (hR.block _ (blk_lt HD.out)).trans HD.out
            have hE3 := (hR.block _ (blk_lt HE.out)).trans HE.out
            have HB3 := hd (HB.out.trans (hR.mono HB.out.size))
            have hdlt : w.heap.size < w'.heap.size := blk_lt hD3
            have hcan := can_row (o := 0) (n := 32) hD3 (by simp [ucs_size])
            have hokS := okB_succ s k
            rw [HOK.out, Bool.true_and] at hokS
            have hpb : pb s k = UInt8.ofNat ((digI (bg s (2 * k))).toNat * 16 + (digI (bg s (2 * k + 1))).toNat) := rfl
            have hal := digI_lo (bg s (2 * k))
            have hah := digI_hi (bg s (2 * k))
            have hbl := digI_lo (bg s (2 * k + 1))
            have hbh := digI_hi (bg s (2 * k + 1))
            revert hokS hpb hal hah hbl hbh
            generalize digI (bg s (2 * k)) = a
            generalize digI (bg s (2 * k + 1)) = b
            intro hokS hpb hal hah hbl hbh
            have HD3 := hd hD3
            have HE3 := hd hE3
            clear hD3 hE3 hR
            have HP := hd hpb
            have HO := hd hokS
            clear hpb hokS
            by_cases ha0 : a < 0
            · have hno := hd (parse_no s (k + 1) (by omega) (by rw [HO.out]; simp; omega))
              go_wp2_with (refine wpList_built rfl 23 _ rfl (ucs (List.replicate 32 0)) (by kernel_rfl) ?_)
              have hrow := putSub_row (c := ucs (List.replicate 32 0)) HD3.out rfl
              refine bodyPost_ret (ret_row2 rfl (n := 32) (by kernel_rfl) _ _ w.heap.size 0 (ucs (List.replicate 32 0)) rfl _ rfl (sub_row hrow (by simp [ucs_size]))) rfl ⟨by rw [hno.out]; rfl, Below.putSub HB3.out (Nat.le_refl _)⟩
            · have ha1 : 0 ≤ a := by omega
              clear ha0
              by_cases hb0 : b < 0
              · have hno := hd (parse_no s (k + 1) (by omega) (by rw [HO.out]; simp; omega))
                go_wp2_with (refine wpList_built rfl 23 _ rfl (ucs (List.replicate 32 0)) (by kernel_rfl) ?_)
                have hrow := putSub_row (c := ucs (List.replicate 32 0)) HD3.out rfl
                refine bodyPost_ret (ret_row2 rfl (n := 32) (by kernel_rfl) _ _ w.heap.size 0 (ucs (List.replicate 32 0)) rfl _ rfl (sub_row hrow (by simp [ucs_size]))) rfl ⟨by rw [hno.out]; rfl, Below.putSub HB3.out (Nat.le_refl _)⟩
              · have hb1 : 0 ≤ b := by omega
                clear hb0
                have hcell := (blk_cell HE3.out k).trans (ucs_get _ _ (by rw [pk_length _ _ hk]; omega))
                have hf := blk_frozen HE3.out k
                have hval : bits BinOp.or IntKind.i64 (a * 16) b % 256 = ib (pb s k) := by
                  obtain ⟨an, rfl⟩ := Int.eq_ofNat_of_zero_le ha1
                  obtain ⟨bn, rfl⟩ := Int.eq_ofNat_of_zero_le hb1
                  rw [HP.out]
                  exact or_dig an (by omega) bn (by omega)
                have hset := blk_set HE3.out k (.int .u8 (ib (pb s k)))
                rw [ucs_set, pk_set s k hlt, ← hval] at hset
                have HSET := hd hset
                clear hset hval
                go_wp2_with fail
                go_roundw
                case rel => exact ⟨k + 1, by omega, by go_num, blk_far HD3.out (by show w.heap.size ≠ w.heap.size + 1; omega) _, HSET.out, HB3.out.setCell (by show w.heap.size ≤ w.heap.size + 1; omega) _, by rw [HO.out]; simp; omega⟩
                case measure => simp [intOf]; omega
        · obtain rfl : k = 32 := by omega
          have hsub := sub_row (n := 32) HE.out (by rw [ucs_size, pk_length _ _ hk])
          have hcan := can_row (o := 0) (n := 32) HD.out (by simp [ucs_size])
          have hpl : (pk s 32).length = 32 := pk_length s 32 hk
          have hyes := hd (parse_yes s H64.out HOK.out)
          go_wp2_with fail
          have hrow := putSub_row (c := ucs (pk s 32)) HD.out (by simp [ucs_size, hpl])
          refine bodyPost_ret (ret_row2 rfl (n := 32) (by kernel_rfl) _ _ w.heap.size 0 (ucs (pk s 32)) rfl _ rfl (sub_row hrow (by simp [ucs_size, hpl]))) rfl ⟨by rw [hyes.out]; rfl, Below.putSub HB.out (Nat.le_refl _)⟩
    · have hno := hd (parse_len s h64)
      have h64I : ((s.length : Int) != 64) = true := by simp; omega
      have hsub := sub_row (n := 32) HE.out (by simp [ucs_size])
      have hcan := can_row (o := 0) (n := 32) HD.out (by simp [ucs_size])
      clear h64
      go_wp2_with fail
      have hrow := putSub_row (c := ucs (List.replicate 32 0)) HD.out rfl
      refine bodyPost_ret (ret_row2 rfl (n := 32) (by kernel_rfl) _ _ w.heap.size 0 (ucs (List.replicate 32 0)) rfl _ rfl (sub_row hrow (by simp [ucs_size]))) rfl ⟨by rw [hno.out]; rfl, Below.putSub HB.out (Nat.le_refl _)⟩

end Go.Proofs.Ytolboolbapbniaa
