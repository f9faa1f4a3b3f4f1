/- Copy is another hash of the same. -/
import Derived.Test.YtolboolbapbniaaWrite
namespace Go.Proofs.Ytolboolbapbniaa
open Go.RowKit Sp

/-- A slice that reads as these bytes. -/
def SlAt (w : World) (v : Value) (lf : List UInt8) (m : Nat) : Prop := ∃ A c, v = .slice A m c ∧ m ≤ c ∧ c ≤ maxLen ∧ (A = none → m = 0 ∧ c = 0) ∧ Cl w A (bcs lf) ∧ ∀ a, A = some a → a.block < w.heap.size
def AggAt (w : World) (v : Value) (s : St) (lf : List UInt8) (m n : Nat) : Prop := ∃ A c, v = .agg (hcs s A m c n) ∧ SlAt w (.slice A m c) lf m
def NewAt (w0 w : World) (v : Value) (s : St) (lf : List UInt8) (m n : Nat) : Prop := ∃ hb, v = .pointer (some ⟨hb, 0, none⟩) ∧ w0.heap.size ≤ hb ∧ HcAt w hb s lf m n
theorem SlAt.own {w : World} {base e m : Nat} {v : Value} {lf : List UInt8} (h : w.ownsRow base e 1 v m (bcs lf)) : SlAt w v lf m := by
  obtain ⟨A, c, h1, h2, h3, h4, h5, h6⟩ := own_cl h
  exact ⟨A, c, h1, h2, h3, h6, h4, fun a e => (h5 a e).2⟩
theorem SlAt.below {w w' : World} {v : Value} {lf : List UInt8} {m : Nat} (h : SlAt w v lf m) (hb : Below w.heap.size w w') : SlAt w' v lf m := by
  obtain ⟨A, c, h1, h2, h3, h4, h5, h6⟩ := h
  exact ⟨A, c, h1, h2, h3, h4, h5.below hb, fun a e => Nat.lt_of_lt_of_le (h6 a e) hb.size⟩
theorem AggAt.below {w w' : World} {v : Value} {s : St} {lf : List UInt8} {m n : Nat} (h : AggAt w v s lf m n) (hb : Below w.heap.size w w') : AggAt w' v s lf m n := by
  obtain ⟨A, c, h1, h2⟩ := h
  exact ⟨A, c, h1, h2.below hb⟩
theorem HcAt.keep {w w' : World} {g : Nat} {s : St} {lf : List UInt8} {m n : Nat} (h : HcAt w g s lf m n) (hs : w.heap.size ≤ w'.heap.size) (hk : w'.heap[g]? = w.heap[g]?) (hb : ∀ k o, k ≠ g → w.heap[k]? = some o → o.isCells = true → w'.heap[k]? = some o) : HcAt w' g s lf m n := by
  obtain ⟨A, c, h1, h2, h3, h4, h5, h6⟩ := h
  refine ⟨A, c, hk.trans h1, fun j u hj => ?_, fun a e => ⟨(h3 a e).1, Nat.lt_of_lt_of_le (h3 a e).2 hs⟩, h4, h5, h6⟩
  obtain ⟨a, ha, hc⟩ := h2 j u hj
  obtain ⟨o, ho, hoc⟩ := cells_of_cell hc
  exact ⟨a, ha, (World.cell?_of_block ((hb _ o (by rw [add_block]; exact (h3 a ha).1) ho hoc).trans ho.symm)).trans hc⟩
theorem HcAt.below {w w' : World} {g : Nat} {s : St} {lf : List UInt8} {m n : Nat} (h : HcAt w g s lf m n) (hb : Below w.heap.size w w') : HcAt w' g s lf m n := by
  have hg : g < w.heap.size := by obtain ⟨A, c, h1, _⟩ := h; exact blk_lt h1
  exact h.keep hb.size (hb.block g hg) fun k o _ ho _ => (hb.block k (blk_lt ho)).trans ho
theorem NewAt.below {w0 w w' : World} {v : Value} {s : St} {lf : List UInt8} {m n : Nat} (h : NewAt w0 w v s lf m n) (hb : Below w.heap.size w w') : NewAt w0 w' v s lf m n := by
  obtain ⟨g, h1, h2, h3⟩ := h
  exact ⟨g, h1, h2, h3.below hb⟩
theorem NewAt.new {w0 w : World} {s : St} {A : Option Addr} {c : Nat} {lf : List UInt8} {m n : Nat} (h0 : Below w0.heap.size w0 w) (h : SlAt w (.slice A m c) lf m) : NewAt w0 (w.alloc (.cells (hcs s A m c n) 69)) (.pointer (some ⟨w.heap.size, 0, none⟩)) s lf m n := by
  obtain ⟨A', c', h1, h2, h3, h4, h5, h6⟩ := h
  cases h1
  exact ⟨_, rfl, h0.size, A, c, heap_alloc_new w _, h5.alloc _, fun a e => ⟨Nat.ne_of_lt (h6 a e), by have := h6 a e; simp; omega⟩, h4, h2, h3⟩

theorem ev_tmp {a : Act} {σ : Nat → Value} {t : Nat} (ha : ∀ t, a.tmps[t]?.getD undef = σ t) : a.eval (.tmp t) = σ t := by
  rw [← ha t]
  simp [Act.eval]
theorem oper_built {P : Program} {o : Oper} {a : Act} {w : World} {K : Act → World → Prop} {Q : Exit → Act → World → Prop} (t : TypeId) (parts : Array (Nat × Operand)) (ho : o.op = .build t parts)
    (cells : Array Value) (hf : P.built t (parts.map fun (i, x) => (i, a.eval x)).toList = some cells) (h : K (a.put o.dst (.agg cells)) w) : o.wp P a w K Q :=
  wp_build t parts ho (by rw [hf]; rfl) (by rw [hf]; exact h)
theorem built_hash (s : St) (A : Option Addr) (m c n : Nat) : Try.prog.built 69 [(0, .agg (wcs s.list)), (1, .slice A m c), (2, .int .i64 n), (3, .bool true)] = some (hcs s A m c n) := by kernel_rfl

attribute [local go_sem ↓] ldSt stSt
attribute [local go_sem] run_ldA run_stA arrSt loadX_at loadY_some storeX_at storeY_true wcs_size ones_wcs St.list_length

set_option maxHeartbeats 1000000 in
set_option maxRecDepth 100000 in
theorem copy_any (w : World) (hb : Nat) (l : List UInt8) (h : HashAt w hb l) :
    Calls Try.prog 30 #[.pointer (some ⟨hb, 0, none⟩)] w fun e w' => ∃ g, e = .returned (.pointer (some ⟨g, 0, none⟩)) ∧ HashAt w' g l ∧ w.heap.size ≤ g ∧ Below w.heap.size w w' := by
  obtain ⟨L, cL, hh, hL, hLb, hL0, hLc, hLm⟩ := h
  have h63 := left_lt l
  obtain ⟨c8, c9, c10, hfz⟩ := hcs_cells hh
  have hs0 : sub? w hb 0 8 = some (wcs (stOf l).list) := sub_head hh (by simp [wcs_size, St.list_length])
  have hblt : hb < w.heap.size := blk_lt hh
  have HL := hd hL
  have HL0 := hd hL0
  clear hh hL hL0 hLb
  unfold HashAt
  revert c8 c9 hs0 h63 hLc
  obtain ⟨s, hs⟩ : ∃ s, stOf l = s := ⟨_, rfl⟩
  obtain ⟨r, hr⟩ : ∃ r, Sp.leftOf l = r := ⟨_, rfl⟩
  obtain ⟨nl, hnl⟩ : ∃ nl, l.length = nl := ⟨_, rfl⟩
  rw [hs, hr, hnl]
  rw [hr] at HL HL0
  obtain ⟨nr, hnr⟩ : ∃ nr, r.length = nr := ⟨_, rfl⟩
  rw [hnr]
  rw [hnr] at HL0
  intro hLc h63 c8 c9 hs0
  have HS : HoldS 8 hb 0 (wcs s.list) w := ⟨hs0, hblt⟩
  have hnn := fun (W : World) (h : Below w.heap.size w W) => none_some W hb ((h.cell (p := ⟨hb, 10, none⟩) hblt).trans c10)
  clear hs hr hnl hs0
  go_enter Try.func30, Try.ntmps30
  go_upto_region 3 with (go_at_call 35; refine (none_some _ _ c10).mono ?_; rintro e w' ⟨rfl, rfl⟩)
  refine wp_region_inv [5, 6, 7, 8, 9, 10, 11, 12, 13, 14, 15, 16, 17, 18, 19, 2] (fun done σ w' => Below w.heap.size w w' ∧
    (done 0 = true → σ 5 = Value.pointer (some ⟨hb, 0, none⟩)) ∧
    (done 1 = true → σ 6 = Value.pointer (some ⟨hb, 0, none⟩)) ∧
    (done 2 = true → σ 7 = Value.pointer (some ⟨hb, 0, none⟩)) ∧
    (done 3 = true → σ 8 = .agg (wcs s.list)) ∧
    (done 4 = true → σ 9 = Value.pointer (some ⟨hb, 0, none⟩)) ∧
    (done 5 = true → σ 10 = Value.pointer (some ⟨hb, 0, none⟩)) ∧
    (done 6 = true → σ 11 = Value.pointer (some ⟨hb, 8, none⟩)) ∧
    (done 7 = true → σ 12 = .slice L nr cL) ∧
    (done 8 = true → SlAt w' (σ 13) r nr) ∧
    (done 9 = true → σ 14 = Value.pointer (some ⟨hb, 0, none⟩)) ∧
    (done 10 = true → σ 15 = Value.pointer (some ⟨hb, 0, none⟩)) ∧
    (done 11 = true → σ 16 = Value.pointer (some ⟨hb, 9, none⟩)) ∧
    (done 12 = true → σ 17 = .int .i64 nl) ∧
    (done 13 = true → AggAt w' (σ 18) s r nr nl) ∧
    (done 14 = true → NewAt w w' (σ 19) s r nr nl) ∧
    (done 15 = true → NewAt w w' (σ 2) s r nr nl)) (by kernel_rfl) (by kernel_rfl) ?_ ?_ ?_
  · simp
    exact Below.drew (Below.refl _ _)
  · refine ⟨fun done σ w' a hi hA hC ha hσ ⟨hR, r0, r1, r2, r3, r4, r5, r6, r7, r8, r9, r10, r11, r12, r13, r14, r15⟩ => ?_, ?_⟩
    · have e0 := hσ 0 (by simp)
      simp only [List.getElem?_toArray] at e0
      refine stepG_plain rfl fun K hK => ?_
      go_simp
      refine hK _ _ ?_
      simp [mk, up]
      exact ⟨hR, r1, r2, r3, r4, r5, r6, r7, r8, r9, r10, r11, r12, r13, r14, r15⟩
    refine ⟨fun done σ w' a hi hA hC ha hσ ⟨hR, r0, r1, r2, r3, r4, r5, r6, r7, r8, r9, r10, r11, r12, r13, r14, r15⟩ => ?_, ?_⟩
    · simp [After, Region.binds] at hA
      have e0 := r0 hA
      refine stepG_plain rfl fun K hK => ?_
      go_simp
      refine hK _ _ ?_
      simp [mk, up]
      exact ⟨hR, r0, r2, r3, r4, r5, r6, r7, r8, r9, r10, r11, r12, r13, r14, r15⟩
    refine ⟨fun done σ w' a hi hA hC ha hσ ⟨hR, r0, r1, r2, r3, r4, r5, r6, r7, r8, r9, r10, r11, r12, r13, r14, r15⟩ => ?_, ?_⟩
    · simp [After, Region.binds] at hA
      have e0 := r1 hA
      refine stepG_plain rfl fun K hK => ?_
      go_simp
      refine hK _ _ ?_
      simp [mk, up]
      exact ⟨hR, r0, r1, r3, r4, r5, r6, r7, r8, r9, r10, r11, r12, r13, r14, r15⟩
    refine ⟨fun done σ w' a hi hA hC ha hσ ⟨hR, r0, r1, r2, r3, r4, r5, r6, r7, r8, r9, r10, r11, r12, r13, r14, r15⟩ => ?_, ?_⟩
    · simp [After, Region.binds] at hA
      have e0 := r2 hA
      have e1 := (HS.below hR).sub
      refine stepG_plain rfl fun K hK => ?_
      go_simp
      refine hK _ _ ?_
      simp [mk, up]
      exact ⟨hR, r0, r1, r2, r4, r5, r6, r7, r8, r9, r10, r11, r12, r13, r14, r15⟩
    refine ⟨fun done σ w' a hi hA hC ha hσ ⟨hR, r0, r1, r2, r3, r4, r5, r6, r7, r8, r9, r10, r11, r12, r13, r14, r15⟩ => ?_, ?_⟩
    · have e0 := hσ 0 (by simp)
      simp only [List.getElem?_toArray] at e0
      refine stepG_plain rfl fun K hK => ?_
      go_simp
      refine hK _ _ ?_
      simp [mk, up]
      exact ⟨hR, r0, r1, r2, r3, r5, r6, r7, r8, r9, r10, r11, r12, r13, r14, r15⟩
    refine ⟨fun done σ w' a hi hA hC ha hσ ⟨hR, r0, r1, r2, r3, r4, r5, r6, r7, r8, r9, r10, r11, r12, r13, r14, r15⟩ => ?_, ?_⟩
    · simp [After, Region.binds] at hA
      have e0 := r4 hA
      refine stepG_plain rfl fun K hK => ?_
      go_simp
      refine hK _ _ ?_
      simp [mk, up]
      exact ⟨hR, r0, r1, r2, r3, r4, r6, r7, r8, r9, r10, r11, r12, r13, r14, r15⟩
    refine ⟨fun done σ w' a hi hA hC ha hσ ⟨hR, r0, r1, r2, r3, r4, r5, r6, r7, r8, r9, r10, r11, r12, r13, r14, r15⟩ => ?_, ?_⟩
    · simp [After, Region.binds] at hA
      have e0 := r5 hA
      refine stepG_plain rfl fun K hK => ?_
      go_simp
      refine hK _ _ ?_
      simp [mk, up]
      exact ⟨hR, r0, r1, r2, r3, r4, r5, r7, r8, r9, r10, r11, r12, r13, r14, r15⟩
    refine ⟨fun done σ w' a hi hA hC ha hσ ⟨hR, r0, r1, r2, r3, r4, r5, r6, r7, r8, r9, r10, r11, r12, r13, r14, r15⟩ => ?_, ?_⟩
    · simp [After, Region.binds] at hA
      have e0 := r6 hA
      have e1 := (hR.cell (p := ⟨hb, 8, none⟩) hblt).trans c8
      refine stepG_plain rfl fun K hK => ?_
      go_simp
      refine hK _ _ ?_
      simp [mk, up]
      exact ⟨hR, r0, r1, r2, r3, r4, r5, r6, r8, r9, r10, r11, r12, r13, r14, r15⟩
    refine ⟨fun done σ w' a hi hA hC ha hσ ⟨hR, r0, r1, r2, r3, r4, r5, r6, r7, r8, r9, r10, r11, r12, r13, r14, r15⟩ => ?_, ?_⟩
    · simp [After, Region.binds] at hA
      have e0 := r7 hA
      have HC7 := hd (clone_any w' L nr cL r hnr HL0.out (HL.out.below hR) (by omega))
      refine stepG_plain rfl fun K hK => ?_
      go_simp
      refine HC7.out.mono ?_
      rintro e w2 ⟨v, rfl, ho, hb2⟩
      have KB := hb2
      refine hK _ _ ?_
      simp [mk, up]
      exact ⟨hR.trans (hb2.mono hR.size), r0, r1, r2, r3, r4, r5, r6, r7, SlAt.own ho, r9, r10, r11, r12, fun h => (r13 h).below KB, fun h => (r14 h).below KB, fun h => (r15 h).below KB⟩
    refine ⟨fun done σ w' a hi hA hC ha hσ ⟨hR, r0, r1, r2, r3, r4, r5, r6, r7, r8, r9, r10, r11, r12, r13, r14, r15⟩ => ?_, ?_⟩
    · have e0 := hσ 0 (by simp)
      simp only [List.getElem?_toArray] at e0
      refine stepG_plain rfl fun K hK => ?_
      go_simp
      refine hK _ _ ?_
      simp [mk, up]
      exact ⟨hR, r0, r1, r2, r3, r4, r5, r6, r7, r8, r10, r11, r12, r13, r14, r15⟩
    refine ⟨fun done σ w' a hi hA hC ha hσ ⟨hR, r0, r1, r2, r3, r4, r5, r6, r7, r8, r9, r10, r11, r12, r13, r14, r15⟩ => ?_, ?_⟩
    · simp [After, Region.binds] at hA
      have e0 := r9 hA
      refine stepG_plain rfl fun K hK => ?_
      go_simp
      refine hK _ _ ?_
      simp [mk, up]
      exact ⟨hR, r0, r1, r2, r3, r4, r5, r6, r7, r8, r9, r11, r12, r13, r14, r15⟩
    refine ⟨fun done σ w' a hi hA hC ha hσ ⟨hR, r0, r1, r2, r3, r4, r5, r6, r7, r8, r9, r10, r11, r12, r13, r14, r15⟩ => ?_, ?_⟩
    · simp [After, Region.binds] at hA
      have e0 := r10 hA
      refine stepG_plain rfl fun K hK => ?_
      go_simp
      refine hK _ _ ?_
      simp [mk, up]
      exact ⟨hR, r0, r1, r2, r3, r4, r5, r6, r7, r8, r9, r10, r12, r13, r14, r15⟩
    refine ⟨fun done σ w' a hi hA hC ha hσ ⟨hR, r0, r1, r2, r3, r4, r5, r6, r7, r8, r9, r10, r11, r12, r13, r14, r15⟩ => ?_, ?_⟩
    · simp [After, Region.binds] at hA
      have e0 := r11 hA
      have e1 := (hR.cell (p := ⟨hb, 9, none⟩) hblt).trans c9
      refine stepG_plain rfl fun K hK => ?_
      go_simp
      refine hK _ _ ?_
      simp [mk, up]
      exact ⟨hR, r0, r1, r2, r3, r4, r5, r6, r7, r8, r9, r10, r11, r13, r14, r15⟩
    refine ⟨fun done σ w' a hi hA hC ha hσ ⟨hR, r0, r1, r2, r3, r4, r5, r6, r7, r8, r9, r10, r11, r12, r13, r14, r15⟩ => ?_, ?_⟩
    · simp [After, Region.binds] at hA
      have e0 := r3 hA.1
      obtain ⟨A', c', e1, h1⟩ := r8 hA.2.1
      have e2 := r12 hA.2.2
      have HB := hd (built_hash s A' nr c' nl)
      refine stepG_plain rfl fun K hK => ?_
      refine oper_built 69 _ rfl (hcs s A' nr c' nl) (by
          simp only [List.map_toArray, List.map_cons, List.map_nil]
          rw [ev_tmp ha, ev_tmp ha, ev_tmp ha, e0, e1, e2]
          exact HB.out) ?_
      refine hK _ _ ?_
      simp [mk, up]
      exact ⟨hR, r0, r1, r2, r3, r4, r5, r6, r7, r8, r9, r10, r11, r12, ⟨A', c', rfl, A', c', rfl, h1⟩, r14, r15⟩
    refine ⟨fun done σ w' a hi hA hC ha hσ ⟨hR, r0, r1, r2, r3, r4, r5, r6, r7, r8, r9, r10, r11, r12, r13, r14, r15⟩ => ?_, ?_⟩
    · simp [After, Region.binds] at hA
      obtain ⟨A', c', e1, h1⟩ := r13 hA
      refine stepG_plain rfl fun K hK => ?_
      go_simp
      have KB : Below w'.heap.size w' (w'.alloc (.cells (hcs s A' nr c' nl) 69)) := (Below.refl _ _).alloc (Nat.le_refl _) _
      refine hK _ _ ?_
      simp [mk, up]
      exact ⟨hR.trans (KB.mono hR.size), r0, r1, r2, r3, r4, r5, r6, r7, fun h => (r8 h).below KB, r9, r10, r11, r12, fun h => (r13 h).below KB, NewAt.new hR h1, fun h => (r15 h).below KB⟩
    refine ⟨fun done σ w' a hi hA hC ha hσ ⟨hR, r0, r1, r2, r3, r4, r5, r6, r7, r8, r9, r10, r11, r12, r13, r14, r15⟩ => ?_, trivial⟩
    · simp [After, Region.binds] at hA
      obtain ⟨h', e1, h1⟩ := r14 hA.1
      refine stepG_plain rfl fun K hK => ?_
      go_simp
      refine hK _ _ ?_
      simp [mk, up]
      exact ⟨hR, r0, r1, r2, r3, r4, r5, r6, r7, r8, r9, r10, r11, r12, r13, r14, ⟨h', rfl, h1⟩⟩
  · rintro done σ w' hall hσ ⟨hR, r0, r1, r2, r3, r4, r5, r6, r7, r8, r9, r10, r11, r12, r13, r14, r15⟩
    have h2 := r15 (hall 15 (by simp))
    obtain ⟨g, e1, hg, hc⟩ := h2
    simp only [putF, List.foldl_cons, List.foldl_nil, Act.put, List.setIfInBounds_toArray, List.set_cons_succ, List.set_cons_zero]
    clear hσ r0 r1 r2 r3 r4 r5 r6 r7 r8 r9 r10 r11 r12 r13 r14 r15 hall
    have HC := hd hc
    have HR := hd hR
    clear hc hR
    rw [e1]
    go_wp2_with fail
    go_ret
    exact ⟨g, rfl, HC.out, hg, HR.out⟩

end Go.Proofs.Ytolboolbapbniaa
