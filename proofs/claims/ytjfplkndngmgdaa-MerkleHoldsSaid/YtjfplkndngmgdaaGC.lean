/- What a tree of digests is: no program in sight. The iterators: the other places on the way up (merkle.others), chunks (slices.Chunk). A leaf's mark, and two digests put together: the program's and the document's. A region that draws its order inside a round of a range over a function, by an invariant: as XReg's, the operations walked as outside. The document's mark of a leaf and two digests put together; slices of digests. Slices of digests; the parts of merkle.New. merkle.New's second chunk maker, and merkle.chunks at both. merkle.New, none, asked, Root. -/
import Derived.Test.YtjfplkndngmgdaaGA
import Derived.Test.YtjfplkndngmgdaaGB
import Derived.Deep.RegionWith
import Derived.OrdersIn
namespace Go.Proofs.Ytjfplkndngmgdaa.Sp
set_option maxRecDepth 20000

abbrev Dg := List UInt8
def mrk (d : Dg) : Dg := sha (0 :: d)
def bth (a b : Dg) : Dg := sha (1 :: (a ++ b))
theorem mrk_length (d : Dg) : (mrk d).length = 32 := sha_length _
theorem bth_length (a b : Dg) : (bth a b).length = 32 := sha_length _
/-- What a chunk of two becomes. -/
def pair : List Dg → Dg
  | [x] => x
  | x :: y :: _ => bth x y
  | [] => []
/-- The row above. -/
def upw : List Dg → List Dg
  | x :: y :: r => bth x y :: upw r
  | l => l
theorem upw_length : ∀ l : List Dg, (upw l).length = (l.length + 1) / 2
  | [] => by simp [upw]
  | [_] => by simp [upw]
  | _ :: _ :: r => by
    rw [upw, List.length_cons, upw_length r]
    simp only [List.length_cons]
    omega
/-- Where chunks begin. -/
def cuts : Nat → Nat → Nat → Nat → List Nat
  | 0, _, _, _ => []
  | f + 1, s, q, m => if q < m then q :: cuts f s (q + s) m else []
/-- The other places on the way upw: row by row the place, and whether there is one. -/
def sib (i : Nat) : Nat := if i % 2 = 0 then i + 1 else i - 1
def oth : Nat → Nat → Nat → List (Nat × Bool)
  | 0, _, _ => []
  | f + 1, i, n => if n ≤ 1 then [] else (sib i, decide (sib i < n)) :: oth f (i / 2) ((n + 1) / 2)
theorem oth_done (f i n : Nat) (h : n ≤ 1) : oth f i n = [] := by
  cases f with
  | zero => rfl
  | succ f => rw [oth, if_pos h]
theorem oth_step (f i n : Nat) (h : 1 < n) (hf : n ≤ f) : ∃ g, f = g + 1 ∧ (n + 1) / 2 ≤ g ∧ oth f i n = (sib i, decide (sib i < n)) :: oth g (i / 2) ((n + 1) / 2) := by
  cases f with
  | zero => omega
  | succ g => exact ⟨g, rfl, by omega, by rw [oth, if_neg (by omega)]⟩
theorem cuts_done (f s q m : Nat) (h : m ≤ q) : cuts f s q m = [] := by
  cases f with
  | zero => rfl
  | succ f => rw [cuts, if_neg (by omega)]
theorem cuts_step (f s q m : Nat) (h : q < m) (hf : m - q ≤ f) : ∃ g, f = g + 1 ∧ (0 < s → m - (q + s) ≤ g) ∧ cuts f s q m = q :: cuts g s (q + s) m := by
  cases f with
  | zero => omega
  | succ g => exact ⟨g, rfl, fun hs => by omega, by rw [cuts, if_pos h]⟩
theorem cuts_one (φ : List Dg → Dg) (ds : List Dg) : ∀ (f q : Nat), ds.length - q ≤ f → (cuts f 1 q ds.length).map (fun q => φ ((ds.drop q).take 1)) = (ds.drop q).map (fun d => φ [d])
  | 0, q, h => by rw [List.drop_eq_nil_of_le (by omega)]; rfl
  | f + 1, q, h => by
    by_cases hq : q < ds.length
    · rw [cuts, if_pos hq, List.map_cons, cuts_one φ ds f (q + 1) (by omega), List.drop_eq_getElem_cons hq]
      rfl
    · rw [cuts_done _ _ _ _ (by omega), List.drop_eq_nil_of_le (by omega)]; rfl
theorem cuts_two (ds : List Dg) : ∀ (f q : Nat), ds.length - q ≤ f → (cuts f 2 q ds.length).map (fun q => pair ((ds.drop q).take 2)) = upw (ds.drop q)
  | 0, q, h => by rw [List.drop_eq_nil_of_le (by omega)]; simp [upw, cuts]
  | f + 1, q, h => by
    by_cases hq : q < ds.length
    · rw [cuts, if_pos hq, List.map_cons, cuts_two ds f (q + 2) (by omega)]
      show pair ((ds.drop q).take 2) :: upw (ds.drop (q + 2)) = upw (ds.drop q)
      rw [List.drop_eq_getElem_cons hq]
      by_cases hq1 : q + 1 < ds.length
      · rw [List.drop_eq_getElem_cons hq1]
        simp only [List.take_succ_cons, List.take_zero, pair, upw]
      · rw [List.drop_eq_nil_of_le (show ds.length ≤ q + 1 by omega), List.drop_eq_nil_of_le (show ds.length ≤ q + 2 by omega)]
        simp only [List.take_succ_cons, List.take_nil, pair, upw]
    · rw [cuts_done _ _ _ _ (by omega), List.drop_eq_nil_of_le (by omega)]; simp [upw]
/-- The rows from a row upw to the root. -/
def rowsUp : Nat → List Dg → List (List Dg)
  | 0, l => [l]
  | f + 1, l => if l.length ≤ 1 then [l] else l :: rowsUp f (upw l)
def rows (leaves : List Dg) : List (List Dg) := rowsUp leaves.length (leaves.map mrk)

end Go.Proofs.Ytjfplkndngmgdaa.Sp

namespace Go.Proofs.Ytjfplkndngmgdaa
set_option maxRecDepth 20000
open Go.RowKit Go.Shelf Sp
attribute [local go_sem] Oper.semAt_some

section
variable {F : Fence} {n : Nat} {P : Program} {Q : Exit → Act → World → Prop} {a : Act} {w : World} {b : Frame} {k : List Item} {cs : List Frame}
theorem stepR_scope {c : Code} : step P (lone (b.atR a (.code (.scope c) :: k)) cs w) = .next (lone (b.atR a (.code c :: .inScope c :: k)) cs w) :=
  step_lone_go (by simp [stepG, stepG.exec, Frame.atR])
theorem stepR_inScope {c : Code} : step P (lone (b.atR a (.inScope c :: k)) cs w) = .next (lone (b.atR a k) cs w) :=
  step_lone_go (by simp [stepG, stepG.exec, Frame.atR])
theorem wpIn_label_seq {l : Nat} {y : Code} (h : y.wpIn F n P Q a w) : (Code.seq (.label l) y).wpIn F n P Q a w := wpIn_seq (wpIn_label h)
theorem wpIn_scope_straight {c : Code} (h : c.wpIn F n P (Exit.noGoto Q) a w) : (Code.scope c).wpIn F n P Q a w := by
  intro b k cs hro hb hr
  have h0 : (lone (b.atR a (.code (.scope c) :: k)) cs w).fenced P F := fenced_calm hb hr rfl
  obtain ⟨e, a₁, w₁, hq, harr⟩ := h b (.inScope c :: k) cs hro hb hr
  cases e with
  | normal => exact ⟨.normal, a₁, w₁, hq, .head h0 stepR_scope (StepsIn.trans harr (.one (fenced_calm hb hr rfl) stepR_inScope))⟩
  | exit id' =>
    have hx : exitTo id' (.inScope c :: k) = exitTo id' k := by simp [exitTo]
    exact ⟨.exit id', a₁, w₁, hq, fun k' hk => .head h0 stepR_scope (harr.1 k' (by rw [hx]; exact hk)),
      fun hr' hk => let ⟨k₁, h1, h2⟩ := harr.2 hr' (by rw [hx]; exact hk); ⟨k₁, h1, .head h0 stepR_scope h2⟩⟩
  | goto l => exact hq.elim
  | ret => exact ⟨_, a₁, w₁, hq, .of_steps (.one h0 stepR_scope) harr⟩
  | panic ch => exact ⟨_, a₁, w₁, hq, .of_steps (.one h0 stepR_scope) harr⟩
  | outgrown => exact ⟨_, a₁, w₁, hq, .of_steps (.one h0 stepR_scope) harr⟩
end

theorem xor1 (i : Nat) (h : i < 16) : bits BinOp.xor IntKind.i64 (i : Int) 1 = (sib i : Int) := by
  have key : ∀ j : Fin 16, bits BinOp.xor IntKind.i64 (j.val : Int) 1 = (sib j.val : Int) := by decide +kernel
  exact key ⟨i, h⟩

set_option maxHeartbeats 1000000 in
theorem others_any (w : World) (i m : Int) :
    Calls Try.prog 30 #[.int .i64 i, .int .i64 m] w fun e w' => e = .returned (.func (.func 43) #[] #[.pointer (some ⟨w.heap.size + 1, 0, none⟩), .pointer (some ⟨w.heap.size, 0, none⟩)]) ∧ w' = (w.alloc (.cells #[.int .i64 i] 3)).alloc (.cells #[.int .i64 m] 3) := by
  go_enter Try.func30, Try.ntmps30
  go_wp2_with fail
  go_ret
  exact ⟨rfl, rfl⟩

/-- A number's box. -/
def boxNum (B : Nat) (W : World) : Nat :=
  match W.cell? ⟨B, 0, none⟩ with
  | some (.int _ n) => n.toNat
  | _ => 0
theorem box_num {W : World} {B : Nat} {t : TypeId} {k : Nat} (h : Boxed W B t (.int .i64 k)) : boxNum B W = k := by
  unfold boxNum; rw [h.cell]; simp

/-- How far two stores have come. -/
def Stg (W A B : World) (done : Nat → Bool) (w' : World) : Prop := (done 5 = false → w' = W) ∧ (done 5 = true → done 6 = false → w' = A) ∧ (done 6 = true → w' = B)
theorem Stg.start {W A B w' : World} (h : w' = W) : Stg W A B (fun _ => false) w' := ⟨fun _ => h, (fun e => nomatch e), (fun e => nomatch e)⟩
theorem Stg.other {W A B w' : World} {done : Nat → Bool} {i : Nat} (h : Stg W A B done w') (h5 : i ≠ 5) (h6 : i ≠ 6) : Stg W A B (mk done i) w' := by
  unfold Stg
  rw [mk_ne _ _ _ (fun e => h5 e.symm), mk_ne _ _ _ (fun e => h6 e.symm)]
  exact h
theorem Stg.at {W A B w' : World} {done : Nat → Bool} {p : World → Prop} (h : Stg W A B done w') (h6 : done 6 = false) (hW : p W) (hA : p A) : p w' := by
  cases h5 : done 5 with
  | false => rw [h.1 h5]; exact hW
  | true => rw [h.2.1 h5 h6]; exact hA
theorem Stg.five {W A B w' : World} {done : Nat → Bool} (_h : Stg W A B done w') (_h5 : done 5 = false) (h6 : done 6 = false) : Stg W A B (mk done 5) A :=
  ⟨(fun e => by rw [mk_self] at e; cases e), (fun _ _ => rfl), (fun e => by rw [mk_ne _ _ _ (by decide), h6] at e; cases e)⟩
theorem Stg.six {W A B w' : World} {done : Nat → Bool} (_h : Stg W A B done w') (h5 : done 5 = true) (_h6 : done 6 = false) : Stg W A B (mk done 6) B :=
  ⟨(fun e => by rw [mk_ne _ _ _ (by decide), h5] at e; cases e), (fun _ e => by rw [mk_self] at e; cases e), (fun _ => rfl)⟩
theorem grown_drew (w : World) : w.grownBy w.drew none := ⟨rfl, rfl, rfl, Nat.le_refl _, fun _ _ _ => rfl⟩

set_option maxRecDepth 100000 in
set_option maxHeartbeats 1000000 in
theorem oth_any (n : Nat) (BN BI f i m : Nat) (hi : i < 16) (hm : m ≤ 16) (hf : m ≤ f) (hne : BN ≠ BI)
    (w : World) (hN : Boxed w BN 3 (.int .i64 m)) (hI : Boxed w BI 3 (.int .i64 i)) :
    IterC Fence.wide n Try.prog 43 #[.pointer (some ⟨BN, 0, none⟩), .pointer (some ⟨BI, 0, none⟩)] (fun p : Nat × Bool => #[.int .i64 p.1, .bool p.2]) (fun k => k = BN ∨ k = BI) (fun k => k = BN ∨ k = BI) (oth f i m) w := by
  intro l J Jx W hW hJ hJx hY h0
  have hN' : Boxed W BN 3 (.int .i64 m) := (hW.block BN hN.lt).trans hN
  have hI' : Boxed W BI 3 (.int .i64 i) := (hW.block BI hI.lt).trans hI
  clear hN hI
  refine callsIn_of_wp Try.func43 rfl trivial ?_ rfl
  simp only [Try.ntmps43, List.size_toArray, List.length_cons, List.length_nil, Nat.reduceAdd, Nat.reduceSub, Array.replicate_succ, Array.replicate_zero, List.push_toArray, List.append_toArray, List.nil_append, List.cons_append]
  gi_wp2
  refine wpIn_scope_straight ?_
  refine wpIn_label_seq ?_
  gi_wp2
  gi_loopw [20] (fun _ wr => ∃ (pre : List (Nat × Bool)) (g j k : Nat), oth f i m = pre ++ oth g j k ∧ j < 16 ∧ k ≤ 16 ∧ k ≤ g ∧ Boxed wr BN 3 (.int .i64 k) ∧ Boxed wr BI 3 (.int .i64 j) ∧ J pre wr)
    (fun _ wr => boxNum BN wr)
  case atStart => exact ⟨[], f, i, m, rfl, hi, hm, hf, hN', hI', h0⟩
  case round =>
    obtain ⟨pre, g, j, k, hxs, hj, hk, hg, hbN, hbI, hJs⟩ := hrel
    have hcN := hbN.cell
    have hfN := hbN.frozen
    have hcI := hbI.cell
    have hfI := hbI.frozen
    have hlen := box_num hbN
    by_cases hge : 1 < k
    · have hge' : (1 : Int) < (k : Int) := by omega
      obtain ⟨g', rfl, hg', hst⟩ := oth_step g j k hge hg
      obtain ⟨fn, tmps, assign, body, hy, hR⟩ := hY pre (sib j, decide (sib j < k)) wr hJs ⟨oth g' (j / 2) ((k + 1) / 2), by rw [hxs, hst]; simp⟩
      have hxor := xor1 j hj
      have hdec : decide ((sib j : Int) < (k : Int)) = decide (sib j < k) := by simp
      gi_wp2
      refine ⟨(fun h => by cases h), hR.mono ?_⟩
      rintro e W3 (⟨rfl, hJ3, hk3⟩ | ⟨rfl, hJx3⟩)
      · have h3N : Boxed W3 BN 3 (.int .i64 k) := (hk3.same BN (.inl rfl)).trans hbN
        have h3I : Boxed W3 BI 3 (.int .i64 j) := (hk3.same BI (.inr rfl)).trans hbI
        have c3N := h3N.cell
        have f3N := h3N.frozen
        have c3I := h3I.cell
        have f3I := h3I.frozen
        have hne2 : BI ≠ BN := fun e => hne e.symm
        gi_wp2
        refine wpIn_wide.2 ?_
        obtain ⟨W4, hW4⟩ : ∃ V, V = W3.drew := ⟨_, rfl⟩
        obtain ⟨W5, hW5⟩ : ∃ V, V = W4.setCell ⟨BI, 0, none⟩ (.int .i64 ((j : Int) / 2)) := ⟨_, rfl⟩
        obtain ⟨W6, hW6⟩ : ∃ V, V = W5.setCell ⟨BN, 0, none⟩ (.int .i64 (((k : Int) + 1) / 2)) := ⟨_, rfl⟩
        have b4N : Boxed W4 BN 3 (.int .i64 k) := by rw [hW4]; exact h3N
        have b4I : Boxed W4 BI 3 (.int .i64 j) := by rw [hW4]; exact h3I
        have b5I : Boxed W5 BI 3 (.int .i64 ((j : Int) / 2)) := by rw [hW5]; exact b4I.set _
        have b5N : Boxed W5 BN 3 (.int .i64 k) := by rw [hW5]; exact (Below.heap_setCell _ _ _ _ (fun e => hne e)).trans b4N
        have b6N : Boxed W6 BN 3 (.int .i64 (((k + 1) / 2 : Nat) : Int)) := by rw [show (((k + 1) / 2 : Nat) : Int) = ((k : Int) + 1) / 2 by omega, hW6]; exact b5N.set _
        have b6I : Boxed W6 BI 3 (.int .i64 ((j / 2 : Nat) : Int)) := by rw [show ((j / 2 : Nat) : Int) = (j : Int) / 2 by omega, hW6]; exact (Below.heap_setCell _ _ _ _ (fun e => hne e.symm)).trans b5I
        have hJ6 : J (pre ++ [(sib j, decide (sib j < k))]) W6 := by
          rw [hW6, hW5, hW4]
          exact hJ.own (hJ.own (hJ.none hJ3 (grown_drew W3)) (.inr rfl) (grownBy_setCell' _ _ _)) (.inl rfl) (grownBy_setCell' _ _ _)
        have hk3' := hk3.size
        have c4N := b4N.cell
        have c4I := b4I.cell
        have f4I := b4I.frozen
        have f5N := b5N.frozen
        have c5N := b5N.cell
        have wk : IntKind.i64.wrap ((k : Int) + 1) = (k : Int) + 1 := IntWalk.i64_in _ (by omega)
        have wj : IntKind.i64.wrap ((j : Int) / 2) = (j : Int) / 2 := IntWalk.i64_in _ (by omega)
        have wt : IntKind.i64.wrap (((k : Int) + 1).tdiv 2) = ((k : Int) + 1) / 2 := by rw [Int.tdiv_eq_ediv_of_nonneg (by omega)]; exact IntWalk.i64_in _ (by omega)
        have HW4 := hd hW4
        have HW5 := hd hW5
        have HW6 := hd hW6
        have HST := hd hst
        have HXS := hd hxs
        clear hW4 hW5 hW6 hst hxs hxor hdec hY hy hR hk3 hJ3
        clear c3N f3N c3I f3I h3N h3I hcN hfN hcI hfI hbN hbI
        refine wp_region_inv [7, 8, 9, 10, 11] (fun done σ w' => Stg W4 W5 W6 done w' ∧
          (done 0 = true → σ 7 = .int .i64 (j : Int)) ∧
          (done 1 = true → σ 8 = .int .i64 ((j : Int) / 2)) ∧
          (done 2 = true → σ 9 = .int .i64 (k : Int)) ∧
          (done 3 = true → σ 10 = .int .i64 ((k : Int) + 1)) ∧
          (done 4 = true → σ 11 = .int .i64 (((k : Int) + 1) / 2))) (by kernel_rfl) (by kernel_rfl) ?_ ?_ ?_
        · simp
          exact Stg.start HW4.out.symm
        · refine ⟨fun done σ w' a hi hA hC ha hσ ⟨hR, r0, r1, r2, r3, r4⟩ => ?_, ?_⟩
          · have d5 := hC.at 0 5 _ rfl hi rfl
            obtain rfl := hR.1 d5
            have e0 := hσ 2 (by simp)
            simp only [List.getElem?_toArray] at e0
            refine stepG_plain rfl fun K hK => ?_
            go_simp
            refine hK _ _ ?_
            simp [mk, up]
            exact ⟨hR.other (i := 0) (by decide) (by decide), r1, r2, r3, r4⟩
          refine ⟨fun done σ w' a hi hA hC ha hσ ⟨hR, r0, r1, r2, r3, r4⟩ => ?_, ?_⟩
          · simp [After, Region.binds] at hA
            have e1 := r0 hA
            refine stepG_plain rfl fun K hK => ?_
            go_simp
            refine hK _ _ ?_
            simp [mk, up]
            exact ⟨hR.other (i := 1) (by decide) (by decide), r0, r2, r3, r4⟩
          refine ⟨fun done σ w' a hi hA hC ha hσ ⟨hR, r0, r1, r2, r3, r4⟩ => ?_, ?_⟩
          · have d6 := hC.at 2 6 _ rfl hi rfl
            have cw : w'.cell? ⟨BN, 0, none⟩ = some (.int .i64 k) := hR.at (p := fun V => V.cell? ⟨BN, 0, none⟩ = some (.int .i64 k)) d6 c4N c5N
            have e0 := hσ 1 (by simp)
            simp only [List.getElem?_toArray] at e0
            refine stepG_plain rfl fun K hK => ?_
            go_simp
            refine hK _ _ ?_
            simp [mk, up]
            exact ⟨hR.other (i := 2) (by decide) (by decide), r0, r1, r3, r4⟩
          refine ⟨fun done σ w' a hi hA hC ha hσ ⟨hR, r0, r1, r2, r3, r4⟩ => ?_, ?_⟩
          · simp [After, Region.binds] at hA
            have e1 := r2 hA
            refine stepG_plain rfl fun K hK => ?_
            go_simp
            refine hK _ _ ?_
            simp [mk, up]
            exact ⟨hR.other (i := 3) (by decide) (by decide), r0, r1, r2, r4⟩
          refine ⟨fun done σ w' a hi hA hC ha hσ ⟨hR, r0, r1, r2, r3, r4⟩ => ?_, ?_⟩
          · simp [After, Region.binds] at hA
            have e1 := r3 hA
            refine stepG_plain rfl fun K hK => ?_
            go_simp
            refine hK _ _ ?_
            simp [mk, up]
            exact ⟨hR.other (i := 4) (by decide) (by decide), r0, r1, r2, r3⟩
          refine ⟨fun done σ w' a hi hA hC ha hσ ⟨hR, r0, r1, r2, r3, r4⟩ => ?_, ?_⟩
          · simp [After, Region.binds] at hA
            have d6 := hC.at 5 6 _ rfl hi rfl
            obtain rfl := hR.1 hi
            have e0 := hσ 2 (by simp)
            simp only [List.getElem?_toArray] at e0
            have e1 := r1 (by first | exact hA | exact hA.1 | exact hA.2 | exact hA.2.1 | exact hA.2.2)
            refine stepG_plain rfl fun K hK => ?_
            go_simp
            refine hK undef _ ?_
            simp [mk, up_none]
            exact ⟨(by rw [← HW5.out]; exact hR.five hi d6), r0, r1, r2, r3, r4⟩
          refine ⟨fun done σ w' a hi hA hC ha hσ ⟨hR, r0, r1, r2, r3, r4⟩ => ?_, trivial⟩
          · simp [After, Region.binds] at hA
            have d5 : done 5 = true := (by first | exact hA | exact hA.1 | exact hA.2 | exact hA.2.1 | exact hA.2.2)
            obtain rfl := hR.2.1 d5 hi
            have e0 := hσ 1 (by simp)
            simp only [List.getElem?_toArray] at e0
            have e1 := r4 (by first | exact hA | exact hA.1 | exact hA.2 | exact hA.2.1 | exact hA.2.2)
            refine stepG_plain rfl fun K hK => ?_
            go_simp
            refine hK undef _ ?_
            simp [mk, up_none]
            exact ⟨(by rw [← HW6.out]; exact hR.six d5 hi), r0, r1, r2, r3, r4⟩
        · rintro done σ w' hall hσ ⟨hR, r0, r1, r2, r3, r4⟩
          simp only [putF, List.foldl_cons, List.foldl_nil, Act.put, List.setIfInBounds_toArray, List.set_cons_succ, List.set_cons_zero]
          obtain rfl := hR.2.2 (hall 6 (by simp))
          have hlen6 := box_num b6N
          clear hσ r0 r1 r2 r3 r4 hall
          refine ⟨?_, by rw [hlen6, hlen]; omega⟩
          repeat apply Exists.intro
          refine ⟨⟨pre ++ [(sib j, decide (sib j < k))], g', j / 2, (k + 1) / 2, by rw [HXS.out, HST.out]; simp, by omega, by omega, hg', b6N, b6I, hJ6⟩, rfl⟩
      · gi_wp2
        unfold Exit.noGoto
        go_end0
        exact ⟨⟨_, rfl⟩, .inr ⟨pre ++ [(sib j, decide (sib j < k))], ⟨oth g' (j / 2) ((k + 1) / 2), by rw [hxs, hst]; simp⟩, hJx3⟩⟩
    · have hle : ¬ (1 : Int) < (k : Int) := by omega
      have he := hd (show J (oth f i m) wr by rw [hxs, oth_done _ _ _ (by omega), List.append_nil]; exact hJs)
      clear hxs hY
      gi_wp2
      go_end0
      exact ⟨⟨_, rfl⟩, .inl he.out⟩

set_option maxHeartbeats 1000000 in
theorem chunk_any (w : World) (A : Option Addr) (m c : Nat) (s : Nat) (hs : 1 ≤ s) :
    Calls Try.prog 44 #[.slice A m c, .int .i64 s] w fun e w' => e = .returned (.func (.func 47) #[] #[.pointer (some ⟨w.heap.size, 0, none⟩), .pointer (some ⟨w.heap.size + 1, 0, none⟩)]) ∧ w' = (w.alloc (.cells #[.slice A m c] 30)).alloc (.cells #[.int .i64 s] 3) := by
  have h1 : ¬ (s : Int) < 1 := by omega
  go_enter Try.func44, Try.ntmps44
  go_wp2_with fail
  go_ret
  exact ⟨rfl, rfl⟩

set_option maxRecDepth 100000 in
set_option maxHeartbeats 1000000 in
theorem chk_any (n : Nat) (BS BN b o f s m c : Nat) (A : Option Addr) (hA : 0 < m → A = some ⟨b, o, none⟩) (hmc : m ≤ c) (h1 : 1 ≤ s) (h2 : s ≤ 2) (hm : m ≤ 1000) (hf : m ≤ f)
    (w : World) (hS : Boxed w BS 30 (.slice A m c)) (hN : Boxed w BN 3 (.int .i64 s)) :
    IterC Fence.wide n Try.prog 47 #[.pointer (some ⟨BS, 0, none⟩), .pointer (some ⟨BN, 0, none⟩)] (fun q : Nat => #[.slice (some ⟨b, o + q * 32, none⟩) (Nat.min s (m - q)) (Nat.min s (m - q))]) (fun _ => False) (fun k => k = BS ∨ k = BN) (cuts f s 0 m) w := by
  intro l J Jx W hW hJ hJx hY h0
  have hS' : Boxed W BS 30 (.slice A m c) := (hW.block BS hS.lt).trans hS
  have hN' : Boxed W BN 3 (.int .i64 s) := (hW.block BN hN.lt).trans hN
  clear hN hS
  refine callsIn_of_wp Try.func47 rfl trivial ?_ rfl
  simp only [Try.ntmps47, List.size_toArray, List.length_cons, List.length_nil, Nat.reduceAdd, Nat.reduceSub, Array.replicate_succ, Array.replicate_zero, List.push_toArray, List.append_toArray, List.nil_append, List.cons_append]
  gi_wp2
  gi_loopw [4] (fun x wr => ∃ (pre : List Nat) (g q : Nat), x = .int .i64 q ∧ cuts f s 0 m = pre ++ cuts g s q m ∧ m - q ≤ g ∧ q ≤ m + 2 ∧ Boxed wr BS 30 (.slice A m c) ∧ Boxed wr BN 3 (.int .i64 s) ∧ J pre wr)
    (fun x _ => m + 2 - (intOf x).toNat)
  case atStart => exact ⟨[], f, 0, rfl, rfl, by omega, by omega, hS', hN', h0⟩
  case round =>
    obtain ⟨pre, g, q, rfl, hxs, hg, hq, hbS, hbN, hJs⟩ := hrel
    have hcS := hbS.cell
    have hcN := hbN.cell
    by_cases hlt : q < m
    · have hltI : (q : Int) < (m : Int) := by omega
      obtain rfl := hA (by omega)
      obtain ⟨g', rfl, hg', hst⟩ := cuts_step g s q m hlt hg
      obtain ⟨fn, tmps, assign, body, hy, hR⟩ := hY pre q wr.drew (hJ.none hJs (grown_drew wr)) ⟨cuts g' s (q + s) m, by rw [hxs, hst]; simp⟩
      have HST := hd hst
      have HXS := hd hxs
      clear hst hxs hY
      obtain ⟨r, hr⟩ : ∃ r, Nat.min s (m - q) = r := ⟨_, rfl⟩
      have hr1 : 1 ≤ r ∧ q + r ≤ m ∧ (m - q < s → r = m - q) ∧ (¬ m - q < s → r = s) := by
        have := Nat.min_def (n := s) (m := m - q)
        rw [show min s (m - q) = r from hr] at this
        split at this <;> omega
      have hif : (if m - q < s then ((m - q : Nat) : Int) else (s : Int)) = (r : Int) := by
        split
        · rw [hr1.2.2.1 (by assumption)]
        · rw [hr1.2.2.2 (by assumption)]
      have hr0 := hr1.1
      have hrm := hr1.2.1
      rw [hr] at hy
      have e2 : q + r - q = r := by omega
      clear hr hr1
      gi_wp2
      gi_region
      gi_wp2
      refine ⟨(fun h => by cases h), hR.mono ?_⟩
      rintro e W3 (⟨rfl, hJ3, hk3⟩ | ⟨rfl, hJx3⟩)
      · have h3S : Boxed W3 BS 30 (.slice (some ⟨b, o, none⟩) m c) := (hk3.same BS (.inl rfl)).trans hbS
        have h3N : Boxed W3 BN 3 (.int .i64 s) := (hk3.same BN (.inr rfl)).trans hbN
        have c3N := h3N.cell
        clear hcS hcN hR hy hif
        gi_wp2
        refine ⟨⟨pre ++ [q], g', q + s, by go_num, by rw [HXS.out, HST.out]; simp, hg' h1, by omega, h3S, h3N, hJ3⟩, ?_⟩
        simp [intOf]; omega
      · gi_wp2
        refine bodyPost_ret (results_none rfl _ _ _) rfl ?_
        exact ⟨⟨_, rfl⟩, .inr ⟨pre ++ [q], ⟨cuts g' s (q + s) m, by rw [HXS.out, HST.out]; simp⟩, hJx3⟩⟩
    · have hle : ¬ (q : Int) < (m : Int) := by omega
      have he := hd (show J (cuts f s 0 m) wr by rw [hxs, cuts_done _ _ _ _ (by omega), List.append_nil]; exact hJs)
      clear hxs hY
      gi_wp2
      go_end0
      exact ⟨⟨_, rfl⟩, .inl he.out⟩

end Go.Proofs.Ytjfplkndngmgdaa

namespace Go.Proofs.Ytjfplkndngmgdaa
set_option maxRecDepth 20000
open Go.RowKit Sp

attribute [local go_sem ↓] ldD stD
attribute [local go_sem] run_ldA run_stA arrD loadX_at loadY_some storeX_at storeY_true ucs_size ones_ucs sha_length

theorem parts_new (w : World) (t : TypeId) (ps : List (Value × List UInt8)) (h : ∀ p ∈ ps, SlW w p.1 p.2 p.2.length) (cs : Array Value) (hcs : cs = (ps.map (·.1)).toArray) : PartsAt (w.alloc (.cells cs t)) (some ⟨w.heap.size, 0, none⟩) ps := by
  subst hcs
  intro j p hj
  refine ⟨⟨_, rfl, ?_⟩, (h p (List.mem_of_getElem? hj)).below ((Below.refl _ _).alloc (Nat.le_refl _) _)⟩
  rw [add_lit, cell_of_row _ _ _ _ _ _ (heap_alloc_new w _)]
  simp [hj]
theorem mk_of (w : World) (ps : List (Value × List UInt8)) (h : ∀ p ∈ ps, SlW w p.1 p.2 p.2.length) (ht : (flat ps).length ≤ 549755813888) (hn2 : ps.length ≤ 4611686018427387904) (t : TypeId) (cs : Array Value) (hcs : cs = (ps.map (·.1)).toArray) (n : Nat) (hn : ps.length = n) :
    Calls Try.prog 45 #[.slice (some ⟨w.heap.size, 0, none⟩) n n] (w.alloc (.cells cs t)) fun e w' => e = .returned (.agg (ucs (sha (flat ps)))) ∧ Below w.heap.size w w' := by
  refine (of_any _ _ _ _ ps hn (parts_new w t ps h cs hcs) ht (by omega)).mono ?_
  rintro e w' ⟨rfl, hb⟩
  have h0 : Below w.heap.size w (w.alloc (.cells cs t)) := (Below.refl _ _).alloc (Nat.le_refl _) _
  exact ⟨rfl, h0.trans (hb.mono h0.size)⟩

/-- Two blocks of digests are made: the box, the result. -/
theorem two_slw {W : World} {g t : Nat} {d : List UInt8} {fr : Nat × Nat} (h : W.heap[g]? = some (.cells (ucs d) t fr)) (hd0 : d.length = 32) : SlW W (.slice (some ⟨g, 0, none⟩) 32 32) d d.length := by
  have h2 := row_sl h (by rw [hd0]; unfold maxLen; omega)
  rwa [hd0] at h2 ⊢

set_option maxHeartbeats 1000000 in
set_option maxRecDepth 100000 in
theorem mark_any (w : World) (d : List UInt8) (hd0 : d.length = 32) :
    Calls Try.prog 34 #[.agg (ucs d)] w fun e w' => e = .returned (.agg (ucs (sha (0 :: d)))) ∧ Below w.heap.size w w' := by
  go_enter Try.func34, Try.ntmps34
  go_upto_region 0 with (fail)
  go_cut [1, 2] (fun d1 d2 wx => d1 = .pointer (some ⟨w.heap.size, 0, none⟩) ∧ d2 = .pointer (some ⟨w.heap.size + 1, 0, none⟩) ∧ wx.heap[w.heap.size]? = some (.cells (ucs d) 35 (0, 0)) ∧ wx.heap[w.heap.size + 1]? = some (.cells (ucs (List.replicate 32 0)) 35 (0, 0)) ∧ wx.heap.size = w.heap.size + 2 ∧ Below w.heap.size w wx)
  case first =>
    go_wp2_with fail
    go_meet
    refine ⟨rfl, rfl, blk_alloc (heap_alloc_new w _) _, ?_, by simp, ((Below.refl _ _).alloc (Nat.le_refl _) _).alloc (by simp) _⟩
    have h := heap_alloc_new (w.alloc (.cells (ucs d) 35)) (.cells (ucs (List.replicate 32 0)) 35)
    rw [World.size_alloc] at h
    exact h
  case rest =>
    obtain ⟨rfl, rfl, hE, hD, hz, hB⟩ := hcut
    have hO : Calls Try.prog 45 #[.slice (some ⟨wc.heap.size + 1, 0, none⟩) 2 2] ((wc.alloc (.cells #[.int .u8 0] 5)).alloc (.cells #[.slice (some ⟨wc.heap.size, 0, none⟩) 1 1, .slice (some ⟨w.heap.size, 0, none⟩) 32 32] 76)) fun e w' => e = .returned (.agg (ucs (sha (0 :: d)))) ∧ Below wc.heap.size wc w' := by
      have h0 : Below wc.heap.size wc (wc.alloc (.cells #[.int .u8 0] 5)) := (Below.refl _ _).alloc (Nat.le_refl _) _
      have h := mk_of (wc.alloc (.cells #[.int .u8 0] 5)) [(.slice (some ⟨wc.heap.size, 0, none⟩) 1 1, [0]), (.slice (some ⟨w.heap.size, 0, none⟩) 32 32, d)] (fun p hp => by
        rcases List.mem_cons.1 hp with rfl | hp
        · exact row_sl (l := [0]) (heap_alloc_new wc _) (by unfold maxLen; simp)
        · obtain rfl := List.mem_singleton.1 hp
          exact two_slw (blk_alloc hE _) hd0) (by simp [flat, hd0]) (by simp) 76 _ rfl 2 rfl
      rw [World.size_alloc] at h
      refine h.mono ?_
      rintro e w' ⟨rfl, hb⟩
      exact ⟨by simp [flat], h0.trans (hb.mono (by simp))⟩
    have HO := hd hO
    have HD := hd hD
    have HB := hd hB
    have hlt : w.heap.size + 1 < wc.heap.size := by omega
    clear hz hO hE hD hB
    go_wp2_with (go_at_call 45; refine HO.out.mono ?_; rintro e w5 ⟨rfl, hb5⟩; have HB5 := hd hb5; have hD5 := (hb5.block _ hlt).trans HD.out; have hcan := can_row (o := 0) (n := 32) hD5 (by simp [ucs_size]); have HD5 := hd hD5; clear hb5 hD5)
    have hrow := putSub_row (c := ucs (sha (0 :: d))) HD5.out (by simp [ucs_size, sha_length])
    refine bodyPost_ret (ret_row rfl (n := 32) (by kernel_rfl) _ _ (w.heap.size + 1) 0 (ucs (sha (0 :: d))) rfl (sub_row hrow (by rw [ucs_size, sha_length]))) rfl ⟨rfl, Below.putSub (HB.out.trans (HB5.out.mono (by omega))) (by omega)⟩

set_option maxHeartbeats 1000000 in
set_option maxRecDepth 100000 in
theorem both_any (w : World) (d1 d2 : List UInt8) (h1 : d1.length = 32) (h2 : d2.length = 32) :
    Calls Try.prog 36 #[.agg (ucs d1), .agg (ucs d2)] w fun e w' => e = .returned (.agg (ucs (sha (1 :: (d1 ++ d2))))) ∧ Below w.heap.size w w' := by
  go_enter Try.func36, Try.ntmps36
  go_upto_region 0 with (fail)
  go_cut [2, 3, 4] (fun v1 v2 v3 wx => v1 = .pointer (some ⟨w.heap.size, 0, none⟩) ∧ v2 = .pointer (some ⟨w.heap.size + 1, 0, none⟩) ∧ v3 = .pointer (some ⟨w.heap.size + 2, 0, none⟩) ∧ wx.heap[w.heap.size]? = some (.cells (ucs d1) 35 (0, 0)) ∧ wx.heap[w.heap.size + 1]? = some (.cells (ucs d2) 35 (0, 0)) ∧ wx.heap[w.heap.size + 2]? = some (.cells (ucs (List.replicate 32 0)) 35 (0, 0)) ∧ wx.heap.size = w.heap.size + 3 ∧ Below w.heap.size w wx)
  case first =>
    go_wp2_with fail
    go_meet
    have h2 := heap_alloc_new (w.alloc (.cells (ucs d1) 35)) (.cells (ucs d2) 35)
    rw [World.size_alloc] at h2
    have h := heap_alloc_new ((w.alloc (.cells (ucs d1) 35)).alloc (.cells (ucs d2) 35)) (.cells (ucs (List.replicate 32 0)) 35)
    rw [World.size_alloc, World.size_alloc] at h
    exact ⟨rfl, rfl, rfl, blk_alloc (blk_alloc (heap_alloc_new w _) _) _, blk_alloc h2 _, h, by simp, (((Below.refl _ _).alloc (Nat.le_refl _) _).alloc (by simp) _).alloc (by simp; omega) _⟩
  case rest =>
    obtain ⟨rfl, rfl, rfl, hE1, hE2, hD, hz, hB⟩ := hcut
    have hO : Calls Try.prog 45 #[.slice (some ⟨wc.heap.size + 1, 0, none⟩) 3 3] ((wc.drew.alloc (.cells #[.int .u8 1] 5)).alloc (.cells #[.slice (some ⟨wc.heap.size, 0, none⟩) 1 1, .slice (some ⟨w.heap.size, 0, none⟩) 32 32, .slice (some ⟨w.heap.size + 1, 0, none⟩) 32 32] 76)) fun e w' => e = .returned (.agg (ucs (sha (1 :: (d1 ++ d2))))) ∧ Below wc.heap.size wc w' := by
      have h0 : Below wc.heap.size wc (wc.drew.alloc (.cells #[.int .u8 1] 5)) := Below.alloc (Below.drew (Below.refl _ _)) (Nat.le_refl _) _
      have h := mk_of (wc.drew.alloc (.cells #[.int .u8 1] 5)) [(.slice (some ⟨wc.heap.size, 0, none⟩) 1 1, [1]), (.slice (some ⟨w.heap.size, 0, none⟩) 32 32, d1), (.slice (some ⟨w.heap.size + 1, 0, none⟩) 32 32, d2)] (fun p hp => by
        rcases List.mem_cons.1 hp with rfl | hp
        · exact row_sl (l := [1]) (heap_alloc_new wc.drew _) (by unfold maxLen; simp)
        · rcases List.mem_cons.1 hp with rfl | hp
          · exact two_slw (blk_alloc (w := wc.drew) hE1 _) h1
          · obtain rfl := List.mem_singleton.1 hp
            exact two_slw (blk_alloc (w := wc.drew) hE2 _) h2) (by simp [flat, h1, h2]) (by simp) 76 _ rfl 3 rfl
      rw [World.size_alloc] at h
      refine h.mono ?_
      rintro e w' ⟨rfl, hb⟩
      exact ⟨by simp [flat], h0.trans (hb.mono (by simp))⟩
    have HO := hd hO
    have HD := hd hD
    have HB := hd hB
    have hlt : w.heap.size + 2 < wc.heap.size := by omega
    clear hz hO hE1 hE2 hD hB
    go_wp2_with fail
    go_region_with (go_at_call 45; refine HO.out.mono ?_; rintro e w5 ⟨rfl, hb5⟩; have HB5 := hd hb5; have hD5 := (hb5.block _ hlt).trans HD.out; have hcan := can_row (o := 0) (n := 32) hD5 (by simp [ucs_size]); have HD5 := hd hD5; clear hb5 hD5)
    all_goals go_wp2_with fail
    all_goals (
      have hrow := putSub_row (c := ucs (sha (1 :: (d1 ++ d2)))) HD5.out (by simp [ucs_size, sha_length])
      exact bodyPost_ret (ret_row rfl (n := 32) (by kernel_rfl) _ _ (w.heap.size + 2) 0 (ucs (sha (1 :: (d1 ++ d2)))) rfl (sub_row hrow (by rw [ucs_size, sha_length]))) rfl ⟨rfl, Below.putSub (HB.out.trans (HB5.out.mono (by omega))) (by omega)⟩)

end Go.Proofs.Ytjfplkndngmgdaa

namespace Go.Proofs.Ytjfplkndngmgdaa
set_option maxRecDepth 20000
open Go.RowKit

/-- No operation defers. -/
def noDefer (l : List Oper) : Bool := l.all fun o => match o.op with | .defer _ => false | _ => true
theorem noDefer_at {l : List Oper} (h : noDefer l = true) {i : Nat} {o : Oper} (ho : l[i]? = some o) : ∀ c, o.op ≠ .defer c := by
  intro c e
  unfold noDefer at h
  rw [List.all_eq_true] at h
  have := h o (List.mem_of_getElem? ho)
  rw [e] at this
  cases this
theorem opIn_of_op {P : Program} {Q : Exit → Act → World → Prop} {o : Oper} {a : Act} {w : World} {K : Act → World → Prop} (lr n : Nat) (hd : ∀ c, o.op ≠ .defer c) (h : o.wp P a w K Q) : o.wpIn (Fence.wide.inRound lr) n P a w K Q := by
  refine ⟨fun _ _ => trivial, ?_⟩
  have e : o.semAt (Fence.wide.inRound lr).round a.eval = execOp a.eval o := Oper.semAt_some lr _ o hd
  rw [e]
  unfold Oper.wp at h
  generalize (execOp a.eval o).run P w = r at h
  unfold Oper.upon at h
  unfold Oper.uponIn
  split at h
  · exact h
  · exact h
  · exact h
  · exact ⟨(fun h => by cases h), CallsIn.inRound lr (callsIn_wide.2 h)⟩
  · rename_i row args w'
    refine ⟨(fun h => by cases h), ?_⟩
    intro c cs _
    obtain ⟨v, w2, h1, h2⟩ := h c cs
    exact ⟨v, w2, h1, stepsIn_wide.2 h2⟩
  · exact h
  · exact h.elim

section
variable {P : Program} {Q : Exit → Act → World → Prop}
theorem wpIn_region_inv {id : Nat} (lr n : Nat) {l : List Oper} {a0 : Act} {w0 : World} (slots : List Nat) (R : (Nat → Bool) → (Nat → Value) → World → Prop)
    (hm : P.follows .mixedOrders = true) (hdf : noDefer l = true) (hB : okList slots a0.tmps.size l = true)
    (h0 : R (fun _ => false) (fun t => a0.tmps[t]?.getD undef) w0.drew)
    (hsteps : Steps P l.toArray Q slots (fun t => a0.tmps[t]?.getD undef) R l 0)
    (hend : ∀ done σ w, (∀ j, j < l.length → done j = true) → (∀ t, t ∉ slots → σ t = a0.tmps[t]?.getD undef) → R done σ w → Q .normal (putF a0 slots σ) w) :
    (Code.region id l.toArray true).wpIn (Fence.wide.inRound lr) n P Q a0 w0 := by
  have hl : ∀ i o, l[i]? = some o → (∀ e ∈ o.after, Region.binds .any e = true → e.on < i) ∧ (∀ d, o.dst = some d → d ∈ slots) := by
    intro i o ho
    simp only [okList, Bool.and_eq_true, List.all_eq_true] at hB
    have h1 := hB.1 (o, i) (List.mem_zipIdx_iff_getElem?.2 (by simpa using ho))
    refine ⟨fun e he hb => ?_, fun d hd => ?_⟩
    · have := h1.1 e (by simpa using he)
      simpa [hb] using this
    · have h2 := h1.2
      rw [hd] at h2
      simpa using h2
  have hN : ∀ d ∈ slots, d < a0.tmps.size := by
    intro d hd
    simp only [okList, Bool.and_eq_true, List.all_eq_true] at hB
    simpa using hB.2 d hd
  refine wpIn_region_any hm ?_
  have key : ∀ (fuel : Nat) (listed : Array Bool) (a : Act) (w : World), listed.size = l.length →
      ((List.range l.length).filter fun j => !listed.getD j true).length ≤ fuel → a.defers = a0.defers → a.tmps.size = a0.tmps.size → Closed l.toArray (fun j => listed.getD j false) →
      (∃ σ, (∀ t, a.tmps[t]?.getD undef = σ t) ∧ (∀ t, t ∉ slots → σ t = a0.tmps[t]?.getD undef) ∧ R (fun j => listed.getD j false) σ w) →
      wpAnyIn (Fence.wide.inRound lr) n P .any l.toArray Q fuel listed a w := by
    intro fuel
    have fin : ∀ (listed : Array Bool) (a : Act) (w : World), listed.size = l.length → a.defers = a0.defers → a.tmps.size = a0.tmps.size →
        (∃ σ, (∀ t, a.tmps[t]?.getD undef = σ t) ∧ (∀ t, t ∉ slots → σ t = a0.tmps[t]?.getD undef) ∧ R (fun j => listed.getD j false) σ w) →
        Region.ready .any l.toArray listed = [] → Q .normal a w := by
      rintro listed a w hs hd hsz ⟨σ, h1, h2, h3⟩ hr
      have all : ∀ j, j < l.length → listed.getD j false = true := by
        intro j
        induction j using Nat.strongRecOn with
        | _ j ih =>
          intro hj
          cases hlj : listed.getD j false with
          | true => rfl
          | false =>
            exfalso
            have : j ∈ Region.ready .any l.toArray listed := mem_ready.2 ⟨by
              rw [Array.getD_eq_getD_getElem?, Array.getElem?_eq_getElem (by omega)] at hlj ⊢; simpa using hlj,
              l[j], by simp [hj], fun e he hb => ih e.on ((hl j l[j] (by simp [hj])).1 e he hb) (by have := (hl j l[j] (by simp [hj])).1 e he hb; omega)⟩
            rw [hr] at this; cases this
      rw [putF_eq hd hsz h1 h2]
      exact hend _ σ w all h2 h3
    induction fuel with
    | zero =>
      intro listed a w hs hc hd hsz hcl hR
      have hr : Region.ready .any l.toArray listed = [] := by
        apply List.eq_nil_iff_forall_not_mem.2
        intro j hj
        obtain ⟨h1, o, ho, _⟩ := mem_ready.1 hj
        have hlt : j < l.length := by
          have := (List.getElem?_eq_some_iff.1 (by simpa using ho)).1; exact this
        have : j ∈ (List.range l.length).filter fun j => !listed.getD j true := List.mem_filter.2 ⟨List.mem_range.2 hlt, by rw [h1]; rfl⟩
        have := List.length_pos_of_mem this
        omega
      exact ⟨hr, fin listed a w hs hd hsz hR hr⟩
    | succ fuel ih =>
      intro listed a w hs hc hd hsz hcl hR
      refine ⟨fin listed a w hs hd hsz hR, fun i hi => ?_⟩
      obtain ⟨h1, o, ho, hall⟩ := mem_ready.1 hi
      have hol : l[i]? = some o := by simpa using ho
      have hlt : i < l.length := (List.getElem?_eq_some_iff.1 hol).1
      obtain ⟨σ, g1, g2, g3⟩ := hR
      have hi0 : listed.getD i false = false := by
        rw [Array.getD_eq_getD_getElem?, Array.getElem?_eq_getElem (by omega)] at h1 ⊢; simpa using h1
      have hst := hsteps.get i o hol (fun j => listed.getD j false) σ w a (by simpa using hi0)
        (by
          unfold After
          rw [List.all_eq_true]
          intro e he
          cases hb : Region.binds .any e
          · rfl
          · simpa using hall e (by simpa using he) hb) hcl g1 g2 g3
      rw [Nat.zero_add] at hst
      have hmk : mk (fun j => listed.getD j false) i = fun j => (listed.setIfInBounds i true).getD j false := by
        funext j
        by_cases hj : j = i
        · subst hj; rw [mk_self]; simp [hs, hlt]
        · rw [mk_ne _ _ _ hj]; simp [Array.getElem?_setIfInBounds_ne (fun e => hj e.symm)]
      have hcl' : Closed l.toArray (fun j => (listed.setIfInBounds i true).getD j false) := by
        intro j o' ho' hj
        have mono : ∀ k, listed.getD k false = true → (listed.setIfInBounds i true).getD k false = true := fun k hk => getD_set_true hk
        unfold After
        rw [List.all_eq_true]
        intro e he
        cases hb : Region.binds .any e
        · rfl
        · have hj' : (listed.setIfInBounds i true).getD j false = true := hj
          by_cases hji : j = i
          · subst hji
            rw [ho] at ho'
            cases ho'
            simpa using mono e.on (hall e (by simpa using he) hb)
          · have h3 : listed.getD j false = true := by rw [getD_set_ne false (fun e => hji e.symm)] at hj'; exact hj'
            have h4 := hcl j o' ho' h3
            unfold After at h4
            rw [List.all_eq_true] at h4
            have h5 := h4 e he
            rw [hb] at h5
            simpa using mono e.on (by simpa using h5)
      have hcs := count_set hlt hs h1
      have nextA : ∀ v, (a.put o.dst v).defers = a0.defers ∧ (a.put o.dst v).tmps.size = a0.tmps.size := fun v => by
        cases o.dst <;> simp [Act.put, hd, hsz]
      have upd : ∀ v, (∀ t, (a.put o.dst v).tmps[t]?.getD undef = up σ o.dst v t) ∧ (∀ t, t ∉ slots → up σ o.dst v t = a0.tmps[t]?.getD undef) := fun v => by
        cases hdst : o.dst with
        | none => exact ⟨g1, g2⟩
        | some d =>
          have hds := (hl i o hol).2 d hdst
          have hdN := hN d hds
          refine ⟨fun t => ?_, fun t ht => ?_⟩
          · by_cases h : t = d
            · subst h; rw [up_self]; simp [Act.put, hsz, hdN]
            · rw [up_ne _ _ _ _ h, ← g1 t]; simp [Act.put, Array.getElem?_setIfInBounds_ne (fun e => h e.symm)]
          · rw [up_ne _ _ _ _ (fun e => ht (by rw [e]; exact hds))]; exact g2 t ht
      unfold wpOpIn
      rw [ho]
      show if Region.wanted o (yielded l.toArray a.tmps) = true then _ else _
      unfold StepG at hst
      split
      · rename_i hw
        rw [if_pos hw] at hst
        refine opIn_of_op lr n (noDefer_at hdf hol) (Oper.wp_mono ?_ hst)
        rintro a' w' ⟨v, rfl, hR'⟩
        refine ih _ _ _ (by simpa using hs) (by omega) (nextA v).1 (nextA v).2 hcl' ⟨_, (upd v).1, (upd v).2, ?_⟩
        rw [← hmk]; exact hR'
      · rename_i hw
        rw [if_neg hw] at hst
        refine ⟨fun _ _ => trivial, ?_⟩
        refine ih _ _ _ (by simpa using hs) (by omega) (nextA undef).1 (nextA undef).2 hcl' ⟨_, (upd undef).1, (upd undef).2, ?_⟩
        rw [← hmk]; exact hst
  refine key l.toArray.size (Array.replicate l.toArray.size false) a0 w0.drew (by simp) ?_ rfl rfl ?_ ⟨_, fun _ => rfl, fun _ _ => rfl, ?_⟩
  · exact Nat.le_trans (List.length_filter_le _ _) (by simp)
  · intro j o' _ hj
    have hj' : (Array.replicate l.toArray.size false).getD j false = true := hj
    simp [Array.getElem?_replicate] at hj'
    split at hj' <;> simp at hj'
  · have : (fun j => (Array.replicate l.toArray.size false).getD j false) = fun _ => false := by
      funext j; simp [Array.getElem?_replicate]; split <;> rfl
    rw [this]; exact h0
end

end Go.Proofs.Ytjfplkndngmgdaa

namespace Go.Proofs.Ytjfplkndngmgdaa
set_option maxRecDepth 20000
open Go.RowKit Sp

attribute [local go_sem ↓] ldD stD
attribute [local go_sem] run_ldA run_stA arrD loadX_at loadY_some storeX_at storeY_true ucs_size ones_ucs sha_length

theorem row_cl {w : World} {g t : Nat} {l : List UInt8} {fr : Nat × Nat} (h : w.heap[g]? = some (.cells (ucs l) t fr)) : Cl w (some ⟨g, 0, none⟩) (bcs l) :=
  Cl.mk fun j u hj => by rw [Nat.zero_add, cell_of_row w g j _ _ _ h]; simpa [ucs] using hj

set_option maxHeartbeats 1000000 in
set_option maxRecDepth 100000 in
theorem rmark_any (w : World) (d : List UInt8) (hd0 : d.length = 32) :
    Calls Try.prog 41 #[.agg (ucs d)] w fun e w' => e = .returned (.agg (ucs (sha (0 :: d)))) ∧ Below w.heap.size w w' := by
  go_enter Try.func41, Try.ntmps41
  go_upto_region 0 with (fail)
  go_cut [1, 2] (fun d1 d2 wx => d1 = .pointer (some ⟨w.heap.size, 0, none⟩) ∧ d2 = .pointer (some ⟨w.heap.size + 1, 0, none⟩) ∧ wx.heap[w.heap.size]? = some (.cells (ucs d) 35 (0, 0)) ∧ wx.heap[w.heap.size + 1]? = some (.cells (ucs (List.replicate 32 0)) 35 (0, 0)) ∧ wx.heap.size = w.heap.size + 2 ∧ Below w.heap.size w wx)
  case first =>
    go_wp2_with fail
    go_meet
    refine ⟨rfl, rfl, blk_alloc (heap_alloc_new w _) _, ?_, by simp, ((Below.refl _ _).alloc (Nat.le_refl _) _).alloc (by simp) _⟩
    have h := heap_alloc_new (w.alloc (.cells (ucs d) 35)) (.cells (ucs (List.replicate 32 0)) 35)
    rw [World.size_alloc] at h
    exact h
  case rest =>
    obtain ⟨rfl, rfl, hE, hD, hz, hB⟩ := hcut
    have HD := hd hD
    have HB := hd hB
    have HC := hd (row_cl (blk_alloc hE (.cells #[.int .u8 0] 5)))
    have HL := hd (show (bcs d).length = 32 * 1 by rw [bcs_length, hd0])
    have HO := hd (own_made (w := wc) (base := wc.heap.size) [0] (Nat.le_refl _) (by unfold maxLen; simp))
    have hlt : w.heap.size + 1 < wc.heap.size := by omega
    clear hz hE hD hB
    go_wp2_with (first
      | (at_builtin; refine wpList_app rfl (.tmp 3) (.tmp 4) 76 rfl wc.heap.size 5 (.int .u8 0) 1 1 (by kernel_rfl) infoB rfl (by decide) _ 1 (bcs [0]) rfl HO.out (some ⟨w.heap.size, 0, none⟩) 32 32 (bcs d) rfl HL.out (fun e => nomatch e) HC.out (bcs_one _) (by unfold maxLen; omega) (by omega) (by simp) ?_; intro v' w4 ho4 hg4 _; have HO4 := hd (show w4.ownsRow wc.heap.size 5 1 v' 33 (bcs (0 :: d)) from ho4); have HB4 := hd (Below.grown ((Below.refl wc.heap.size wc).alloc (Nat.le_refl _) (.cells #[.int .u8 0] 5)) hg4 (by simp) (fun j hj => by cases hj; exact Nat.le_refl _)); clear ho4 hg4)
      | (go_at_call 46; refine (rsum_v (own_sl HO4.out) (by simp [hd0]) (by omega)).mono ?_; rintro e w5 ⟨rfl, hb5⟩; have HB5 := hd (HB4.out.trans (hb5.mono HB4.out.size)); have hD5 := (HB5.out.block _ hlt).trans HD.out; have hcan := can_row (o := 0) (n := 32) hD5 (by simp [ucs_size]); have HD5 := hd hD5; clear hb5 hD5))
    have hrow := putSub_row (c := ucs (sha (0 :: d))) HD5.out (by simp [ucs_size, sha_length])
    refine bodyPost_ret (ret_row rfl (n := 32) (by kernel_rfl) _ _ (w.heap.size + 1) 0 (ucs (sha (0 :: d))) rfl (sub_row hrow (by rw [ucs_size, sha_length]))) rfl ⟨rfl, Below.putSub (HB.out.trans (HB5.out.mono (by omega))) (by omega)⟩

set_option maxHeartbeats 2000000 in
set_option maxRecDepth 100000 in
theorem rboth_any (w : World) (d1 d2 : List UInt8) (h1 : d1.length = 32) (h2 : d2.length = 32) :
    Calls Try.prog 42 #[.agg (ucs d1), .agg (ucs d2)] w fun e w' => e = .returned (.agg (ucs (sha (1 :: (d1 ++ d2))))) ∧ Below w.heap.size w w' := by
  go_enter Try.func42, Try.ntmps42
  go_upto_region 0 with (fail)
  go_cut [2, 3, 4] (fun v1 v2 v3 wx => v1 = .pointer (some ⟨w.heap.size, 0, none⟩) ∧ v2 = .pointer (some ⟨w.heap.size + 1, 0, none⟩) ∧ v3 = .pointer (some ⟨w.heap.size + 2, 0, none⟩) ∧ wx.heap[w.heap.size]? = some (.cells (ucs d1) 35 (0, 0)) ∧ wx.heap[w.heap.size + 1]? = some (.cells (ucs d2) 35 (0, 0)) ∧ wx.heap[w.heap.size + 2]? = some (.cells (ucs (List.replicate 32 0)) 35 (0, 0)) ∧ wx.heap.size = w.heap.size + 3 ∧ Below w.heap.size w wx)
  case first =>
    go_wp2_with fail
    go_meet
    have h2 := heap_alloc_new (w.alloc (.cells (ucs d1) 35)) (.cells (ucs d2) 35)
    rw [World.size_alloc] at h2
    have h := heap_alloc_new ((w.alloc (.cells (ucs d1) 35)).alloc (.cells (ucs d2) 35)) (.cells (ucs (List.replicate 32 0)) 35)
    rw [World.size_alloc, World.size_alloc] at h
    exact ⟨rfl, rfl, rfl, blk_alloc (blk_alloc (heap_alloc_new w _) _) _, blk_alloc h2 _, h, by simp, (((Below.refl _ _).alloc (Nat.le_refl _) _).alloc (by simp) _).alloc (by simp; omega) _⟩
  case rest =>
    obtain ⟨rfl, rfl, rfl, hE1, hE2, hD, hz, hB⟩ := hcut
    have HD := hd hD
    have HB := hd hB
    have HC1 := hd (row_cl hE1)
    have HC2 := hd (row_cl hE2)
    have HL1 := hd (show (bcs d1).length = 32 * 1 by rw [bcs_length, h1])
    have HL2 := hd (show (bcs d2).length = 32 * 1 by rw [bcs_length, h2])
    have hlt : w.heap.size + 2 < wc.heap.size := by omega
    clear hz hE1 hE2 hD hB
    go_wp2_with fail
    refine wp_region_inv [5, 6, 7, 8, 9, 10] (fun done σ w' => (done 6 = false → Below wc.heap.size wc w') ∧
      (done 0 = true → done 2 = false → w'.ownsRow wc.heap.size 5 1 (σ 5) 1 (bcs [1])) ∧
      (done 1 = true → σ 6 = .slice (some ⟨w.heap.size, 0, none⟩) 32 32) ∧
      (done 2 = true → done 4 = false → w'.ownsRow wc.heap.size 5 1 (σ 7) 33 (bcs (1 :: d1))) ∧
      (done 3 = true → σ 8 = .slice (some ⟨w.heap.size + 1, 0, none⟩) 32 32) ∧
      (done 4 = true → done 5 = false → w'.ownsRow wc.heap.size 5 1 (σ 9) 65 (bcs (1 :: (d1 ++ d2)))) ∧
      (done 5 = true → σ 10 = .agg (ucs (sha (1 :: (d1 ++ d2))))) ∧
      (done 6 = true → Below w.heap.size w w' ∧ w'.heap[w.heap.size + 2]? = some (.cells (ucs (sha (1 :: (d1 ++ d2)))) 35 (0, 0)))) (by kernel_rfl) (by kernel_rfl) ?_ ?_ ?_
    · simp
      exact Below.drew (Below.refl _ _)
    · refine ⟨fun done σ w' a hi hA hC ha hσ ⟨hR, r0, r1, r2, r3, r4, r5, r6⟩ => ?_, ?_⟩
      · have d6 := hC.at 0 6 _ rfl hi rfl
        refine stepG_plain rfl fun K hK => ?_
        go_simp
        refine hK _ _ ?_
        simp [mk, up]
        exact ⟨fun h => (hR h).alloc (hR h).size _, fun _ => own_made [1] (hR d6).size (by unfold maxLen; simp), r1, fun h h' => own_below (r2 h h') ((Below.refl _ _).alloc (Nat.le_refl _) _), r3, fun h h' => own_below (r4 h h') ((Below.refl _ _).alloc (Nat.le_refl _) _), r5, (fun h => by rw [d6] at h; cases h)⟩
      refine ⟨fun done σ w' a hi hA hC ha hσ ⟨hR, r0, r1, r2, r3, r4, r5, r6⟩ => ?_, ?_⟩
      · have e0 := hσ 2 (by simp)
        simp only [List.getElem?_toArray] at e0
        refine stepG_plain rfl fun K hK => ?_
        go_simp
        refine hK _ _ ?_
        simp [mk, up]
        exact ⟨hR, r0, r2, r3, r4, r5, r6⟩
      refine ⟨fun done σ w' a hi hA hC ha hσ ⟨hR, r0, r1, r2, r3, r4, r5, r6⟩ => ?_, ?_⟩
      · simp [After, Region.binds] at hA
        have d6 := hC.at 2 6 _ rfl hi rfl
        have e0 := r0 (by first | exact hA | exact hA.1 | exact hA.2 | exact hA.2.1 | exact hA.2.2 | exact hA.2.2.1 | exact hA.2.2.2 | exact hA.2.2.2.1 | exact hA.2.2.2.2 | exact hA.2.2.2.2.1 | exact hA.2.2.2.2.2 | exact hA.2.2.2.2.2.1 | exact hA.2.2.2.2.2.2 | exact hA.2.2.2.2.2.2.1 | exact hA.2.2.2.2.2.2.2 | exact hA.2.2.2.2.2.2.2.1 | exact hA.2.2.2.2.2.2.2.2 | exact hA.2.2.2.2.2.2.2.2.1 | exact hA.2.2.2.2.2.2.2.2.2) hi
        have e1 := r1 (by first | exact hA | exact hA.1 | exact hA.2 | exact hA.2.1 | exact hA.2.2 | exact hA.2.2.1 | exact hA.2.2.2 | exact hA.2.2.2.1 | exact hA.2.2.2.2 | exact hA.2.2.2.2.1 | exact hA.2.2.2.2.2 | exact hA.2.2.2.2.2.1 | exact hA.2.2.2.2.2.2 | exact hA.2.2.2.2.2.2.1 | exact hA.2.2.2.2.2.2.2 | exact hA.2.2.2.2.2.2.2.1 | exact hA.2.2.2.2.2.2.2.2 | exact hA.2.2.2.2.2.2.2.2.1 | exact hA.2.2.2.2.2.2.2.2.2)
        refine stepG_plain rfl fun K hK => ?_
        refine wp_app (.tmp 5) (.tmp 6) 76 rfl wc.heap.size 5 (.int .u8 0) 1 1 (by kernel_rfl) infoB rfl (by decide) (σ 5) 1 (bcs [1]) (ev_tmp ha) (e0) (some ⟨w.heap.size, 0, none⟩) 32 32 (bcs d1) ((ev_tmp ha).trans e1) HL1.out (fun e => nomatch e) (HC1.out.below (hR d6)) (bcs_one _) (by unfold maxLen; omega) (by omega) (hR d6).size ?_
        intro v' w2 ho2 hg2 _
        refine hK _ _ ?_
        simp [mk, up]
        exact ⟨fun h => (hR h).grown hg2 (hR h).size (fun j hj => (e0.lt j hj).1), r1, fun _ => ho2, r3, (fun h => by have d4 := hC.at 2 4 _ rfl hi rfl; rw [d4] at h; cases h), r5, (fun h => by rw [d6] at h; cases h)⟩
      refine ⟨fun done σ w' a hi hA hC ha hσ ⟨hR, r0, r1, r2, r3, r4, r5, r6⟩ => ?_, ?_⟩
      · have e0 := hσ 3 (by simp)
        simp only [List.getElem?_toArray] at e0
        refine stepG_plain rfl fun K hK => ?_
        go_simp
        refine hK _ _ ?_
        simp [mk, up]
        exact ⟨hR, r0, r1, r2, r4, r5, r6⟩
      refine ⟨fun done σ w' a hi hA hC ha hσ ⟨hR, r0, r1, r2, r3, r4, r5, r6⟩ => ?_, ?_⟩
      · simp [After, Region.binds] at hA
        have d6 := hC.at 4 6 _ rfl hi rfl
        have e0 := r2 (by first | exact hA | exact hA.1 | exact hA.2 | exact hA.2.1 | exact hA.2.2 | exact hA.2.2.1 | exact hA.2.2.2 | exact hA.2.2.2.1 | exact hA.2.2.2.2 | exact hA.2.2.2.2.1 | exact hA.2.2.2.2.2 | exact hA.2.2.2.2.2.1 | exact hA.2.2.2.2.2.2 | exact hA.2.2.2.2.2.2.1 | exact hA.2.2.2.2.2.2.2 | exact hA.2.2.2.2.2.2.2.1 | exact hA.2.2.2.2.2.2.2.2 | exact hA.2.2.2.2.2.2.2.2.1 | exact hA.2.2.2.2.2.2.2.2.2) hi
        have e1 := r3 (by first | exact hA | exact hA.1 | exact hA.2 | exact hA.2.1 | exact hA.2.2 | exact hA.2.2.1 | exact hA.2.2.2 | exact hA.2.2.2.1 | exact hA.2.2.2.2 | exact hA.2.2.2.2.1 | exact hA.2.2.2.2.2 | exact hA.2.2.2.2.2.1 | exact hA.2.2.2.2.2.2 | exact hA.2.2.2.2.2.2.1 | exact hA.2.2.2.2.2.2.2 | exact hA.2.2.2.2.2.2.2.1 | exact hA.2.2.2.2.2.2.2.2 | exact hA.2.2.2.2.2.2.2.2.1 | exact hA.2.2.2.2.2.2.2.2.2)
        have h2' : done 2 = true := (by first | exact hA | exact hA.1 | exact hA.2 | exact hA.2.1 | exact hA.2.2 | exact hA.2.2.1 | exact hA.2.2.2 | exact hA.2.2.2.1 | exact hA.2.2.2.2 | exact hA.2.2.2.2.1 | exact hA.2.2.2.2.2 | exact hA.2.2.2.2.2.1 | exact hA.2.2.2.2.2.2 | exact hA.2.2.2.2.2.2.1 | exact hA.2.2.2.2.2.2.2 | exact hA.2.2.2.2.2.2.2.1 | exact hA.2.2.2.2.2.2.2.2 | exact hA.2.2.2.2.2.2.2.2.1 | exact hA.2.2.2.2.2.2.2.2.2)
        have d5 := hC.at 4 5 _ rfl hi rfl
        refine stepG_plain rfl fun K hK => ?_
        refine wp_app (.tmp 7) (.tmp 8) 76 rfl wc.heap.size 5 (.int .u8 0) 1 1 (by kernel_rfl) infoB rfl (by decide) (σ 7) 33 (bcs (1 :: d1)) (ev_tmp ha) (e0) (some ⟨w.heap.size + 1, 0, none⟩) 32 32 (bcs d2) ((ev_tmp ha).trans e1) HL2.out (fun e => nomatch e) (HC2.out.below (hR d6)) (bcs_one _) (by unfold maxLen; omega) (by omega) (hR d6).size ?_
        intro v' w2 ho2 hg2 _
        refine hK _ _ ?_
        simp [mk, up]
        exact ⟨fun h => (hR h).grown hg2 (hR h).size (fun j hj => (e0.lt j hj).1), (fun _ h => by rw [h2'] at h; cases h), r1, r3, fun _ => by rw [← List.cons_append, bcs_append]; exact ho2, r5, (fun h => by rw [d6] at h; cases h)⟩
      refine ⟨fun done σ w' a hi hA hC ha hσ ⟨hR, r0, r1, r2, r3, r4, r5, r6⟩ => ?_, ?_⟩
      · simp [After, Region.binds] at hA
        have d6 := hC.at 5 6 _ rfl hi rfl
        have e0 := r4 (by first | exact hA | exact hA.1 | exact hA.2 | exact hA.2.1 | exact hA.2.2 | exact hA.2.2.1 | exact hA.2.2.2 | exact hA.2.2.2.1 | exact hA.2.2.2.2 | exact hA.2.2.2.2.1 | exact hA.2.2.2.2.2 | exact hA.2.2.2.2.2.1 | exact hA.2.2.2.2.2.2 | exact hA.2.2.2.2.2.2.1 | exact hA.2.2.2.2.2.2.2 | exact hA.2.2.2.2.2.2.2.1 | exact hA.2.2.2.2.2.2.2.2 | exact hA.2.2.2.2.2.2.2.2.1 | exact hA.2.2.2.2.2.2.2.2.2) hi
        have h4' : done 4 = true := (by first | exact hA | exact hA.1 | exact hA.2 | exact hA.2.1 | exact hA.2.2 | exact hA.2.2.1 | exact hA.2.2.2 | exact hA.2.2.2.1 | exact hA.2.2.2.2 | exact hA.2.2.2.2.1 | exact hA.2.2.2.2.2 | exact hA.2.2.2.2.2.1 | exact hA.2.2.2.2.2.2 | exact hA.2.2.2.2.2.2.1 | exact hA.2.2.2.2.2.2.2 | exact hA.2.2.2.2.2.2.2.1 | exact hA.2.2.2.2.2.2.2.2 | exact hA.2.2.2.2.2.2.2.2.1 | exact hA.2.2.2.2.2.2.2.2.2)
        refine stepG_plain rfl fun K hK => ?_
        go_simp
        refine (rsum_v (own_sl e0) (by simp [h1, h2]) (by omega)).mono ?_
        rintro e w2 ⟨rfl, hb2⟩
        refine hK _ _ ?_
        simp [mk, up]
        exact ⟨fun h => (hR h).trans (hb2.mono (hR h).size), fun h h' => own_below (r0 h h') hb2, r1, (fun _ h => by rw [h4'] at h; cases h), r3, (fun h => by rw [d6] at h; cases h)⟩
      refine ⟨fun done σ w' a hi hA hC ha hσ ⟨hR, r0, r1, r2, r3, r4, r5, r6⟩ => ?_, trivial⟩
      · simp [After, Region.binds] at hA
        have e0 := r5 (by first | exact hA | exact hA.1 | exact hA.2 | exact hA.2.1 | exact hA.2.2 | exact hA.2.2.1 | exact hA.2.2.2 | exact hA.2.2.2.1 | exact hA.2.2.2.2 | exact hA.2.2.2.2.1 | exact hA.2.2.2.2.2 | exact hA.2.2.2.2.2.1 | exact hA.2.2.2.2.2.2 | exact hA.2.2.2.2.2.2.1 | exact hA.2.2.2.2.2.2.2 | exact hA.2.2.2.2.2.2.2.1 | exact hA.2.2.2.2.2.2.2.2 | exact hA.2.2.2.2.2.2.2.2.1 | exact hA.2.2.2.2.2.2.2.2.2)
        have q2 : done 2 = true := (by first | exact hA | exact hA.1 | exact hA.2 | exact hA.2.1 | exact hA.2.2 | exact hA.2.2.1 | exact hA.2.2.2 | exact hA.2.2.2.1 | exact hA.2.2.2.2 | exact hA.2.2.2.2.1 | exact hA.2.2.2.2.2 | exact hA.2.2.2.2.2.1 | exact hA.2.2.2.2.2.2 | exact hA.2.2.2.2.2.2.1 | exact hA.2.2.2.2.2.2.2 | exact hA.2.2.2.2.2.2.2.1 | exact hA.2.2.2.2.2.2.2.2 | exact hA.2.2.2.2.2.2.2.2.1 | exact hA.2.2.2.2.2.2.2.2.2)
        have q4 : done 4 = true := (by first | exact hA | exact hA.1 | exact hA.2 | exact hA.2.1 | exact hA.2.2 | exact hA.2.2.1 | exact hA.2.2.2 | exact hA.2.2.2.1 | exact hA.2.2.2.2 | exact hA.2.2.2.2.1 | exact hA.2.2.2.2.2 | exact hA.2.2.2.2.2.1 | exact hA.2.2.2.2.2.2 | exact hA.2.2.2.2.2.2.1 | exact hA.2.2.2.2.2.2.2 | exact hA.2.2.2.2.2.2.2.1 | exact hA.2.2.2.2.2.2.2.2 | exact hA.2.2.2.2.2.2.2.2.1 | exact hA.2.2.2.2.2.2.2.2.2)
        have q5 : done 5 = true := (by first | exact hA | exact hA.1 | exact hA.2 | exact hA.2.1 | exact hA.2.2 | exact hA.2.2.1 | exact hA.2.2.2 | exact hA.2.2.2.1 | exact hA.2.2.2.2 | exact hA.2.2.2.2.1 | exact hA.2.2.2.2.2 | exact hA.2.2.2.2.2.1 | exact hA.2.2.2.2.2.2 | exact hA.2.2.2.2.2.2.1 | exact hA.2.2.2.2.2.2.2 | exact hA.2.2.2.2.2.2.2.1 | exact hA.2.2.2.2.2.2.2.2 | exact hA.2.2.2.2.2.2.2.2.1 | exact hA.2.2.2.2.2.2.2.2.2)
        have e1 := hσ 4 (by simp)
        simp only [List.getElem?_toArray] at e1
        have hD5 := ((hR hi).block _ hlt).trans HD.out
        have hcan := can_row (o := 0) (n := 32) hD5 (by simp [ucs_size])
        refine stepG_plain rfl fun K hK => ?_
        go_simp
        refine hK undef _ ?_
        simp [mk, up_none]
        exact ⟨(fun _ h => by rw [q2] at h; cases h), r1, (fun _ h => by rw [q4] at h; cases h), r3, (fun _ h => by rw [q5] at h; cases h), r5, ⟨Below.putSub (HB.out.trans ((hR hi).mono (by omega))) (by omega), putSub_row hD5 (by simp [ucs_size, sha_length])⟩⟩
    · rintro done σ w' hall hσ ⟨hR, r0, r1, r2, r3, r4, r5, r6⟩
      obtain ⟨hB6, hD6⟩ := r6 (hall 6 (by simp))
      simp only [putF, List.foldl_cons, List.foldl_nil, Act.put, List.setIfInBounds_toArray, List.set_cons_succ, List.set_cons_zero]
      have HB6 := hd hB6
      have HD6 := hd hD6
      clear hσ r0 r1 r2 r3 r4 r5 r6 hall hR hB6 hD6
      go_wp2_with fail
      exact bodyPost_ret (ret_row rfl (n := 32) (by kernel_rfl) _ _ (w.heap.size + 2) 0 (ucs (sha (1 :: (d1 ++ d2)))) rfl (sub_row HD6.out (by rw [ucs_size, sha_length]))) rfl ⟨rfl, HB6.out⟩

end Go.Proofs.Ytjfplkndngmgdaa

namespace Go.Proofs.Ytjfplkndngmgdaa
set_option maxRecDepth 20000
open Go.RowKit Go.Shelf Sp

def dcs (ds : List Dg) : List Value := bcs ds.flatten
def All32 (ds : List Dg) : Prop := ∀ d ∈ ds, d.length = 32
theorem All32.tail {d : Dg} {ds : List Dg} (h : All32 (d :: ds)) : All32 ds := fun x hx => h x (List.mem_cons_of_mem _ hx)
theorem All32.drop {ds : List Dg} (h : All32 ds) (q : Nat) : All32 (ds.drop q) := fun x hx => h x (List.mem_of_mem_drop hx)
theorem All32.take {ds : List Dg} (h : All32 ds) (q : Nat) : All32 (ds.take q) := fun x hx => h x (List.mem_of_mem_take hx)
theorem All32.snoc {ds : List Dg} {d : Dg} (h : All32 ds) (hd : d.length = 32) : All32 (ds ++ [d]) := fun x hx => by
  rcases List.mem_append.1 hx with h1 | h1
  · exact h x h1
  · obtain rfl := List.mem_singleton.1 h1; exact hd
theorem All32.nil : All32 [] := fun _ h => by cases h
theorem All32.get {ds : List Dg} (h : All32 ds) {k : Nat} {d : Dg} (hk : ds[k]? = some d) : d.length = 32 := h d (List.mem_of_getElem? hk)
theorem flat_len : ∀ {ds : List Dg}, All32 ds → ds.flatten.length = ds.length * 32
  | [], _ => rfl
  | d :: ds, h => by
    have h1 := h d (List.mem_cons_self ..)
    have h2 := flat_len h.tail
    simp only [List.flatten_cons, List.length_append, List.length_cons]
    omega
theorem dcs_length {ds : List Dg} (h : All32 ds) : (dcs ds).length = ds.length * 32 := by rw [dcs, bcs_length, flat_len h]
theorem dflat_drop : ∀ {ds : List Dg} (k : Nat), All32 ds → ds.flatten.drop (k * 32) = (ds.drop k).flatten
  | ds, 0, _ => by simp
  | [], k + 1, _ => by simp
  | d :: ds, k + 1, h => by
    have h1 := h d (List.mem_cons_self ..)
    rw [show (k + 1) * 32 = d.length + k * 32 by omega, List.flatten_cons, List.drop_length_add_append, dflat_drop k h.tail]
    rfl
theorem dflat_take : ∀ {ds : List Dg} (k : Nat), All32 ds → ds.flatten.take (k * 32) = (ds.take k).flatten
  | ds, 0, _ => by simp
  | [], k + 1, _ => by simp
  | d :: ds, k + 1, h => by
    have h1 := h d (List.mem_cons_self ..)
    rw [show (k + 1) * 32 = d.length + k * 32 by omega, List.flatten_cons, List.take_length_add_append, dflat_take k h.tail]
    rfl
theorem dcs_drop {ds : List Dg} (h : All32 ds) (q : Nat) : (dcs ds).drop (q * 32) = dcs (ds.drop q) := by rw [dcs, bcs_drop, dflat_drop q h]; rfl
theorem dcs_take {ds : List Dg} (h : All32 ds) (q : Nat) : (dcs ds).take (q * 32) = dcs (ds.take q) := by rw [dcs, bcs_take, dflat_take q h]; rfl
theorem dcs_snoc (ds : List Dg) (d : Dg) : dcs (ds ++ [d]) = dcs ds ++ bcs d := by simp [dcs, bcs]
theorem dcs_one (ds : List Dg) : ∀ u ∈ dcs ds, u.oneCell' = true := bcs_one _
theorem dcs_single (d : Dg) : dcs [d] = bcs d := by simp [dcs]
theorem infoD : (Try.prog.info? 35).map (fun i => (i.zero, i.size, i.bytes)) = some (some (.agg (ucs (List.replicate 32 0))), 32, 32) := by kernel_rfl
/-- A slice that reads as these digests. -/
def SlD (w : World) (v : Value) (ds : List Dg) (m : Nat) : Prop := ∃ A c, v = .slice A m c ∧ ds.length = m ∧ All32 ds ∧ m ≤ c ∧ c ≤ maxLen ∧ (A = none → m = 0 ∧ c = 0) ∧ Cl w A (dcs ds)
theorem SlD.keep {w w' : World} {v : Value} {ds : List Dg} {m : Nat} (h : SlD w v ds m) (hk : ∀ k, v.ownBlock = some k → k < w.heap.size → w'.heap[k]? = w.heap[k]?) : SlD w' v ds m := by
  obtain ⟨A, c, rfl, h2, h3, h4, h5, h6, h7⟩ := h
  exact ⟨A, c, rfl, h2, h3, h4, h5, h6, h7.keep fun a ha hlt => hk a.block (by rw [ha]; rfl) hlt⟩
theorem SlD.below {w w' : World} {v : Value} {ds : List Dg} {m : Nat} (h : SlD w v ds m) (hb : Below w.heap.size w w') : SlD w' v ds m := h.keep fun k _ hlt => hb.block k hlt
theorem own_sld {w : World} {base n : Nat} {v : Value} {ds : List Dg} (h : w.ownsRow base 35 32 v n (dcs ds)) (h32 : All32 ds) : SlD w v ds n := by
  obtain ⟨A, c, e, h1, h2, h3, _, h5⟩ := own_cl h
  have h9 := h.1
  rw [dcs_length h32] at h9
  exact ⟨A, c, e, by omega, h32, h1, h2, h5, h3⟩
theorem SlD.at {w : World} {A : Option Addr} {m c : Nat} {ds : List Dg} (h : SlD w (.slice A m c) ds m) (hm : 0 < m) : ∃ b o, A = some ⟨b, o, none⟩ ∧ b < w.heap.size := by
  obtain ⟨A', c', e, h2, h3, h4, h5, h6, h7⟩ := h
  cases e
  obtain ⟨b, o, e, hb, _⟩ := h7.at (by intro e; have := dcs_length h3; rw [e] at this; simp at this; omega)
  exact ⟨b, o, e, hb⟩
theorem SlD.sub {w : World} {b o m c : Nat} {ds : List Dg} (h : SlD w (.slice (some ⟨b, o, none⟩) m c) ds m) (k : Nat) {d : Dg} (hk : ds[k]? = some d) : sub? w b (o + k * 32) 32 = some (ucs d) := by
  obtain ⟨A', c', e, h2, h3, h4, h5, h6, h7⟩ := h
  cases e
  have hlt : k < ds.length := (List.getElem?_eq_some_iff.1 hk).1
  have hd := (List.getElem?_eq_some_iff.1 hk).2
  have h32 := h3.get hk
  have h8 := (h7.drop (k * 32)).take 32
  rw [dcs_drop h3, show (32 : Nat) = 1 * 32 from rfl, dcs_take (h3.drop k), List.drop_eq_getElem_cons hlt, hd] at h8
  simp only [List.take_succ_cons, List.take_zero, dcs_single] at h8
  have h9 := h8.sub (by intro e; have := bcs_length d; rw [e] at this; simp at this; omega)
  rw [bcs_length, h32] at h9
  exact h9
/-- A slice of it. -/
theorem SlD.cut {w : World} {b o m c : Nat} {ds : List Dg} (h : SlD w (.slice (some ⟨b, o, none⟩) m c) ds m) (q r c' : Nat) (hq : q + r ≤ m) (hr : r ≤ c') (hc : c' ≤ maxLen) : SlD w (.slice (some ⟨b, o + q * 32, none⟩) r c') ((ds.drop q).take r) r := by
  obtain ⟨A', c1, e, h2, h3, h4, h5, h6, h7⟩ := h
  cases e
  refine ⟨_, _, rfl, by simp; omega, (h3.drop q).take r, hr, hc, (fun e => nomatch e), ?_⟩
  have h8 := (h7.drop (q * 32)).take (r * 32)
  rwa [dcs_drop h3, dcs_take (h3.drop q)] at h8
theorem SlD.all {w : World} {v : Value} {ds : List Dg} {m : Nat} (h : SlD w v ds m) : All32 ds := by obtain ⟨_, _, _, _, h3, _⟩ := h; exact h3
theorem SlD.len {w : World} {v : Value} {ds : List Dg} {m : Nat} (h : SlD w v ds m) : ds.length = m := by obtain ⟨_, _, _, h2, _⟩ := h; exact h2
theorem SlD.val {w : World} {v : Value} {ds : List Dg} {m : Nat} (h : SlD w v ds m) : ∃ A c, v = .slice A m c ∧ m ≤ c ∧ c ≤ maxLen := by obtain ⟨A, c, e, _, _, h4, h5, _⟩ := h; exact ⟨A, c, e, h4, h5⟩

attribute [local go_sem ↓] ldD stD
attribute [local go_sem] run_ldA run_stA arrD loadX_at loadY_some storeX_at storeY_true ucs_size ones_ucs sha_length

set_option maxHeartbeats 1000000 in
set_option maxRecDepth 100000 in
theorem clone_d (w : World) (A : Option Addr) (m c : Nat) (ds : List Dg) (hs : SlD w (.slice A m c) ds m) (hm : m ≤ 1000) (hm0 : 0 < m) :
    Calls Try.prog 31 #[.slice A m c] w fun e w' => ∃ v, e = .returned v ∧ w'.ownsRow w.heap.size 35 32 v m (dcs ds) ∧ Below w.heap.size w w' := by
  obtain ⟨b, o, rfl, hb⟩ := hs.at hm0
  obtain ⟨A', c', e, h2, h3, h4, h5, h6, h7⟩ := hs
  cases e
  have HX := hd h7
  have HL := hd (show (dcs ds).length = m * 32 by rw [dcs_length h3, h2])
  have b1 : 0 + m ≤ maxLen := by unfold maxLen; omega
  have b2 : (0 + m) * 32 ≤ 140737488355328 := by omega
  have hq := fun (W : World) (B : Option Addr) => Lib.run_eql_slice_nil (P := Try.prog) W 30 35 B m c 0 0 (by kernel_rfl)
  clear h7 h3 h2
  go_enter Try.func31, Try.ntmps31
  go_wp2_with (at_builtin; refine wpList_app rfl (.tmp 5) (.tmp 6) 30 rfl w.heap.size 35 (.agg (ucs (List.replicate 32 0))) 32 32 (by kernel_rfl) infoD rfl (by decide) _ 0 [] rfl (World.ownsRow_made w #[] 0 (Nat.le_refl _) (Nat.zero_le _) rfl) (some ⟨b, o, none⟩) m c (dcs ds) rfl HL.out (fun e => nomatch e) (HX.out.alloc _) (dcs_one ds) b1 b2 (Nat.le_of_lt (by simp)) ?_; intro v w1 ho hg _; have HO := hd ho; have HG := hd hg; clear ho hg)
  go_ret
  refine ⟨v, rfl, by simpa using HO.out, ?_⟩
  exact ((Below.refl _ _).alloc (Nat.le_refl _) _).grown HG.out (by simp) (fun k hk => by cases hk; exact Nat.le_refl _)

set_option maxHeartbeats 1000000 in
set_option maxRecDepth 100000 in
theorem new1_any (w : World) (b o c : Nat) (xs : List Dg) (hs : SlD w (.slice (some ⟨b, o, none⟩) 1 c) xs 1) :
    Calls Try.prog 33 #[.slice (some ⟨b, o, none⟩) 1 c] w fun e w' => e = .returned (.agg (ucs (mrk (xs.headD [])))) ∧ Below w.heap.size w w' := by
  obtain ⟨d, hx⟩ : ∃ d, xs[0]? = some d := ⟨xs[0]'(by have := hs.len; omega), by simp⟩
  have hh : xs.headD [] = d := by cases xs with
    | nil => cases hx
    | cons a r => simpa using hx
  have h32 := hs.all.get hx
  have hsub := hs.sub 0 hx
  rw [Nat.zero_mul, Nat.add_zero] at hsub
  have hblt : b < w.heap.size := by obtain ⟨_, _, e, h⟩ := hs.at (Nat.lt_succ_self 0); cases e; exact h
  rw [hh]
  clear hs hh hx
  have HS := hd hsub
  clear hsub
  go_enter Try.func33, Try.ntmps33
  go_upto_region 0 with (fail)
  go_cut [2] (fun v1 wx => v1 = .pointer (some ⟨w.heap.size, 0, none⟩) ∧ wx.heap[w.heap.size]? = some (.cells (ucs (List.replicate 32 0)) 35 (0, 0)) ∧ wx.heap.size = w.heap.size + 1 ∧ Below w.heap.size w wx)
  case first =>
    go_wp2_with fail
    go_meet
    exact ⟨rfl, heap_alloc_new w _, by simp, (Below.refl _ _).alloc (Nat.le_refl _) _⟩
  case rest =>
    obtain ⟨rfl, hD, hz, hB⟩ := hcut
    have HD := hd hD
    have HB := hd hB
    have hsub : sub? wc b o 32 = some (ucs d) := (sub_of_heap (hB.block b hblt)).trans HS.out
    have hlt : w.heap.size < wc.heap.size := by omega
    clear hD hB hz
    go_wp2_with (go_at_call 34; refine (mark_any _ d h32).mono ?_; rintro e w5 ⟨rfl, hb5⟩; have HB5 := hd hb5; have hD5 := (hb5.block _ hlt).trans HD.out; have hcan := can_row (o := 0) (n := 32) hD5 (by simp [ucs_size]); have HD5 := hd hD5; clear hb5 hD5)
    have hrow := putSub_row (c := ucs (mrk d)) HD5.out (by simp [ucs_size, mrk_length])
    refine bodyPost_ret (ret_row rfl (n := 32) (by kernel_rfl) _ _ w.heap.size 0 (ucs (mrk d)) rfl (sub_row hrow (by rw [ucs_size, mrk_length]))) rfl ⟨rfl, Below.putSub (HB.out.trans (HB5.out.mono (by omega))) (Nat.le_refl _)⟩

end Go.Proofs.Ytjfplkndngmgdaa

namespace Go.Proofs.Ytjfplkndngmgdaa
set_option maxRecDepth 20000
open Go.RowKit Go.Shelf Sp

attribute [local go_sem ↓] ldD stD
attribute [local go_sem] run_ldA run_stA arrD loadX_at loadY_some storeX_at storeY_true ucs_size ones_ucs sha_length

set_option maxHeartbeats 1000000 in
set_option maxRecDepth 100000 in
theorem new2_any (w : World) (b o r c : Nat) (xs : List Dg) (h0 : 1 ≤ r) (hr : r ≤ 2) (hs : SlD w (.slice (some ⟨b, o, none⟩) r c) xs r) :
    Calls Try.prog 35 #[.slice (some ⟨b, o, none⟩) r c] w fun e w' => e = .returned (.agg (ucs (pair xs))) ∧ Below w.heap.size w w' := by
  have hlen := hs.len
  have hblt : b < w.heap.size := by obtain ⟨_, _, e, h⟩ := hs.at (by omega); cases e; exact h
  obtain ⟨d, hx⟩ : ∃ d, xs[0]? = some d := ⟨xs[0]'(by omega), by simp⟩
  have h32 := hs.all.get hx
  have hsub := hs.sub 0 hx
  rw [Nat.zero_mul, Nat.add_zero] at hsub
  have HS := hd hsub
  clear hsub
  by_cases h1 : r = 1
  · subst h1
    have hp : pair xs = d := by
      match xs, hlen, hx with
      | [a], _, hx => simpa [pair] using hx
    rw [hp]
    clear hs hp hx
    go_enter Try.func35, Try.ntmps35
    go_upto_region 0 with (fail)
    go_cut [2] (fun v1 wx => v1 = .pointer (some ⟨w.heap.size, 0, none⟩) ∧ wx.heap[w.heap.size]? = some (.cells (ucs (List.replicate 32 0)) 35 (0, 0)) ∧ wx.heap.size = w.heap.size + 1 ∧ Below w.heap.size w wx)
    case first =>
      go_wp2_with fail
      go_meet
      exact ⟨rfl, heap_alloc_new w _, by simp, (Below.refl _ _).alloc (Nat.le_refl _) _⟩
    case rest =>
      obtain ⟨rfl, hD, hz, hB⟩ := hcut
      have HD := hd hD
      have HB := hd hB
      have hsub : sub? wc b o 32 = some (ucs d) := (sub_of_heap (hB.block b hblt)).trans HS.out
      have hcan := can_row (o := 0) (n := 32) hD (by simp [ucs_size])
      have hlt : w.heap.size < wc.heap.size := by omega
      clear hD hB hz
      go_wp2_with fail
      have hrow := putSub_row (c := ucs d) HD.out (by simp [ucs_size, h32])
      refine bodyPost_ret (ret_row rfl (n := 32) (by kernel_rfl) _ _ w.heap.size 0 (ucs d) rfl (sub_row hrow (by rw [ucs_size, h32]))) rfl ⟨rfl, Below.putSub HB.out (Nat.le_refl _)⟩
  · obtain rfl : r = 2 := by omega
    obtain ⟨d', hx'⟩ : ∃ d, xs[1]? = some d := ⟨xs[1]'(by omega), by simp⟩
    have h32' := hs.all.get hx'
    have hsub' := hs.sub 1 hx'
    rw [Nat.one_mul] at hsub'
    have HS' := hd hsub'
    have hp : pair xs = bth d d' := by
      match xs, hlen, hx, hx' with
      | [a, b], _, hx, hx' =>
        simp at hx hx'
        subst hx; subst hx'
        rfl
    rw [hp]
    clear hs hp hx hx' hsub' h1
    go_enter Try.func35, Try.ntmps35
    go_upto_region 0 with (fail)
    go_cut [2] (fun v1 wx => v1 = .pointer (some ⟨w.heap.size, 0, none⟩) ∧ wx.heap[w.heap.size]? = some (.cells (ucs (List.replicate 32 0)) 35 (0, 0)) ∧ wx.heap.size = w.heap.size + 1 ∧ Below w.heap.size w wx)
    case first =>
      go_wp2_with fail
      go_meet
      exact ⟨rfl, heap_alloc_new w _, by simp, (Below.refl _ _).alloc (Nat.le_refl _) _⟩
    case rest =>
      obtain ⟨rfl, hD, hz, hB⟩ := hcut
      have HD := hd hD
      have HB := hd hB
      have hsub : sub? wc b o 32 = some (ucs d) := (sub_of_heap (hB.block b hblt)).trans HS.out
      have hsub' : sub? wc b (o + 32) 32 = some (ucs d') := (sub_of_heap (hB.block b hblt)).trans HS'.out
      have hlt : w.heap.size < wc.heap.size := by omega
      clear hD hB hz
      go_wp2_with fail
      go_region_with (go_at_call 36; refine (both_any _ d d' h32 h32').mono ?_; rintro e w5 ⟨rfl, hb5⟩; have HB5 := hd hb5; have hD5 := (hb5.block _ hlt).trans HD.out; have hcan := can_row (o := 0) (n := 32) hD5 (by simp [ucs_size]); have HD5 := hd hD5; clear hb5 hD5)
      all_goals go_wp2_with fail
      all_goals (
        have hrow := putSub_row (c := ucs (bth d d')) HD5.out (by simp [ucs_size, bth_length])
        exact bodyPost_ret (ret_row rfl (n := 32) (by kernel_rfl) _ _ w.heap.size 0 (ucs (bth d d')) rfl (sub_row hrow (by rw [ucs_size, bth_length]))) rfl ⟨rfl, Below.putSub ((Below.drew HB.out).trans (HB5.out.mono (show w.heap.size ≤ wc.heap.size by omega))) (Nat.le_refl _)⟩)

/-- What has turned: blocks of which p holds. -/
structure Chg (p : Nat → Prop) (W W' : World) : Prop where
  os : W'.os = W.os
  tape : W'.tape = W.tape
  output : W'.output = W.output
  size : W.heap.size ≤ W'.heap.size
  block : ∀ k, k < W.heap.size → ¬ p k → W'.heap[k]? = W.heap[k]?
theorem Chg.trans {p q : Nat → Prop} {A B C : World} (h : Chg p A B) (k : Chg q B C) (hq : ∀ j, j < A.heap.size → q j → p j) : Chg p A C :=
  ⟨k.os.trans h.os, k.tape.trans h.tape, k.output.trans h.output, Nat.le_trans h.size k.size, fun j hj hp => (k.block j (Nat.lt_of_lt_of_le hj h.size) (fun e => hp (hq j hj e))).trans (h.block j hj hp)⟩
theorem Chg.below {p : Nat → Prop} {A B : World} (h : Below A.heap.size A B) : Chg p A B := ⟨h.os, h.tape, h.output, h.size, fun j hj _ => h.block j hj⟩
theorem Chg.grown {A B : World} {r : Option Nat} (h : A.grownBy B r) : Chg (fun k => r = some k) A B := ⟨h.os, h.tape, h.output, h.size, fun j hj hn => h.block j hj (fun e => hn e.symm)⟩
theorem Chg.mono {p q : Nat → Prop} {A B : World} (h : Chg p A B) (hq : ∀ j, j < A.heap.size → p j → q j) : Chg q A B := ⟨h.os, h.tape, h.output, h.size, fun j hj hn => h.block j hj (fun e => hn (hq j hj e))⟩
theorem Chg.toBelow {p : Nat → Prop} {A B : World} {n : Nat} (h : Chg p A B) (hn : n ≤ A.heap.size) (hp : ∀ k, k < n → ¬ p k) : Below n A B := ⟨h.os, h.tape, h.output, h.size, fun k hk => h.block k (by omega) (hp k hk)⟩
theorem Chg.refl (p : Nat → Prop) (A : World) : Chg p A A := ⟨rfl, rfl, rfl, Nat.le_refl _, fun _ _ _ => rfl⟩
theorem Chg.keeps {p : Nat → Prop} {W W' : World} (B : Nat) (h : Chg p W W') (hp : ∀ k o, W.heap[k]? = some o → o.isCells = false → ¬ p k) : KeepsFrom B W W' :=
  ⟨h.size, fun k o _ hk ho => (h.block k (Array.getElem?_eq_some_iff.1 hk).1 (hp k o hk ho)).trans hk⟩
theorem Chg.kept {p Keep : Nat → Prop} {W W' : World} (h : Chg p W W') (hp : ∀ k, Keep k → k < W.heap.size ∧ ¬ p k) : Kept Keep W W' := ⟨h.size, fun k hk => h.block k (hp k hk).1 (hp k hk).2⟩
/-- A row of digests that has grown, its header stored. -/
def PutD (B blk : Nat) (ob : Option Nat) (W w' : World) (n : Nat) (ds : List Dg) : Prop := ∃ w5 w6 v', Below W.heap.size W w5 ∧ w5.grownBy w6 ob ∧ w6.ownsRow B 35 32 v' n (dcs ds) ∧ w' = w6.setCell ⟨blk, 0, none⟩ v'
/-- A row of one's own lies in cells. -/
theorem own_isCells {w : World} {base e size n k : Nat} {v : Value} {xs : List Value} (h : w.ownsRow base e size v n xs) (hk : v.ownBlock = some k) : ∃ c t fr, w.heap[k]? = some (.cells c t fr) := by
  rcases h.2 with ⟨rfl, _⟩ | ⟨g, cap, cur, rfl, _, hg, _⟩
  · cases hk
  · cases hk; exact ⟨_, _, _, hg⟩
theorem own_turns {A A' : World} {base e size n : Nat} {v : Value} {xs : List Value} {row : Option Nat} {B : Nat} (h : A.ownsRow base e size v n xs) (hg : A.grownBy A' row) (hr : ∀ r, row = some r → False ∨ (B ≤ r ∧ ∃ o : Obj, A.heap[r]? = some o ∧ o.isCells = false)) : A'.ownsRow base e size v n xs :=
  own_keep h fun g _ hg2 hv => hg.block g hg2 (fun e => by
    rcases hr g e.symm with h1 | ⟨_, o, h2, h3⟩
    · exact h1
    · obtain ⟨c, t, fr, h4⟩ := own_isCells h hv
      rw [h2] at h4; cases h4; cases h3)

/-- A literal's one element, of many cells: it fills the row. -/
theorem fold_list : ∀ (l : List Value) (k : Nat) (z : Array Value) (i : Nat), k + l.length ≤ z.size → ((l.zipIdx k).foldl (fun (cs : Array Value) (x : Value × Nat) => cs.setIfInBounds x.snd x.fst) z)[i]? = if k ≤ i ∧ i < k + l.length then l[i - k]? else z[i]?
  | [], k, z, i, h => by
    simp only [List.zipIdx_nil, List.foldl_nil, List.length_nil]
    rw [if_neg (by omega)]
  | v :: l, k, z, i, h => by
    simp only [List.length_cons] at h ⊢
    rw [List.zipIdx_cons, List.foldl_cons, fold_list l (k + 1) _ i (by simp; omega)]
    by_cases h1 : i = k
    · subst h1
      rw [if_neg (by omega), if_pos (by omega), Array.getElem?_setIfInBounds_self_of_lt (by omega)]
      simp
    · rw [Array.getElem?_setIfInBounds_ne (fun e => h1 e.symm)]
      by_cases h2 : k + 1 ≤ i ∧ i < k + 1 + l.length
      · rw [if_pos h2, if_pos (by omega), show i - k = (i - (k + 1)) + 1 by omega, List.getElem?_cons_succ]
      · rw [if_neg h2, if_neg (by omega)]
theorem fold_fill (z c : Array Value) (n : Nat) (h : z.size = c.size) (hn : c.size = n) : Array.foldl (fun (cs : Array Value) (x : Value × Nat) => cs.setIfInBounds x.snd x.fst) z c.zipIdx 0 n = c := by
  have e : n = c.zipIdx.size := by simp [hn]
  rw [e, ← Array.foldl_toList]
  apply Array.ext_getElem?
  intro i
  rw [show c.zipIdx.toList = c.toList.zipIdx 0 by simp, fold_list _ _ _ _ (by simp; omega)]
  by_cases hi : i < c.size
  · rw [if_pos (by simp; omega)]; simp
  · rw [if_neg (by simp; omega), Array.getElem?_eq_none (by omega), Array.getElem?_eq_none (by omega)]
theorem cuts_at {s m : Nat} : ∀ {f q0 q : Nat} {pre : List Nat}, pre ++ [q] <+: cuts f s q0 m → q < m ∧ pre.length < (cuts f s q0 m).length
  | 0, _, _, pre, h => by
    obtain ⟨t, ht⟩ := h
    simp [cuts] at ht
  | f + 1, q0, q, pre, h => by
    by_cases hq : q0 < m
    · rw [cuts, if_pos hq] at h ⊢
      cases pre with
      | nil =>
        obtain ⟨t, ht⟩ := h
        simp at ht
        exact ⟨by omega, by simp⟩
      | cons p r =>
        obtain ⟨t, ht⟩ := h
        simp at ht
        have := cuts_at (f := f) (q0 := q0 + s) (q := q) (pre := r) ⟨t, by simpa using ht.2⟩
        exact ⟨this.1, by simpa using this.2⟩
    · rw [cuts_done _ _ _ _ (by omega)] at h
      obtain ⟨t, ht⟩ := h
      simp at ht
theorem cuts_len {s m : Nat} (h : 1 ≤ s) : ∀ (f q : Nat), (cuts f s q m).length ≤ m - q
  | 0, _ => by simp [cuts]
  | f + 1, q => by
    by_cases hq : q < m
    · have := cuts_len (s := s) (m := m) h f (q + s)
      rw [cuts, if_pos hq, List.length_cons]
      omega
    · rw [cuts_done _ _ _ _ (by omega)]; simp
theorem pair_length {xs : List Dg} (h : All32 xs) (hne : xs ≠ []) : (pair xs).length = 32 := by
  match xs, hne with
  | [x], _ => exact h x (by simp)
  | x :: y :: r, _ => exact bth_length _ _
attribute [local go_sem] Oper.semAt_some fold_fill
set_option maxHeartbeats 2000000 in
set_option maxRecDepth 100000 in
theorem chunks1_any (w : World) (A : Option Addr) (m c : Nat) (ds : List Dg) (hs : SlD w (.slice A m c) ds m) (hm : m ≤ 16) (hm0 : 0 < m) (gq : Nat → Dg) (hgq : ∀ q, gq q = (fun xs => mrk (xs.headD [])) ((ds.drop q).take 1)) :
    Calls Try.prog 32 #[.slice A m c, .int .i64 1, .func (.func 33) #[] #[]] w fun e w' => ∃ v, e = .returned v ∧ w'.ownsRow w.heap.size 35 32 v (cuts m 1 0 m).length (dcs ((cuts m 1 0 m).map gq)) ∧ Below w.heap.size w w' := by
  obtain ⟨b, o, rfl, hb⟩ := hs.at hm0
  have hmc : m ≤ c := by obtain ⟨_, _, e, h, _⟩ := hs.val; cases e; exact h
  have HSL := hd hs
  clear hs
  refine (callsIn_wide (n := 3)).1 ?_
  refine callsIn_of_wp_marks Try.func32 rfl trivial ?_ rfl
  refine wpIn_wide.2 ?_
  simp only [Try.ntmps32, List.size_toArray, List.length_cons, List.length_nil, Nat.reduceAdd, Nat.reduceSub, Array.replicate_succ, Array.replicate_zero, List.push_toArray, List.append_toArray, List.nil_append, List.cons_append]
  obtain ⟨W2, hW2⟩ : ∃ W2, (w.alloc (.cells #[.func (.func 33) #[] #[]] 53)).alloc (.cells #[.slice none 0 0] 30) = W2 := ⟨_, rfl⟩
  have hz2 : W2.heap.size = w.heap.size + 2 := by rw [← hW2]; simp
  have hB2 : Below w.heap.size w W2 := by rw [← hW2]; exact ((Below.refl _ _).alloc (Nat.le_refl _) _).alloc (by simp) _
  have hf2 : Boxed W2 w.heap.size 53 (.func (.func 33) #[] #[]) := by rw [← hW2]; exact (Boxed.new _ _ _).alloc _
  have ho2 : Boxed W2 (w.heap.size + 1) 30 (.slice none 0 0) := by
    rw [← hW2]
    have := Boxed.new (w.alloc (.cells #[.func (.func 33) #[] #[]] 53)) 30 (.slice none 0 0)
    rwa [World.size_alloc] at this
  go_upto_block 0 with (go_at_call 44; refine (chunk_any _ _ _ _ 1 (by omega)).mono ?_; rintro e w' ⟨rfl, rfl⟩)
  obtain ⟨W4, hW4⟩ : ∃ W4, (W2.alloc (.cells #[.slice (some ⟨b, o, none⟩) m c] 30)).alloc (.cells #[.int .i64 1] 3) = W4 := ⟨_, rfl⟩
  have hz4 : W4.heap.size = w.heap.size + 4 := by rw [← hW4]; simp [hz2]
  have hB4 : Below W2.heap.size W2 W4 := by rw [← hW4]; exact ((Below.refl _ _).alloc (Nat.le_refl _) _).alloc (by simp) _
  have hs4 : Boxed W4 (w.heap.size + 2) 30 (.slice (some ⟨b, o, none⟩) m c) := by rw [← hW4, ← hz2]; exact (Boxed.new _ _ _).alloc _
  have hn4 : Boxed W4 (w.heap.size + 3) 3 (.int .i64 1) := by
    rw [← hW4]
    have := Boxed.new (W2.alloc (.cells #[.slice (some ⟨b, o, none⟩) m c] 30)) 3 (.int .i64 1)
    rwa [World.size_alloc, hz2] at this
  have hf4 : Boxed W4 w.heap.size 53 (.func (.func 33) #[] #[]) := (hB4.block _ (by omega)).trans hf2
  have ho4 : Boxed W4 (w.heap.size + 1) 30 (.slice none 0 0) := (hB4.block _ (by omega)).trans ho2
  have HF4 := hd hf4
  have HO4 := hd ho4
  have hBw : Below w.heap.size w W4 := hB2.trans (hB4.mono (by omega))
  have HBw := hd hBw
  have hsd : SlD W4 (.slice (some ⟨b, o, none⟩) m c) ds m := HSL.out.below hBw
  have HSD := hd hsd
  rw [hW4]
  clear hW2 hB2 hf2 ho2 hf4 ho4 hBw hsd hB4
  refine wp_block ?_
  refine (wpIn_wide (n := 3)).1 ?_
  refine wpIn_rangeT1 (F := Fence.wide) rfl (by omega) (gf := 47) (lb := #[.pointer (some ⟨w.heap.size + 2, 0, none⟩), .pointer (some ⟨w.heap.size + 3, 0, none⟩)]) rfl trivial (enters_of Try.func47 (by kernel_rfl) rfl)
    (chk_any (3 - 1) (w.heap.size + 2) (w.heap.size + 3) b o m 1 m c (some ⟨b, o, none⟩) (fun _ => rfl) hmc (by omega) (by omega) (by omega) (Nat.le_refl _) W4 hs4 hn4) (fun k e => e.elim) (fun k e => by omega) (Below.refl _ _) (fun _ => rfl)
    (fun pre W => ∃ v, W.heap[w.heap.size + 1]? = some (.cells #[v] 30 (0, 0)) ∧ W.ownsRow (w.heap.size + 4) 35 32 v pre.length (dcs (pre.map gq)) ∧ Chg (fun k => k = w.heap.size + 1) W4 W)
    (fun _ _ _ => False) ?hI (fun _ => turns_false) ?h0 (fun t => t.setIfInBounds 8 (t.getD 12 undef)) ?assign ?body ?done ?stop
  case hI =>
    rintro pre X Y row ⟨v, h1, h2, h3⟩ hg hr
    refine ⟨v, (hg.block _ (blk_lt h1) (fun e => ?_)).trans h1, own_turns h2 hg hr, h3.trans (Chg.grown hg) (fun j hj e => ?_)⟩
    · rcases hr _ e.symm with h | ⟨_, o, h4, h5⟩
      · exact h
      · rw [h1] at h4; cases h4; cases h5
    · rcases hr _ e with h | ⟨h4, _⟩
      · exact h.elim
      · omega
  case h0 =>
    exact ⟨.slice none 0 0, HO4.out, World.ownsRow_nil _ _ _ _, Chg.refl _ _⟩
  case assign =>
    intro lr x W K hK
    obtain ⟨r, hr⟩ : ∃ r, Nat.min 1 (m - x) = r := ⟨_, rfl⟩
    rw [hr] at hK ⊢
    simp at hK
    gi_wp2
    exact hK
  case body =>
    rintro lr pre q W hlr - ⟨v, hv, hown, hch⟩ hp
    obtain ⟨hq, hpl⟩ := cuts_at hp
    obtain ⟨k, hk⟩ : ∃ k, pre.length = k := ⟨_, rfl⟩
    rw [hk] at hown hpl
    have hsz := hch.size
    have hk16 : k < 16 := by have := cuts_len (s := 1) (m := m) (by omega) m 0; omega
    have hfW : Boxed W w.heap.size 53 (.func (.func 33) #[] #[]) := (hch.block _ (by omega) (by omega)).trans HF4.out
    have hbo : Boxed W (w.heap.size + 1) 30 v := hv
    obtain ⟨r, hr⟩ : ∃ r, Nat.min 1 (m - q) = r := ⟨_, rfl⟩
    have hr1 : 1 ≤ r ∧ r ≤ 1 ∧ q + r ≤ m ∧ (ds.drop q).take r = (ds.drop q).take 1 := by
      have h1 : r ≤ 1 := by rw [← hr]; exact Nat.min_le_left _ _
      have h2 : r ≤ m - q := by rw [← hr]; exact Nat.min_le_right _ _
      have h3 : 1 ≤ r := by rw [← hr]; exact Nat.le_min.2 ⟨by omega, by omega⟩
      refine ⟨h3, h1, by omega, ?_⟩
      have hl := HSL.out.len
      have h4 := Nat.min_def (n := 1) (m := m - q)
      rw [show min 1 (m - q) = r from hr] at h4
      split at h4
      · rw [h4]
      · rw [List.take_of_length_le (by rw [List.length_drop]; omega), List.take_of_length_le (by rw [List.length_drop]; omega)]
    have hbW4 : b < w.heap.size := hb
    have hcut : SlD W (.slice (some ⟨b, o + q * 32, none⟩) r r) ((ds.drop q).take 1) r := by
      rw [← hr1.2.2.2]
      exact (HSD.out.keep (fun k hk _ => hch.block k (by cases hk; omega) (by cases hk; show ¬ b = _; omega))).cut q r r hr1.2.2.1 (Nat.le_refl _) (by unfold maxLen; omega)
    have HCUT := hd hcut
    have HOWN := hd hown
    have HCH := hd hch
    have HV := hd hv
    have hcf := hfW.cell
    have hco := hbo.cell
    have hfo := hbo.frozen
    have HFW := hd hfW
    have hr0 := hr1.1
    have hr2 := hr1.2.1
    have hgq1 : gq q = (fun xs => mrk (xs.headD [])) ((ds.drop q).take 1) := hgq q
    have h32 : (gq q).length = 32 := by rw [hgq1]; exact mrk_length _
    have hltf : w.heap.size < W.heap.size := by omega
    have hlto : w.heap.size + 1 < W.heap.size := by omega
    rw [hr]
    clear hcut hown hch hv hfW hbo hr hr1 hgq
    have HNEW := hd (fun (W' : World) (h : Below W.heap.size W W') => show Calls Try.prog 33 #[.slice (some ⟨b, o + q * 32, none⟩) r r] W' fun e w' => e = .returned (.agg (ucs (gq q))) ∧ Below W'.heap.size W' w' from by
      rw [hgq1]
      obtain rfl : r = 1 := by omega
      exact new1_any W' b _ 1 _ (HCUT.out.below h))
    have hvb : ∀ j, v.ownBlock = some j → w.heap.size + 4 ≤ j ∧ j < W.heap.size := fun j hj => HOWN.out.lt j hj
    have HVB := hd hvb
    clear hvb hgq1
    simp
    gi_wp2
    refine wpIn_region_inv lr 1 [13, 14, 15, 16, 17, 18] (fun done σ w' => (done 5 = false → Below W.heap.size W w') ∧
      (done 0 = true → σ 13 = v) ∧
      (done 1 = true → σ 14 = .func (.func 33) #[] #[]) ∧
      (done 2 = true → σ 15 = .slice (some ⟨b, o + q * 32, none⟩) r r) ∧
      (done 3 = true → σ 16 = .agg (ucs (gq q))) ∧
      (done 4 = true → done 5 = false → ∃ g, σ 17 = .slice (some ⟨g, 0, none⟩) 1 1 ∧ Cl w' (some ⟨g, 0, none⟩) (dcs [gq q])) ∧
      (done 5 = true → done 6 = false → ∃ w5, Below W.heap.size W w5 ∧ w5.grownBy w' v.ownBlock ∧ w'.ownsRow (w.heap.size + 4) 35 32 (σ 18) (k + 1) (dcs (pre.map gq ++ [gq q]))) ∧
      (done 6 = true → PutD (w.heap.size + 4) (w.heap.size + 1) v.ownBlock W w' (k + 1) (pre.map gq ++ [gq q]))) (by kernel_rfl) (by kernel_rfl) (by kernel_rfl) ?_ ?_ ?_
    · simp
      exact Below.drew (Below.refl _ _)
    · refine ⟨fun done σ w' a hi hA hC ha hσ ⟨hR, r0, r1, r2, r3, r4, r5, r6⟩ => ?_, ?_⟩
      · have d5 := hC.at 0 5 _ rfl hi rfl
        have e0 := hσ 7 (by simp)
        simp only [List.getElem?_toArray] at e0
        have e9 := ((hR d5).cell (p := ⟨w.heap.size + 1, 0, none⟩) hlto).trans hco
        refine stepG_plain rfl fun K hK => ?_
        go_simp
        refine hK _ _ ?_
        simp [mk, up]
        exact ⟨hR, r1, r2, r3, r4, r5, r6⟩
      refine ⟨fun done σ w' a hi hA hC ha hσ ⟨hR, r0, r1, r2, r3, r4, r5, r6⟩ => ?_, ?_⟩
      · have d3 := hC.at 1 3 _ rfl hi rfl
        have d4 := hC.at 3 4 _ rfl d3 rfl
        have d5 := hC.at 4 5 _ rfl d4 rfl
        have e0 := hσ 5 (by simp)
        simp only [List.getElem?_toArray] at e0
        have e9 := ((hR d5).cell (p := ⟨w.heap.size, 0, none⟩) hltf).trans hcf
        refine stepG_plain rfl fun K hK => ?_
        go_simp
        refine hK _ _ ?_
        simp [mk, up]
        exact ⟨hR, r0, r2, r3, r4, r5, r6⟩
      refine ⟨fun done σ w' a hi hA hC ha hσ ⟨hR, r0, r1, r2, r3, r4, r5, r6⟩ => ?_, ?_⟩
      · have e0 := hσ 8 (by simp)
        simp only [List.getElem?_toArray] at e0
        refine stepG_plain rfl fun K hK => ?_
        go_simp
        refine hK _ _ ?_
        simp [mk, up]
        exact ⟨hR, r0, r1, r3, r4, r5, r6⟩
      refine ⟨fun done σ w' a hi hA hC ha hσ ⟨hR, r0, r1, r2, r3, r4, r5, r6⟩ => ?_, ?_⟩
      · simp [After, Region.binds] at hA
        have d4 := hC.at 3 4 _ rfl hi rfl
        have d5 := hC.at 4 5 _ rfl d4 rfl
        have d6 := hC.at 5 6 _ rfl d5 rfl
        have e1 := r1 (by first | exact hA | exact hA.1 | exact hA.2 | exact hA.2.1 | exact hA.2.2 | exact hA.2.2.1 | exact hA.2.2.2 | exact hA.2.2.2.1 | exact hA.2.2.2.2 | exact hA.2.2.2.2.1 | exact hA.2.2.2.2.2 | exact hA.2.2.2.2.2.1 | exact hA.2.2.2.2.2.2 | exact hA.2.2.2.2.2.2.1 | exact hA.2.2.2.2.2.2.2 | exact hA.2.2.2.2.2.2.2.1 | exact hA.2.2.2.2.2.2.2.2 | exact hA.2.2.2.2.2.2.2.2.1 | exact hA.2.2.2.2.2.2.2.2.2)
        have e2 := r2 (by first | exact hA | exact hA.1 | exact hA.2 | exact hA.2.1 | exact hA.2.2 | exact hA.2.2.1 | exact hA.2.2.2 | exact hA.2.2.2.1 | exact hA.2.2.2.2 | exact hA.2.2.2.2.1 | exact hA.2.2.2.2.2 | exact hA.2.2.2.2.2.1 | exact hA.2.2.2.2.2.2 | exact hA.2.2.2.2.2.2.1 | exact hA.2.2.2.2.2.2.2 | exact hA.2.2.2.2.2.2.2.1 | exact hA.2.2.2.2.2.2.2.2 | exact hA.2.2.2.2.2.2.2.2.1 | exact hA.2.2.2.2.2.2.2.2.2)
        refine stepG_plain rfl fun K hK => ?_
        go_simp
        refine (HNEW.out w' (hR d5)).mono ?_
        rintro e w2 ⟨rfl, hb2⟩
        refine hK _ _ ?_
        simp [mk, up]
        exact ⟨fun h => (hR h).trans (hb2.mono (hR h).size), r0, r1, r2, (fun h => by rw [d4] at h; cases h), (fun h => by rw [d5] at h; cases h), (fun h => by rw [d6] at h; cases h)⟩
      refine ⟨fun done σ w' a hi hA hC ha hσ ⟨hR, r0, r1, r2, r3, r4, r5, r6⟩ => ?_, ?_⟩
      · simp [After, Region.binds] at hA
        have d5 := hC.at 4 5 _ rfl hi rfl
        have d6 := hC.at 5 6 _ rfl d5 rfl
        have e1 := r3 (by first | exact hA | exact hA.1 | exact hA.2 | exact hA.2.1 | exact hA.2.2 | exact hA.2.2.1 | exact hA.2.2.2 | exact hA.2.2.2.1 | exact hA.2.2.2.2 | exact hA.2.2.2.2.1 | exact hA.2.2.2.2.2 | exact hA.2.2.2.2.2.1 | exact hA.2.2.2.2.2.2 | exact hA.2.2.2.2.2.2.1 | exact hA.2.2.2.2.2.2.2 | exact hA.2.2.2.2.2.2.2.1 | exact hA.2.2.2.2.2.2.2.2 | exact hA.2.2.2.2.2.2.2.2.1 | exact hA.2.2.2.2.2.2.2.2.2)
        refine stepG_plain rfl fun K hK => ?_
        go_simp
        refine hK _ _ ?_
        simp [mk, up]
        exact ⟨fun h => (hR h).alloc (hR h).size _, r0, r1, r2, r3, fun _ => by rw [dcs_single]; exact row_cl (heap_alloc_new w' _), (fun h => by rw [d5] at h; cases h), (fun h => by rw [d6] at h; cases h)⟩
      refine ⟨fun done σ w' a hi hA hC ha hσ ⟨hR, r0, r1, r2, r3, r4, r5, r6⟩ => ?_, ?_⟩
      · simp [After, Region.binds] at hA
        have d6 := hC.at 5 6 _ rfl hi rfl
        have e0 := r0 (by first | exact hA | exact hA.1 | exact hA.2 | exact hA.2.1 | exact hA.2.2 | exact hA.2.2.1 | exact hA.2.2.2 | exact hA.2.2.2.1 | exact hA.2.2.2.2 | exact hA.2.2.2.2.1 | exact hA.2.2.2.2.2 | exact hA.2.2.2.2.2.1 | exact hA.2.2.2.2.2.2 | exact hA.2.2.2.2.2.2.1 | exact hA.2.2.2.2.2.2.2 | exact hA.2.2.2.2.2.2.2.1 | exact hA.2.2.2.2.2.2.2.2 | exact hA.2.2.2.2.2.2.2.2.1 | exact hA.2.2.2.2.2.2.2.2.2)
        obtain ⟨g, e1, hcl⟩ := r4 (by first | exact hA | exact hA.1 | exact hA.2 | exact hA.2.1 | exact hA.2.2 | exact hA.2.2.1 | exact hA.2.2.2 | exact hA.2.2.2.1 | exact hA.2.2.2.2 | exact hA.2.2.2.2.1 | exact hA.2.2.2.2.2 | exact hA.2.2.2.2.2.1 | exact hA.2.2.2.2.2.2 | exact hA.2.2.2.2.2.2.1 | exact hA.2.2.2.2.2.2.2 | exact hA.2.2.2.2.2.2.2.1 | exact hA.2.2.2.2.2.2.2.2 | exact hA.2.2.2.2.2.2.2.2.1 | exact hA.2.2.2.2.2.2.2.2.2) hi
        have HO := own_below HOWN.out (hR hi)
        refine stepG_plain rfl fun K hK => ?_
        refine wp_app (.tmp 13) (.tmp 17) 30 rfl (w.heap.size + 4) 35 (.agg (ucs (List.replicate 32 0))) 32 32 (by kernel_rfl) infoD rfl (by decide) v k _ ((ev_tmp ha).trans e0) HO (some ⟨g, 0, none⟩) 1 1 (dcs [gq q]) ((ev_tmp ha).trans e1) (by rw [dcs_single, bcs_length, h32]) (fun e => nomatch e) hcl (dcs_one _) (by unfold maxLen; omega) (by omega) (Nat.le_trans (by omega) (hR hi).size) ?_
        intro v' w2 ho2 hg2 _
        refine hK _ _ ?_
        simp [mk, up]
        exact ⟨r0, r1, r2, r3, fun _ => ⟨w', hR hi, hg2, by rw [dcs_single, ← dcs_snoc] at ho2; exact ho2⟩, (fun h => by rw [d6] at h; cases h)⟩
      refine ⟨fun done σ w' a hi hA hC ha hσ ⟨hR, r0, r1, r2, r3, r4, r5, r6⟩ => ?_, trivial⟩
      · simp [After, Region.binds] at hA
        obtain ⟨w5, hb5, hg5, ho5⟩ := r5 (by first | exact hA | exact hA.1 | exact hA.2 | exact hA.2.1 | exact hA.2.2 | exact hA.2.2.1 | exact hA.2.2.2 | exact hA.2.2.2.1 | exact hA.2.2.2.2 | exact hA.2.2.2.2.1 | exact hA.2.2.2.2.2 | exact hA.2.2.2.2.2.1 | exact hA.2.2.2.2.2.2 | exact hA.2.2.2.2.2.2.1 | exact hA.2.2.2.2.2.2.2 | exact hA.2.2.2.2.2.2.2.1 | exact hA.2.2.2.2.2.2.2.2 | exact hA.2.2.2.2.2.2.2.2.1 | exact hA.2.2.2.2.2.2.2.2.2) hi
        have q5 : done 5 = true := (by first | exact hA | exact hA.1 | exact hA.2 | exact hA.2.1 | exact hA.2.2 | exact hA.2.2.1 | exact hA.2.2.2 | exact hA.2.2.2.1 | exact hA.2.2.2.2 | exact hA.2.2.2.2.1 | exact hA.2.2.2.2.2 | exact hA.2.2.2.2.2.1 | exact hA.2.2.2.2.2.2 | exact hA.2.2.2.2.2.2.1 | exact hA.2.2.2.2.2.2.2 | exact hA.2.2.2.2.2.2.2.1 | exact hA.2.2.2.2.2.2.2.2 | exact hA.2.2.2.2.2.2.2.2.1 | exact hA.2.2.2.2.2.2.2.2.2)
        have e0 := hσ 7 (by simp)
        simp only [List.getElem?_toArray] at e0
        have hbx : Boxed w' (w.heap.size + 1) 30 v := (hg5.block _ (Nat.lt_of_lt_of_le hlto hb5.size) (fun e => by have := (HVB.out _ e.symm).1; omega)).trans ((hb5.block _ hlto).trans HV.out)
        have hcx := hbx.cell
        have hfx := hbx.frozen
        obtain ⟨A', c', e1, _⟩ := own_cl ho5
        refine stepG_plain rfl fun K hK => ?_
        go_simp
        refine hK undef _ ?_
        simp [mk, up_none]
        exact ⟨(fun h => by rw [q5] at h; cases h), r0, r1, r2, r3, (fun _ h => by rw [q5] at h; cases h), ⟨w5, w', σ 18, hb5, hg5, ho5, by rw [e1]⟩⟩
    · rintro done σ w' hall hσ ⟨hR, r0, r1, r2, r3, r4, r5, r6⟩
      obtain ⟨w5, w6, v', hb5, hg6, ho6, rfl⟩ := r6 (hall 6 (by simp))
      clear hσ r0 r1 r2 r3 r4 r5 r6 hall hR
      simp only [Exit.inBlock]
      have c1 : Chg (fun j => v.ownBlock = some j) W w6 := (Chg.below (p := fun j => v.ownBlock = some j) hb5).trans (Chg.grown hg6) (fun j _ e => e)
      have hb6 : Boxed w6 (w.heap.size + 1) 30 v := (c1.block _ hlto (fun e => by have := (HVB.out _ e).1; omega)).trans HV.out
      have c2 : Chg (fun j => v.ownBlock = some j ∨ j = w.heap.size + 1) W (w6.setCell ⟨w.heap.size + 1, 0, none⟩ v') := (c1.mono (q := fun j => v.ownBlock = some j ∨ j = w.heap.size + 1) (fun j _ e => .inl e)).trans (Chg.grown (grownBy_setCell' _ _ _)) (fun j _ e => .inr (by simpa using e.symm))
      refine ⟨c2.keeps _ (fun j ob h1 h2 h3 => ?_), c2.kept (fun j e => ⟨by omega, fun h => ?_⟩), v', hb6.set _, ?_, ?_⟩
      · rcases h3 with h3 | h3
        · obtain ⟨c', t', fr', h4⟩ := own_isCells HOWN.out h3
          rw [h1] at h4; cases h4; cases h2
        · subst h3
          have h4 := HV.out
          rw [h1] at h4; cases h4; cases h2
      · rcases h with h | h
        · have := (HVB.out _ h).1; omega
        · omega
      · rw [List.length_append, List.length_singleton, hk, List.map_append]
        exact own_keep ho6 fun g hg _ _ => Below.heap_setCell _ _ _ _ (by show g ≠ w.heap.size + 1; omega)
      · exact HCH.out.trans c2 (fun j hj e => by
          rcases e with e | e
          · have := (HVB.out _ e).1; omega
          · exact e)
  case done =>
    rintro D W hD ⟨v, hv, hown, hch⟩ hK
    simp only [Exit.inBlock, Exit.then]
    have hbo : Boxed W (w.heap.size + 1) 30 v := hv
    have hco := hbo.cell
    have HOWN := hd hown
    have HCH := hd hch
    have HK := hd hK
    clear hv hbo hown hch hK
    go_wp2_with fail
    refine ⟨by simp, .inl ⟨_, _, rfl, run_takeDeferred HK.out, ?_⟩⟩
    refine ⟨_, results_tmp rfl _ _ _, v, rfl, ?_, ?_⟩
    · have h1 := own_keep (w' := W.putObj D (.deferred none)) HOWN.out (fun g _ _ hv => World.putObj_heap_other (fun e => by
        obtain ⟨c', t', fr', h4⟩ := own_isCells HOWN.out hv
        subst e
        rw [HK.out] at h4; cases h4))
      exact own_mono h1 (by omega)
    · have h2 : Below w.heap.size w W := HBw.out.trans (HCH.out.toBelow (by omega) (fun k hk e => by omega))
      exact h2.trans ((Chg.grown (grownBy_putObj' _ D (.deferred none))).toBelow (n := w.heap.size) h2.size (fun k hk e => by
        have e' : D = k := by simpa using e
        omega))
  case stop =>
    rintro D c pre W _ _ h _
    exact h.elim

set_option maxHeartbeats 2000000 in
set_option maxRecDepth 100000 in
theorem chunks2_any (w : World) (A : Option Addr) (m c : Nat) (ds : List Dg) (hs : SlD w (.slice A m c) ds m) (hm : m ≤ 16) (hm0 : 0 < m) (gq : Nat → Dg) (hgq : ∀ q, gq q = pair ((ds.drop q).take 2)) :
    Calls Try.prog 32 #[.slice A m c, .int .i64 2, .func (.func 35) #[] #[]] w fun e w' => ∃ v, e = .returned v ∧ w'.ownsRow w.heap.size 35 32 v (cuts m 2 0 m).length (dcs ((cuts m 2 0 m).map gq)) ∧ Below w.heap.size w w' := by
  obtain ⟨b, o, rfl, hb⟩ := hs.at hm0
  have hmc : m ≤ c := by obtain ⟨_, _, e, h, _⟩ := hs.val; cases e; exact h
  have HSL := hd hs
  clear hs
  refine (callsIn_wide (n := 3)).1 ?_
  refine callsIn_of_wp_marks Try.func32 rfl trivial ?_ rfl
  refine wpIn_wide.2 ?_
  simp only [Try.ntmps32, List.size_toArray, List.length_cons, List.length_nil, Nat.reduceAdd, Nat.reduceSub, Array.replicate_succ, Array.replicate_zero, List.push_toArray, List.append_toArray, List.nil_append, List.cons_append]
  obtain ⟨W2, hW2⟩ : ∃ W2, (w.alloc (.cells #[.func (.func 35) #[] #[]] 53)).alloc (.cells #[.slice none 0 0] 30) = W2 := ⟨_, rfl⟩
  have hz2 : W2.heap.size = w.heap.size + 2 := by rw [← hW2]; simp
  have hB2 : Below w.heap.size w W2 := by rw [← hW2]; exact ((Below.refl _ _).alloc (Nat.le_refl _) _).alloc (by simp) _
  have hf2 : Boxed W2 w.heap.size 53 (.func (.func 35) #[] #[]) := by rw [← hW2]; exact (Boxed.new _ _ _).alloc _
  have ho2 : Boxed W2 (w.heap.size + 1) 30 (.slice none 0 0) := by
    rw [← hW2]
    have := Boxed.new (w.alloc (.cells #[.func (.func 35) #[] #[]] 53)) 30 (.slice none 0 0)
    rwa [World.size_alloc] at this
  go_upto_block 0 with (go_at_call 44; refine (chunk_any _ _ _ _ 2 (by omega)).mono ?_; rintro e w' ⟨rfl, rfl⟩)
  obtain ⟨W4, hW4⟩ : ∃ W4, (W2.alloc (.cells #[.slice (some ⟨b, o, none⟩) m c] 30)).alloc (.cells #[.int .i64 2] 3) = W4 := ⟨_, rfl⟩
  have hz4 : W4.heap.size = w.heap.size + 4 := by rw [← hW4]; simp [hz2]
  have hB4 : Below W2.heap.size W2 W4 := by rw [← hW4]; exact ((Below.refl _ _).alloc (Nat.le_refl _) _).alloc (by simp) _
  have hs4 : Boxed W4 (w.heap.size + 2) 30 (.slice (some ⟨b, o, none⟩) m c) := by rw [← hW4, ← hz2]; exact (Boxed.new _ _ _).alloc _
  have hn4 : Boxed W4 (w.heap.size + 3) 3 (.int .i64 2) := by
    rw [← hW4]
    have := Boxed.new (W2.alloc (.cells #[.slice (some ⟨b, o, none⟩) m c] 30)) 3 (.int .i64 2)
    rwa [World.size_alloc, hz2] at this
  have hf4 : Boxed W4 w.heap.size 53 (.func (.func 35) #[] #[]) := (hB4.block _ (by omega)).trans hf2
  have ho4 : Boxed W4 (w.heap.size + 1) 30 (.slice none 0 0) := (hB4.block _ (by omega)).trans ho2
  have HF4 := hd hf4
  have HO4 := hd ho4
  have hBw : Below w.heap.size w W4 := hB2.trans (hB4.mono (by omega))
  have HBw := hd hBw
  have hsd : SlD W4 (.slice (some ⟨b, o, none⟩) m c) ds m := HSL.out.below hBw
  have HSD := hd hsd
  rw [hW4]
  clear hW2 hB2 hf2 ho2 hf4 ho4 hBw hsd hB4
  refine wp_block ?_
  refine (wpIn_wide (n := 3)).1 ?_
  refine wpIn_rangeT1 (F := Fence.wide) rfl (by omega) (gf := 47) (lb := #[.pointer (some ⟨w.heap.size + 2, 0, none⟩), .pointer (some ⟨w.heap.size + 3, 0, none⟩)]) rfl trivial (enters_of Try.func47 (by kernel_rfl) rfl)
    (chk_any (3 - 1) (w.heap.size + 2) (w.heap.size + 3) b o m 2 m c (some ⟨b, o, none⟩) (fun _ => rfl) hmc (by omega) (by omega) (by omega) (Nat.le_refl _) W4 hs4 hn4) (fun k e => e.elim) (fun k e => by omega) (Below.refl _ _) (fun _ => rfl)
    (fun pre W => ∃ v, W.heap[w.heap.size + 1]? = some (.cells #[v] 30 (0, 0)) ∧ W.ownsRow (w.heap.size + 4) 35 32 v pre.length (dcs (pre.map gq)) ∧ Chg (fun k => k = w.heap.size + 1) W4 W)
    (fun _ _ _ => False) ?hI (fun _ => turns_false) ?h0 (fun t => t.setIfInBounds 8 (t.getD 12 undef)) ?assign ?body ?done ?stop
  case hI =>
    rintro pre X Y row ⟨v, h1, h2, h3⟩ hg hr
    refine ⟨v, (hg.block _ (blk_lt h1) (fun e => ?_)).trans h1, own_turns h2 hg hr, h3.trans (Chg.grown hg) (fun j hj e => ?_)⟩
    · rcases hr _ e.symm with h | ⟨_, o, h4, h5⟩
      · exact h
      · rw [h1] at h4; cases h4; cases h5
    · rcases hr _ e with h | ⟨h4, _⟩
      · exact h.elim
      · omega
  case h0 =>
    exact ⟨.slice none 0 0, HO4.out, World.ownsRow_nil _ _ _ _, Chg.refl _ _⟩
  case assign =>
    intro lr x W K hK
    obtain ⟨r, hr⟩ : ∃ r, Nat.min 2 (m - x) = r := ⟨_, rfl⟩
    rw [hr] at hK ⊢
    simp at hK
    gi_wp2
    exact hK
  case body =>
    rintro lr pre q W hlr - ⟨v, hv, hown, hch⟩ hp
    obtain ⟨hq, hpl⟩ := cuts_at hp
    obtain ⟨k, hk⟩ : ∃ k, pre.length = k := ⟨_, rfl⟩
    rw [hk] at hown hpl
    have hsz := hch.size
    have hk16 : k < 16 := by have := cuts_len (s := 2) (m := m) (by omega) m 0; omega
    have hfW : Boxed W w.heap.size 53 (.func (.func 35) #[] #[]) := (hch.block _ (by omega) (by omega)).trans HF4.out
    have hbo : Boxed W (w.heap.size + 1) 30 v := hv
    obtain ⟨r, hr⟩ : ∃ r, Nat.min 2 (m - q) = r := ⟨_, rfl⟩
    have hr1 : 1 ≤ r ∧ r ≤ 2 ∧ q + r ≤ m ∧ (ds.drop q).take r = (ds.drop q).take 2 := by
      have h1 : r ≤ 2 := by rw [← hr]; exact Nat.min_le_left _ _
      have h2 : r ≤ m - q := by rw [← hr]; exact Nat.min_le_right _ _
      have h3 : 1 ≤ r := by rw [← hr]; exact Nat.le_min.2 ⟨by omega, by omega⟩
      refine ⟨h3, h1, by omega, ?_⟩
      have hl := HSL.out.len
      have h4 := Nat.min_def (n := 2) (m := m - q)
      rw [show min 2 (m - q) = r from hr] at h4
      split at h4
      · rw [h4]
      · rw [List.take_of_length_le (by rw [List.length_drop]; omega), List.take_of_length_le (by rw [List.length_drop]; omega)]
    have hbW4 : b < w.heap.size := hb
    have hcut : SlD W (.slice (some ⟨b, o + q * 32, none⟩) r r) ((ds.drop q).take 2) r := by
      rw [← hr1.2.2.2]
      exact (HSD.out.keep (fun k hk _ => hch.block k (by cases hk; omega) (by cases hk; show ¬ b = _; omega))).cut q r r hr1.2.2.1 (Nat.le_refl _) (by unfold maxLen; omega)
    have HCUT := hd hcut
    have HOWN := hd hown
    have HCH := hd hch
    have HV := hd hv
    have hcf := hfW.cell
    have hco := hbo.cell
    have hfo := hbo.frozen
    have HFW := hd hfW
    have hr0 := hr1.1
    have hr2 := hr1.2.1
    have hgq1 : gq q = pair ((ds.drop q).take 2) := hgq q
    have h32 : (gq q).length = 32 := by rw [hgq1]; exact pair_length HCUT.out.all (by intro e; have := HCUT.out.len; rw [e] at this; simp at this; omega)
    have hltf : w.heap.size < W.heap.size := by omega
    have hlto : w.heap.size + 1 < W.heap.size := by omega
    rw [hr]
    clear hcut hown hch hv hfW hbo hr hr1 hgq
    have HNEW := hd (fun (W' : World) (h : Below W.heap.size W W') => show Calls Try.prog 35 #[.slice (some ⟨b, o + q * 32, none⟩) r r] W' fun e w' => e = .returned (.agg (ucs (gq q))) ∧ Below W'.heap.size W' w' from by
      rw [hgq1]
      exact new2_any W' b _ r r _ hr0 hr2 (HCUT.out.below h))
    have hvb : ∀ j, v.ownBlock = some j → w.heap.size + 4 ≤ j ∧ j < W.heap.size := fun j hj => HOWN.out.lt j hj
    have HVB := hd hvb
    clear hvb hgq1
    simp
    gi_wp2
    refine wpIn_region_inv lr 1 [13, 14, 15, 16, 17, 18] (fun done σ w' => (done 5 = false → Below W.heap.size W w') ∧
      (done 0 = true → σ 13 = v) ∧
      (done 1 = true → σ 14 = .func (.func 35) #[] #[]) ∧
      (done 2 = true → σ 15 = .slice (some ⟨b, o + q * 32, none⟩) r r) ∧
      (done 3 = true → σ 16 = .agg (ucs (gq q))) ∧
      (done 4 = true → done 5 = false → ∃ g, σ 17 = .slice (some ⟨g, 0, none⟩) 1 1 ∧ Cl w' (some ⟨g, 0, none⟩) (dcs [gq q])) ∧
      (done 5 = true → done 6 = false → ∃ w5, Below W.heap.size W w5 ∧ w5.grownBy w' v.ownBlock ∧ w'.ownsRow (w.heap.size + 4) 35 32 (σ 18) (k + 1) (dcs (pre.map gq ++ [gq q]))) ∧
      (done 6 = true → PutD (w.heap.size + 4) (w.heap.size + 1) v.ownBlock W w' (k + 1) (pre.map gq ++ [gq q]))) (by kernel_rfl) (by kernel_rfl) (by kernel_rfl) ?_ ?_ ?_
    · simp
      exact Below.drew (Below.refl _ _)
    · refine ⟨fun done σ w' a hi hA hC ha hσ ⟨hR, r0, r1, r2, r3, r4, r5, r6⟩ => ?_, ?_⟩
      · have d5 := hC.at 0 5 _ rfl hi rfl
        have e0 := hσ 7 (by simp)
        simp only [List.getElem?_toArray] at e0
        have e9 := ((hR d5).cell (p := ⟨w.heap.size + 1, 0, none⟩) hlto).trans hco
        refine stepG_plain rfl fun K hK => ?_
        go_simp
        refine hK _ _ ?_
        simp [mk, up]
        exact ⟨hR, r1, r2, r3, r4, r5, r6⟩
      refine ⟨fun done σ w' a hi hA hC ha hσ ⟨hR, r0, r1, r2, r3, r4, r5, r6⟩ => ?_, ?_⟩
      · have d3 := hC.at 1 3 _ rfl hi rfl
        have d4 := hC.at 3 4 _ rfl d3 rfl
        have d5 := hC.at 4 5 _ rfl d4 rfl
        have e0 := hσ 5 (by simp)
        simp only [List.getElem?_toArray] at e0
        have e9 := ((hR d5).cell (p := ⟨w.heap.size, 0, none⟩) hltf).trans hcf
        refine stepG_plain rfl fun K hK => ?_
        go_simp
        refine hK _ _ ?_
        simp [mk, up]
        exact ⟨hR, r0, r2, r3, r4, r5, r6⟩
      refine ⟨fun done σ w' a hi hA hC ha hσ ⟨hR, r0, r1, r2, r3, r4, r5, r6⟩ => ?_, ?_⟩
      · have e0 := hσ 8 (by simp)
        simp only [List.getElem?_toArray] at e0
        refine stepG_plain rfl fun K hK => ?_
        go_simp
        refine hK _ _ ?_
        simp [mk, up]
        exact ⟨hR, r0, r1, r3, r4, r5, r6⟩
      refine ⟨fun done σ w' a hi hA hC ha hσ ⟨hR, r0, r1, r2, r3, r4, r5, r6⟩ => ?_, ?_⟩
      · simp [After, Region.binds] at hA
        have d4 := hC.at 3 4 _ rfl hi rfl
        have d5 := hC.at 4 5 _ rfl d4 rfl
        have d6 := hC.at 5 6 _ rfl d5 rfl
        have e1 := r1 (by first | exact hA | exact hA.1 | exact hA.2 | exact hA.2.1 | exact hA.2.2 | exact hA.2.2.1 | exact hA.2.2.2 | exact hA.2.2.2.1 | exact hA.2.2.2.2 | exact hA.2.2.2.2.1 | exact hA.2.2.2.2.2 | exact hA.2.2.2.2.2.1 | exact hA.2.2.2.2.2.2 | exact hA.2.2.2.2.2.2.1 | exact hA.2.2.2.2.2.2.2 | exact hA.2.2.2.2.2.2.2.1 | exact hA.2.2.2.2.2.2.2.2 | exact hA.2.2.2.2.2.2.2.2.1 | exact hA.2.2.2.2.2.2.2.2.2)
        have e2 := r2 (by first | exact hA | exact hA.1 | exact hA.2 | exact hA.2.1 | exact hA.2.2 | exact hA.2.2.1 | exact hA.2.2.2 | exact hA.2.2.2.1 | exact hA.2.2.2.2 | exact hA.2.2.2.2.1 | exact hA.2.2.2.2.2 | exact hA.2.2.2.2.2.1 | exact hA.2.2.2.2.2.2 | exact hA.2.2.2.2.2.2.1 | exact hA.2.2.2.2.2.2.2 | exact hA.2.2.2.2.2.2.2.1 | exact hA.2.2.2.2.2.2.2.2 | exact hA.2.2.2.2.2.2.2.2.1 | exact hA.2.2.2.2.2.2.2.2.2)
        refine stepG_plain rfl fun K hK => ?_
        go_simp
        refine (HNEW.out w' (hR d5)).mono ?_
        rintro e w2 ⟨rfl, hb2⟩
        refine hK _ _ ?_
        simp [mk, up]
        exact ⟨fun h => (hR h).trans (hb2.mono (hR h).size), r0, r1, r2, (fun h => by rw [d4] at h; cases h), (fun h => by rw [d5] at h; cases h), (fun h => by rw [d6] at h; cases h)⟩
      refine ⟨fun done σ w' a hi hA hC ha hσ ⟨hR, r0, r1, r2, r3, r4, r5, r6⟩ => ?_, ?_⟩
      · simp [After, Region.binds] at hA
        have d5 := hC.at 4 5 _ rfl hi rfl
        have d6 := hC.at 5 6 _ rfl d5 rfl
        have e1 := r3 (by first | exact hA | exact hA.1 | exact hA.2 | exact hA.2.1 | exact hA.2.2 | exact hA.2.2.1 | exact hA.2.2.2 | exact hA.2.2.2.1 | exact hA.2.2.2.2 | exact hA.2.2.2.2.1 | exact hA.2.2.2.2.2 | exact hA.2.2.2.2.2.1 | exact hA.2.2.2.2.2.2 | exact hA.2.2.2.2.2.2.1 | exact hA.2.2.2.2.2.2.2 | exact hA.2.2.2.2.2.2.2.1 | exact hA.2.2.2.2.2.2.2.2 | exact hA.2.2.2.2.2.2.2.2.1 | exact hA.2.2.2.2.2.2.2.2.2)
        refine stepG_plain rfl fun K hK => ?_
        go_simp
        refine hK _ _ ?_
        simp [mk, up]
        exact ⟨fun h => (hR h).alloc (hR h).size _, r0, r1, r2, r3, fun _ => by rw [dcs_single]; exact row_cl (heap_alloc_new w' _), (fun h => by rw [d5] at h; cases h), (fun h => by rw [d6] at h; cases h)⟩
      refine ⟨fun done σ w' a hi hA hC ha hσ ⟨hR, r0, r1, r2, r3, r4, r5, r6⟩ => ?_, ?_⟩
      · simp [After, Region.binds] at hA
        have d6 := hC.at 5 6 _ rfl hi rfl
        have e0 := r0 (by first | exact hA | exact hA.1 | exact hA.2 | exact hA.2.1 | exact hA.2.2 | exact hA.2.2.1 | exact hA.2.2.2 | exact hA.2.2.2.1 | exact hA.2.2.2.2 | exact hA.2.2.2.2.1 | exact hA.2.2.2.2.2 | exact hA.2.2.2.2.2.1 | exact hA.2.2.2.2.2.2 | exact hA.2.2.2.2.2.2.1 | exact hA.2.2.2.2.2.2.2 | exact hA.2.2.2.2.2.2.2.1 | exact hA.2.2.2.2.2.2.2.2 | exact hA.2.2.2.2.2.2.2.2.1 | exact hA.2.2.2.2.2.2.2.2.2)
        obtain ⟨g, e1, hcl⟩ := r4 (by first | exact hA | exact hA.1 | exact hA.2 | exact hA.2.1 | exact hA.2.2 | exact hA.2.2.1 | exact hA.2.2.2 | exact hA.2.2.2.1 | exact hA.2.2.2.2 | exact hA.2.2.2.2.1 | exact hA.2.2.2.2.2 | exact hA.2.2.2.2.2.1 | exact hA.2.2.2.2.2.2 | exact hA.2.2.2.2.2.2.1 | exact hA.2.2.2.2.2.2.2 | exact hA.2.2.2.2.2.2.2.1 | exact hA.2.2.2.2.2.2.2.2 | exact hA.2.2.2.2.2.2.2.2.1 | exact hA.2.2.2.2.2.2.2.2.2) hi
        have HO := own_below HOWN.out (hR hi)
        refine stepG_plain rfl fun K hK => ?_
        refine wp_app (.tmp 13) (.tmp 17) 30 rfl (w.heap.size + 4) 35 (.agg (ucs (List.replicate 32 0))) 32 32 (by kernel_rfl) infoD rfl (by decide) v k _ ((ev_tmp ha).trans e0) HO (some ⟨g, 0, none⟩) 1 1 (dcs [gq q]) ((ev_tmp ha).trans e1) (by rw [dcs_single, bcs_length, h32]) (fun e => nomatch e) hcl (dcs_one _) (by unfold maxLen; omega) (by omega) (Nat.le_trans (by omega) (hR hi).size) ?_
        intro v' w2 ho2 hg2 _
        refine hK _ _ ?_
        simp [mk, up]
        exact ⟨r0, r1, r2, r3, fun _ => ⟨w', hR hi, hg2, by rw [dcs_single, ← dcs_snoc] at ho2; exact ho2⟩, (fun h => by rw [d6] at h; cases h)⟩
      refine ⟨fun done σ w' a hi hA hC ha hσ ⟨hR, r0, r1, r2, r3, r4, r5, r6⟩ => ?_, trivial⟩
      · simp [After, Region.binds] at hA
        obtain ⟨w5, hb5, hg5, ho5⟩ := r5 (by first | exact hA | exact hA.1 | exact hA.2 | exact hA.2.1 | exact hA.2.2 | exact hA.2.2.1 | exact hA.2.2.2 | exact hA.2.2.2.1 | exact hA.2.2.2.2 | exact hA.2.2.2.2.1 | exact hA.2.2.2.2.2 | exact hA.2.2.2.2.2.1 | exact hA.2.2.2.2.2.2 | exact hA.2.2.2.2.2.2.1 | exact hA.2.2.2.2.2.2.2 | exact hA.2.2.2.2.2.2.2.1 | exact hA.2.2.2.2.2.2.2.2 | exact hA.2.2.2.2.2.2.2.2.1 | exact hA.2.2.2.2.2.2.2.2.2) hi
        have q5 : done 5 = true := (by first | exact hA | exact hA.1 | exact hA.2 | exact hA.2.1 | exact hA.2.2 | exact hA.2.2.1 | exact hA.2.2.2 | exact hA.2.2.2.1 | exact hA.2.2.2.2 | exact hA.2.2.2.2.1 | exact hA.2.2.2.2.2 | exact hA.2.2.2.2.2.1 | exact hA.2.2.2.2.2.2 | exact hA.2.2.2.2.2.2.1 | exact hA.2.2.2.2.2.2.2 | exact hA.2.2.2.2.2.2.2.1 | exact hA.2.2.2.2.2.2.2.2 | exact hA.2.2.2.2.2.2.2.2.1 | exact hA.2.2.2.2.2.2.2.2.2)
        have e0 := hσ 7 (by simp)
        simp only [List.getElem?_toArray] at e0
        have hbx : Boxed w' (w.heap.size + 1) 30 v := (hg5.block _ (Nat.lt_of_lt_of_le hlto hb5.size) (fun e => by have := (HVB.out _ e.symm).1; omega)).trans ((hb5.block _ hlto).trans HV.out)
        have hcx := hbx.cell
        have hfx := hbx.frozen
        obtain ⟨A', c', e1, _⟩ := own_cl ho5
        refine stepG_plain rfl fun K hK => ?_
        go_simp
        refine hK undef _ ?_
        simp [mk, up_none]
        exact ⟨(fun h => by rw [q5] at h; cases h), r0, r1, r2, r3, (fun _ h => by rw [q5] at h; cases h), ⟨w5, w', σ 18, hb5, hg5, ho5, by rw [e1]⟩⟩
    · rintro done σ w' hall hσ ⟨hR, r0, r1, r2, r3, r4, r5, r6⟩
      obtain ⟨w5, w6, v', hb5, hg6, ho6, rfl⟩ := r6 (hall 6 (by simp))
      clear hσ r0 r1 r2 r3 r4 r5 r6 hall hR
      simp only [Exit.inBlock]
      have c1 : Chg (fun j => v.ownBlock = some j) W w6 := (Chg.below (p := fun j => v.ownBlock = some j) hb5).trans (Chg.grown hg6) (fun j _ e => e)
      have hb6 : Boxed w6 (w.heap.size + 1) 30 v := (c1.block _ hlto (fun e => by have := (HVB.out _ e).1; omega)).trans HV.out
      have c2 : Chg (fun j => v.ownBlock = some j ∨ j = w.heap.size + 1) W (w6.setCell ⟨w.heap.size + 1, 0, none⟩ v') := (c1.mono (q := fun j => v.ownBlock = some j ∨ j = w.heap.size + 1) (fun j _ e => .inl e)).trans (Chg.grown (grownBy_setCell' _ _ _)) (fun j _ e => .inr (by simpa using e.symm))
      refine ⟨c2.keeps _ (fun j ob h1 h2 h3 => ?_), c2.kept (fun j e => ⟨by omega, fun h => ?_⟩), v', hb6.set _, ?_, ?_⟩
      · rcases h3 with h3 | h3
        · obtain ⟨c', t', fr', h4⟩ := own_isCells HOWN.out h3
          rw [h1] at h4; cases h4; cases h2
        · subst h3
          have h4 := HV.out
          rw [h1] at h4; cases h4; cases h2
      · rcases h with h | h
        · have := (HVB.out _ h).1; omega
        · omega
      · rw [List.length_append, List.length_singleton, hk, List.map_append]
        exact own_keep ho6 fun g hg _ _ => Below.heap_setCell _ _ _ _ (by show g ≠ w.heap.size + 1; omega)
      · exact HCH.out.trans c2 (fun j hj e => by
          rcases e with e | e
          · have := (HVB.out _ e).1; omega
          · exact e)
  case done =>
    rintro D W hD ⟨v, hv, hown, hch⟩ hK
    simp only [Exit.inBlock, Exit.then]
    have hbo : Boxed W (w.heap.size + 1) 30 v := hv
    have hco := hbo.cell
    have HOWN := hd hown
    have HCH := hd hch
    have HK := hd hK
    clear hv hbo hown hch hK
    go_wp2_with fail
    refine ⟨by simp, .inl ⟨_, _, rfl, run_takeDeferred HK.out, ?_⟩⟩
    refine ⟨_, results_tmp rfl _ _ _, v, rfl, ?_, ?_⟩
    · have h1 := own_keep (w' := W.putObj D (.deferred none)) HOWN.out (fun g _ _ hv => World.putObj_heap_other (fun e => by
        obtain ⟨c', t', fr', h4⟩ := own_isCells HOWN.out hv
        subst e
        rw [HK.out] at h4; cases h4))
      exact own_mono h1 (by omega)
    · have h2 : Below w.heap.size w W := HBw.out.trans (HCH.out.toBelow (by omega) (fun k hk e => by omega))
      exact h2.trans ((Chg.grown (grownBy_putObj' _ D (.deferred none))).toBelow (n := w.heap.size) h2.size (fun k hk e => by
        have e' : D = k := by simpa using e
        omega))
  case stop =>
    rintro D c pre W _ _ h _
    exact h.elim

end Go.Proofs.Ytjfplkndngmgdaa

namespace Go.Proofs.Ytjfplkndngmgdaa
set_option maxRecDepth 20000
open Go.RowKit Go.Shelf Sp

theorem infoR : (Try.prog.info? 64).map (fun i => (i.zero, i.size, i.bytes)) = some (some (.slice none 0 0), 1, 24) := by kernel_rfl
/-- A tree in the making: its rows. -/
def RowsInv (w : World) (G : Nat) (rv : Value) (ps : List (Value × List Dg)) : Prop :=
  w.ownsRow (G + 1) 64 1 rv ps.length (ps.map (·.1)) ∧ ∀ p ∈ ps, SlD w p.1 p.2 p.2.length ∧ ∀ k, p.1.ownBlock = some k → G < k ∧ k < w.heap.size ∧ rv.ownBlock ≠ some k
theorem RowsInv.below {w w' : World} {G : Nat} {rv : Value} {ps : List (Value × List Dg)} (h : RowsInv w G rv ps) (hb : Below w.heap.size w w') : RowsInv w' G rv ps :=
  ⟨own_below h.1 hb, fun p hp => ⟨(h.2 p hp).1.below hb, fun k hk => ⟨((h.2 p hp).2 k hk).1, Nat.lt_of_lt_of_le ((h.2 p hp).2 k hk).2.1 hb.size, ((h.2 p hp).2 k hk).2.2⟩⟩⟩
theorem RowsInv.set {w : World} {G : Nat} {rv v : Value} {ps : List (Value × List Dg)} (h : RowsInv w G rv ps) (i : Nat) : RowsInv (w.setCell ⟨G, i, none⟩ v) G rv ps :=
  ⟨own_keep h.1 (fun g hg _ _ => Below.heap_setCell _ _ _ _ (by show g ≠ G; omega)), fun p hp => ⟨(h.2 p hp).1.keep (fun k hk _ => Below.heap_setCell _ _ _ _ (by have := ((h.2 p hp).2 k hk).1; show k ≠ G; omega)), fun k hk => by
    have := (h.2 p hp).2 k hk
    exact ⟨this.1, by simpa [World.setCell] using this.2.1, this.2.2⟩⟩⟩
theorem RowsInv.snoc {w w' : World} {G : Nat} {rv rv' v : Value} {ps : List (Value × List Dg)} {l : List Dg} (h : RowsInv w G rv ps) (hl : SlD w v l l.length) (hv : ∀ k, v.ownBlock = some k → G < k ∧ k < w.heap.size ∧ rv.ownBlock ≠ some k)
    (ho : w'.ownsRow (G + 1) 64 1 rv' (ps.length + 1) (ps.map (·.1) ++ [v])) (hg : w.grownBy w' rv.ownBlock) (hn : rv'.ownBlock = rv.ownBlock ∨ rv'.ownBlock = some w.heap.size) : RowsInv w' G rv' (ps ++ [(v, l)]) := by
  refine ⟨by simpa using ho, fun p hp => ?_⟩
  have key : ∀ q : Value × List Dg, SlD w q.1 q.2 q.2.length → (∀ k, q.1.ownBlock = some k → G < k ∧ k < w.heap.size ∧ rv.ownBlock ≠ some k) → SlD w' q.1 q.2 q.2.length ∧ ∀ k, q.1.ownBlock = some k → G < k ∧ k < w'.heap.size ∧ rv'.ownBlock ≠ some k := fun q h1 h2 =>
    ⟨h1.keep fun k hk hlt => hg.block k hlt (fun e => (h2 k hk).2.2 e.symm), fun k hk => ⟨(h2 k hk).1, Nat.lt_of_lt_of_le (h2 k hk).2.1 hg.size, by
      rcases hn with e | e
      · rw [e]; exact (h2 k hk).2.2
      · rw [e]; intro e'; have := (h2 k hk).2.1; cases e'; omega⟩⟩
  rcases List.mem_append.1 hp with hp | hp
  · exact key p (h.2 p hp).1 (h.2 p hp).2
  · obtain rfl := List.mem_singleton.1 hp
    exact key _ hl hv
/-- A tree, in blocks from B on and below T. -/
def TreeAt (w : World) (B T g : Nat) (ds : List Dg) : Prop :=
  ∃ (lv rv : Value) (ps : List (Value × List Dg)), w.heap[g]? = some (.cells #[lv, rv] 67 (0, 0)) ∧ B ≤ g ∧ g < T ∧ SlD w lv ds ds.length ∧ (∀ k, lv.ownBlock = some k → B ≤ k ∧ k < T) ∧
    w.ownsRow B 64 1 rv ps.length (ps.map (·.1)) ∧ (∀ k, rv.ownBlock = some k → k < T) ∧ ps.map (·.2) = rows ds ∧ ∀ p ∈ ps, SlD w p.1 p.2 p.2.length ∧ ∀ k, p.1.ownBlock = some k → B ≤ k ∧ k < T
theorem TreeAt.keep {w w' : World} {B T g : Nat} {ds : List Dg} (h : TreeAt w B T g ds) (hk : ∀ k, B ≤ k → k < T → w'.heap[k]? = w.heap[k]?) : TreeAt w' B T g ds := by
  obtain ⟨lv, rv, ps, h1, h2, h3, h4, h5, h6, h7, h8, h9⟩ := h
  exact ⟨lv, rv, ps, (hk g h2 h3).trans h1, h2, h3, h4.keep fun k e _ => hk k (h5 k e).1 (h5 k e).2, h5, own_keep h6 fun k hb _ e => hk k hb (h7 k e), h7, h8, fun p hp => ⟨(h9 p hp).1.keep fun k e _ => hk k ((h9 p hp).2 k e).1 ((h9 p hp).2 k e).2, (h9 p hp).2⟩⟩
theorem TreeAt.below {w w' : World} {B T g : Nat} {ds : List Dg} (h : TreeAt w B T g ds) (hT : T ≤ w.heap.size) (hb : Below w.heap.size w w') : TreeAt w' B T g ds := h.keep fun k _ hk => hb.block k (by omega)

theorem rowsUp_one (f : Nat) (l : List Dg) (h : l.length ≤ 1) : rowsUp f l = [l] := by
  cases f with
  | zero => rfl
  | succ f => rw [rowsUp, if_pos h]
theorem rowsUp_step (f : Nat) (l : List Dg) (h : 1 < l.length) (hf : l.length ≤ f) : ∃ g, f = g + 1 ∧ (upw l).length ≤ g ∧ rowsUp f l = l :: rowsUp g (upw l) := by
  cases f with
  | zero => omega
  | succ g => exact ⟨g, rfl, by rw [upw_length]; omega, by rw [rowsUp, if_neg (by omega)]⟩
theorem rowsUp_pos (f : Nat) (l : List Dg) : 1 ≤ (rowsUp f l).length := by
  cases f with
  | zero => simp [rowsUp]
  | succ f => rw [rowsUp]; split <;> simp
theorem rowsUp_le : ∀ (f : Nat) (l : List Dg), (rowsUp f l).length ≤ 1 + l.length
  | 0, l => by simp [rowsUp]
  | f + 1, l => by
    rw [rowsUp]
    split
    · simp
    · have h := rowsUp_le f (upw l)
      rw [upw_length] at h
      rw [List.length_cons]
      omega
theorem rows_length (ds : List Dg) : (rows ds).length ≤ 1 + ds.length := by
  have h := rowsUp_le ds.length (ds.map mrk)
  rwa [List.length_map] at h
theorem new_cl (w : World) (t : TypeId) (v : Value) : Cl (w.alloc (.cells #[v] t)) (some ⟨w.heap.size, 0, none⟩) [v] :=
  Cl.mk fun j u hj => by
    rw [Nat.zero_add, cell_of_row _ _ j _ _ _ (heap_alloc_new w _)]
    simpa using hj
theorem one_slice {A : Option Addr} {n c : Nat} : ∀ u ∈ [Value.slice A n c], u.oneCell' = true := fun u hu => by
  obtain rfl := List.mem_singleton.1 hu; rfl
theorem up32 {l : List Dg} (h : All32 l) : All32 (upw l) := by
  match l, h with
  | [], h => simpa [upw] using h
  | [_], h => simpa [upw] using h
  | x :: y :: r, h =>
    intro d hd
    rw [upw] at hd
    rcases List.mem_cons.1 hd with rfl | hd
    · exact bth_length _ _
    · exact up32 (h.tail.tail) d hd
theorem mrk32 (l : List Dg) : All32 (l.map mrk) := fun d hd => by
  obtain ⟨x, _, rfl⟩ := List.mem_map.1 hd
  exact mrk_length _
def lenOf : Value → Nat
  | .slice _ n _ => n
  | _ => 0

attribute [local go_sem ↓] ldD stD
attribute [local go_sem] run_ldA run_stA arrD loadX_at loadY_some storeX_at storeY_true ucs_size ones_ucs sha_length

set_option maxHeartbeats 1000000 in
theorem newt_none (w : World) (A : Option Addr) (n c : Nat) (h : n < 1 ∨ 16 < n) :
    Calls Try.prog 17 #[.slice A n c] w fun e w' => e = .returned (.tuple #[.pointer none, .int .i64 2]) ∧ w = w' := by
  by_cases h1 : n < 1
  · obtain rfl : n = 0 := by omega
    go_enter Try.func17, Try.ntmps17
    go_wp2_with fail
    go_ret2
    exact ⟨rfl, rfl⟩
  · have h2 : ¬ ((n : Int) < 1) := by omega
    have h3 : (16 : Int) < n := by omega
    go_enter Try.func17, Try.ntmps17
    go_wp2_with fail
    go_ret2
    exact ⟨rfl, rfl⟩

theorem chunk1_any (w : World) (A : Option Addr) (m c : Nat) (ds : List Dg) (hs : SlD w (.slice A m c) ds m) (hm : m ≤ 16) (hm0 : 0 < m) :
    Calls Try.prog 32 #[.slice A m c, .int .i64 1, .func (.func 33) #[] #[]] w fun e w' => ∃ v, e = .returned v ∧ w'.ownsRow w.heap.size 35 32 v m (dcs (ds.map mrk)) ∧ Below w.heap.size w w' := by
  have hl := hs.len
  have h := chunks1_any w A m c ds hs hm hm0 _ (fun q => rfl)
  have e1 := cuts_one (fun xs => mrk (xs.headD [])) ds m 0 (by omega)
  rw [List.drop_zero, hl] at e1
  have e2 : (cuts m 1 0 m).length = m := by
    have := congrArg List.length e1
    simpa [hl] using this
  rw [e2] at h
  refine h.mono ?_
  rintro e w' ⟨v, rfl, h1, h2⟩
  rw [e1] at h1
  exact ⟨v, rfl, h1, h2⟩
theorem chunk2_any (w : World) (A : Option Addr) (m c : Nat) (ds : List Dg) (hs : SlD w (.slice A m c) ds m) (hm : m ≤ 16) (hm0 : 0 < m) :
    Calls Try.prog 32 #[.slice A m c, .int .i64 2, .func (.func 35) #[] #[]] w fun e w' => ∃ v, e = .returned v ∧ w'.ownsRow w.heap.size 35 32 v ((m + 1) / 2) (dcs (upw ds)) ∧ Below w.heap.size w w' := by
  have hl := hs.len
  have h := chunks2_any w A m c ds hs hm hm0 _ (fun q => rfl)
  have e1 := cuts_two ds m 0 (by omega)
  rw [List.drop_zero, hl] at e1
  have e2 : (cuts m 2 0 m).length = (m + 1) / 2 := by
    have := congrArg List.length e1
    rw [upw_length, hl] at this
    simpa using this
  rw [e2] at h
  refine h.mono ?_
  rintro e w' ⟨v, rfl, h1, h2⟩
  rw [e1] at h1
  exact ⟨v, rfl, h1, h2⟩

set_option maxHeartbeats 2000000 in
set_option maxRecDepth 100000 in
theorem newt_any (w : World) (A : Option Addr) (n c : Nat) (ds : List Dg) (hs : SlD w (.slice A n c) ds n) (h0 : 0 < n) (h16 : n ≤ 16) :
    Calls Try.prog 17 #[.slice A n c] w fun e w' => ∃ g, e = .returned (.tuple #[.pointer (some ⟨g, 0, none⟩), .int .i64 0]) ∧ TreeAt w' w.heap.size w'.heap.size g ds ∧ Below w.heap.size w w' := by
  have h1 : ¬ ((n : Int) < 1) := by omega
  have h2 : ¬ ((16 : Int) < n) := by omega
  have hlen := hs.len
  have HS := hd hs
  clear hs
  go_enter Try.func17, Try.ntmps17
  go_upto_block 0 with (first
    | (go_at_call 31; refine (clone_d _ A n c ds HS.out (by omega) h0).mono ?_; rintro e w1 ⟨v1, rfl, ho1, hb1⟩; obtain ⟨A1, c1, rfl, _⟩ := own_cl ho1; have HO1 := hd ho1; have HB1 := hd hb1; clear ho1 hb1)
    | (go_at_call 32; refine (chunk1_any _ A n c ds (HS.out.below (HB1.out.trans ((Below.refl _ _).alloc HB1.out.size _))) h16 h0).mono ?_; rintro e w2 ⟨v2, rfl, ho2, hb2⟩; have hT2 : w2.heap[w1.heap.size]? = some (.cells #[.slice A1 n c1, .slice none 0 0] 67 (0, 0)) := (hb2.block _ (by simp)).trans (heap_alloc_new _ _); have hc2 : w2.cell? ⟨w1.heap.size, 1, none⟩ = some (.slice none 0 0) := (by simp [World.cell?, hT2]); have hf2 : w2.frozen? ⟨w1.heap.size, 1, none⟩ = false := (by simp [World.frozen?, hT2]); obtain ⟨A2, c2, rfl, _⟩ := own_cl ho2; have HO2 := hd ho2; have HB2 := hd hb2; have hlt2 : w1.heap.size < w2.heap.size := blk_lt hT2; have HT2 := hd hT2; clear ho2 hb2 hT2))
  obtain ⟨G, hG⟩ : ∃ G, w1.heap.size = G := ⟨_, rfl⟩
  have hT2 := HT2.out
  have hB1 := HB1.out
  rw [hG] at hT2 hlt2
  have hGw : w.heap.size ≤ G := by rw [← hG]; exact hB1.size
  have hBz0 : Below w.heap.size w w2 := hB1.trans (((Below.refl _ _).alloc (Nat.le_refl _) _).trans (HB2.out.mono (by simp))  |>.mono hB1.size)
  rw [hG]
  obtain ⟨wz, hwz⟩ : ∃ wz, (w2.setCell ⟨G, 1, none⟩ (.slice (some ⟨w2.heap.size, 0, none⟩) 1 1)).alloc (.cells #[.slice A2 n c2] 64) = wz := ⟨_, rfl⟩
  rw [hwz]
  have HI : Hid (∃ (rv v : Value) (ps0 : List (Value × List Dg)) (l : List Dg) (f : Nat), Value.slice A2 n c2 = v ∧ wz.heap[G]? = some (.cells #[.slice A1 n c1, rv] 67 (0, 0)) ∧ RowsInv wz G rv (ps0 ++ [(v, l)]) ∧ rows ds = ps0.map (·.2) ++ rowsUp f l ∧ l.length ≤ f ∧ 0 < l.length ∧ l.length ≤ 16 ∧ Below w.heap.size w wz) := hd (by
    have hm32 := mrk32 ds
    have hsl := own_sld HO2.out hm32
    have hz : w2.heap.size < wz.heap.size := by rw [← hwz]; simp [World.setCell]
    have hbl : ∀ k, (Value.slice A2 n c2).ownBlock = some k → G < k ∧ k < w2.heap.size := fun k hk => by
      have := HO2.out.lt k hk
      rw [World.size_alloc, hG] at this
      exact ⟨by omega, this.2⟩
    refine ⟨.slice (some ⟨w2.heap.size, 0, none⟩) 1 1, _, [], ds.map mrk, ds.length, rfl, ?_, ⟨?_, fun p hp => ?_⟩, rfl, by simp, by simp; omega, by simp; omega, ?_⟩
    · rw [← hwz]; exact blk_alloc (blk_set hT2 1 _) _
    · have h9 := World.ownsRow_lit (base := G + 1) (e := 64) (size := 1) (w2.setCell ⟨G, 1, none⟩ (.slice (some ⟨w2.heap.size, 0, none⟩) 1 1)) #[.slice A2 n c2] 1 (by simp [World.setCell]; omega) (by unfold maxLen; omega) rfl
      rw [hwz] at h9
      simpa [World.setCell] using h9
    · obtain rfl := List.mem_singleton.1 hp
      refine ⟨?_, fun k hk => ⟨(hbl k hk).1, by have := (hbl k hk).2; omega, fun e => by have h7 := (hbl k hk).2; have e' : w2.heap.size = k := (by simpa [Value.ownBlock] using e); omega⟩⟩
      have h8 : SlD wz (.slice A2 n c2) (ds.map mrk) n := by
        refine hsl.keep fun k hk hlt => ?_
        rw [← hwz]
        exact (Below.heap_alloc _ _ _ (by simpa [World.setCell] using hlt)).trans (Below.heap_setCell _ _ _ _ (by have := (hbl k hk).1; show k ≠ G; omega))
      simpa [hlen] using h8
    · rw [← hwz]
      exact (hBz0.setCell (show w.heap.size ≤ (⟨G, 1, none⟩ : Addr).block from hGw) _).alloc (by simp [World.setCell]; exact hBz0.size) _)
  have HL1 : Hid (SlD w1 (.slice A1 n c1) ds n ∧ (∀ k, (Value.slice A1 n c1).ownBlock = some k → w.heap.size ≤ k ∧ k < G)) := hd ⟨own_sld HO1.out HS.out.all, fun k hk => by have := HO1.out.lt k hk; omega⟩
  have HK : Hid (∀ k, k < G → wz.heap[k]? = w1.heap[k]?) := hd (fun k hk => by
    rw [← hwz]
    refine (Below.heap_alloc _ _ _ (by simp [World.setCell]; omega)).trans ((Below.heap_setCell _ _ _ _ (by show k ≠ G; omega)).trans ?_)
    exact (HB2.out.block k (by simp; omega)).trans (Below.heap_alloc _ _ _ (by omega)))
  clear hwz hT2 hB1 hBz0 hc2 hf2
  go_wp2_with fail
  go_loopw [5] (fun x wr => ∃ (rv v : Value) (ps0 : List (Value × List Dg)) (l : List Dg) (f : Nat), x = v ∧ wr.heap[G]? = some (.cells #[.slice A1 n c1, rv] 67 (0, 0)) ∧ RowsInv wr G rv (ps0 ++ [(v, l)]) ∧ rows ds = ps0.map (·.2) ++ rowsUp f l ∧ l.length ≤ f ∧ 0 < l.length ∧ l.length ≤ 16 ∧ Below w.heap.size w wr ∧ (∀ k, k < G → wr.heap[k]? = w1.heap[k]?)) (fun x _ => lenOf x)
  case atStart =>
    obtain ⟨rv, v, ps0, l, f, h1, h2, h3, h4, h5, h6, h7, h8⟩ := HI.out
    exact ⟨rv, v, ps0, l, f, h1, h2, h3, h4, h5, h6, h7, h8, HK.out⟩
  case round =>
    obtain ⟨rv, v, ps0, l, f, rfl, hT, hrows, hrw, hf, hl0, hl16, hBw, hk1⟩ := hrel
    clear HI HK
    have hvl := hrows.2 _ (List.mem_append_right ps0 (List.mem_singleton.2 rfl))
    obtain ⟨A5, c5, hv, _⟩ := hvl.1.val
    simp only at hv
    subst hv
    obtain ⟨m, hm⟩ : ∃ m, l.length = m := ⟨_, rfl⟩
    rw [hm] at hl0 hl16 hf hvl hrows ⊢
    have HT := hd hT
    have HR := hd hrows
    have HRW := hd hrw
    have HBw := hd hBw
    have HK1 := hd hk1
    have HV := hd hvl
    have hcT : wr.cell? ⟨G, 1, none⟩ = some rv := by simp [World.cell?, hT]
    clear hT hrows hrw hBw hk1 hvl
    obtain ⟨A7, c7, hrv, _⟩ := own_cl HR.out.1
    obtain ⟨k7, hk7⟩ : ∃ k7, (ps0 ++ [(Value.slice A5 m c5, l)]).length = k7 := ⟨_, rfl⟩
    have hk17 : k7 ≤ 17 := by
      have h9 := congrArg List.length HRW.out
      rw [List.length_append, List.length_map] at h9
      have h8 := rowsUp_pos f l
      have h7 := rows_length ds
      rw [← hk7, List.length_append, List.length_singleton]
      omega
    rw [hk7] at hrv
    have HO7 := hd HR.out.1
    rw [hk7] at HO7
    obtain ⟨ob, hob⟩ : ∃ ob, rv.ownBlock = ob := ⟨_, rfl⟩
    by_cases hlt : 1 < m
    · have hltI : (1 : Int) < (m : Int) := by omega
      subst hrv
      go_wp2_with (first
        | (go_at_call 32; refine (chunk2_any _ A5 m c5 l HV.out.1 hl16 hl0).mono ?_; rintro e w6 ⟨v6, rfl, ho6, hb6⟩; have hT6 := (hb6.block _ (blk_lt HT.out)).trans HT.out; have hc6 : w6.cell? ⟨G, 1, none⟩ = some (.slice A7 k7 c7) := (by simp [World.cell?, hT6]); have HT6 := hd hT6; obtain ⟨A6, c6, rfl, _⟩ := own_cl ho6; have HO6 := hd ho6; have HB6 := hd hb6; have HR6 := hd (own_below HO7.out (hb6.trans ((Below.refl w6.heap.size w6).alloc (Nat.le_refl _) (.cells #[.slice A6 ((m + 1) / 2) c6] 64) |>.mono hb6.size))); clear ho6 hb6 hT6 hcT)
        | (at_builtin; refine wpList_appAt rfl (.tmp 32) (.tmp 34) 65 rfl (G + 1) 64 (.slice none 0 0) 1 24 (by kernel_rfl) infoR rfl (by decide) (.slice A7 k7 c7) k7 _ rfl HR6.out (some ⟨w6.heap.size, 0, none⟩) 1 1 [.slice A6 ((m + 1) / 2) c6] rfl rfl (fun e => nomatch e) (new_cl w6 64 _) one_slice (by unfold maxLen; omega) (by omega) (by have h1 := blk_lt HT6.out; simp; omega) ?_; intro v8 w8 ho8 hg8 hn8; have hT8 := (hg8.block G (by have h1 := blk_lt HT6.out; simp; omega) (fun e => by have := (HO7.out.lt G e.symm).1; omega)).trans (blk_alloc HT6.out (.cells #[.slice A6 ((m + 1) / 2) c6] 64)); have hc8 : w8.cell? ⟨G, 1, none⟩ = some (.slice A7 k7 c7) := (by simp [World.cell?, hT8]); have hf8 : w8.frozen? ⟨G, 1, none⟩ = false := (by simp [World.frozen?, hT8]); obtain ⟨A8, c8, rfl, _⟩ := own_cl ho8; have HO8 := hd ho8; have HG8 := hd hg8; have HT8 := hd hT8; have HN8 := hd hn8; clear ho8 hg8 hT8 hn8 hc6))
      go_roundw
      case rel =>
        obtain ⟨g, rfl, hg, hst⟩ := rowsUp_step f l (by omega) (by omega)
        have hGr : G < wr.heap.size := blk_lt HT.out
        have hb6a : Below wr.heap.size wr (w6.alloc (.cells #[.slice A6 ((m + 1) / 2) c6] 64)) := HB6.out.trans ((Below.refl w6.heap.size w6).alloc (Nat.le_refl _) _ |>.mono HB6.out.size)
        have hR6 := HR.out.below hb6a
        have h32 := up32 HV.out.1.all
        have hl6 : (upw l).length = (m + 1) / 2 := by rw [upw_length, hm]
        have hs6 : SlD (w6.alloc (.cells #[.slice A6 ((m + 1) / 2) c6] 64)) (.slice A6 ((m + 1) / 2) c6) (upw l) (upw l).length := by
          rw [hl6]
          exact (own_sld HO6.out h32).below ((Below.refl w6.heap.size w6).alloc (Nat.le_refl _) _)
        have hR8 := RowsInv.snoc (l := upw l) hR6 hs6 (fun k hk => by
          have h1 := HO6.out.lt k hk
          refine ⟨by omega, by simp; omega, fun e => ?_⟩
          have := (HO7.out.lt k e).2
          omega) (by rw [hk7]; exact HO8.out) HG8.out HN8.out
        refine ⟨.slice A8 (k7 + 1) c8, _, ps0 ++ [(.slice A5 m c5, l)], upw l, g, rfl, ?_, hR8.set 1, ?_, by omega, by omega, by omega, ?_, ?_⟩
        · have h9 := blk_set HT8.out 1 (.slice A8 (k7 + 1) c8)
          simpa using h9
        · rw [HRW.out, hst]; simp
        · have h1 : Below w.heap.size w (w6.alloc (.cells #[.slice A6 ((m + 1) / 2) c6] 64)) := HBw.out.trans (hb6a.mono HBw.out.size)
          exact (h1.grown HG8.out h1.size (fun j hj => by have := (HO7.out.lt j hj).1; omega)).setCell (show w.heap.size ≤ (⟨G, 1, none⟩ : Addr).block from hGw) _
        · intro k hk
          refine (Below.heap_setCell _ _ _ _ (by show k ≠ G; omega)).trans ((HG8.out.block k (by simp; have := HB6.out.size; omega) (fun e => by have := (HO7.out.lt k e.symm).1; omega)).trans ((hb6a.block k (by omega)).trans (HK1.out k hk)))
      case measure => simp [lenOf]; omega
    · have hle : ¬ (1 : Int) < (m : Int) := by omega
      go_wp2_with fail
      go_ret2
      have hGr : G < wr.heap.size := blk_lt HT.out
      refine ⟨G, rfl, ⟨_, rv, _, HT.out, hGw, hGr, ?_, fun k hk => ⟨(HL1.out.2 k hk).1, by have := (HL1.out.2 k hk).2; omega⟩, own_mono HR.out.1 (by omega), fun k hk => (HR.out.1.lt k hk).2, ?_, fun p hp => ⟨(HR.out.2 p hp).1, fun k hk => ⟨by have := ((HR.out.2 p hp).2 k hk).1; omega, ((HR.out.2 p hp).2 k hk).2.1⟩⟩⟩, HBw.out⟩
      · rw [hlen]
        exact HL1.out.1.keep fun k hk _ => HK1.out k (HL1.out.2 k hk).2
      · rw [HRW.out, rowsUp_one f l (by omega)]; simp

end Go.Proofs.Ytjfplkndngmgdaa
