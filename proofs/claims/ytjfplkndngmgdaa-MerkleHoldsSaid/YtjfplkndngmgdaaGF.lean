/- A range over a function whose iterator hands on values that it makes itself: the contract and the caller's law (as XRange's). (*merkle.Tree).Rows: its iterator. A function that leaves with many marks among its deferred calls. -/
import Derived.Test.YtjfplkndngmgdaaGA
import Derived.Test.YtjfplkndngmgdaaGD
import Derived.Test.YtjfplkndngmgdaaGE
namespace Go.Proofs.Ytjfplkndngmgdaa
set_option maxRecDepth 20000
open Go.RowKit

variable {F : Fence} {n : Nat} {P : Program} {w : World}

/-- An iterator's contract: it gives xs, one by one, each in some arguments of which Enc holds in the world of the hand-over. -/
def IterG {α : Type} (F : Fence) (n : Nat) (P : Program) (g : Nat) (lb : Array Value) (Enc : α → Array Value → World → Prop) (Pr Keep : Nat → Prop) (xs : List α) (w : World) : Prop :=
  ∀ (l : Nat) (J Jx : List α → World → Prop) (W : World), Below w.heap.size w W → Turns W.heap.size Pr J → Turns W.heap.size Pr Jx →
    (∀ pre x args W1, J pre W1 → pre ++ [x] <+: xs → Enc x args W1 → YieldAt F (n - 1) P l args W1 fun e W' =>
      (e = .returned (.bool true) ∧ J (pre ++ [x]) W' ∧ Kept Keep W1 W') ∨ (e = .returned (.bool false) ∧ Jx (pre ++ [x]) W')) →
    J [] W →
    CallsIn F n P g (#[.func (.yield l) #[] #[]] ++ lb) W fun e W' => (∃ v, e = .returned v) ∧ (J xs W' ∨ (∃ pre, pre <+: xs ∧ Jx pre W'))

/-- **THE CALLER's LAW.** -/
theorem wpIn_rangeG {α : Type} {g : Operand} {ps : Array Tmp} {assign body : Code} {Q : Exit → Act → World → Prop} {a : Act} {w : World}
    (hro : F.round = none) (h1 : 1 ≤ n) {gf : Nat} {lb : Array Value} (hg : a.eval g = .func (.func gf) #[] lb) (hFg : F.fn gf) (eg : ∀ args w, (callFunc gf args).run P w = .ok (.enter gf args) w)
    {Enc : α → Array Value → World → Prop} {Pr Keep : Nat → Prop} {xs : List α} {w0 : World} (hseq : IterG F (n - 1) P gf lb Enc Pr Keep xs w0)
    (hPr : ∀ k, Pr k → k < w.heap.size) (hKe : ∀ k, Keep k → k < w.heap.size) (hb0 : Below w0.heap.size w0 w) (hps : ∀ x args W, Enc x args W → args.size = ps.size)
    (I : List α → World → Prop) (Ix : Code → List α → World → Prop) (hI : Turns w.heap.size Pr I) (hIx : ∀ c, Turns w.heap.size Pr (Ix c)) (h0 : I [] w) (Ax : α → Act → World → Prop) (hAx : ∀ x a', Turns w.heap.size Pr (fun (_ : Unit) W => Ax x a' W))
    (hassign : ∀ (l : Nat) (pre : List α) (x : α) (args : Array Value) (W : World) (K : Act → World → Prop), I pre W → Enc x args W → pre ++ [x] <+: xs → (∀ a' W', KeepsFrom w.heap.size W W' → Kept Keep W W' → I pre W' → Ax x a' W' → K a' W') →
      assign.wpIn (F.inRound l) (n - 1 - 1) P (Exit.then K (fun _ _ _ => False)) { tmps := (ps.zip args).foldl (fun t (p, v) => t.setIfInBounds p v) a.tmps, defers := [] } W)
    (hbody : ∀ (l : Nat) (pre : List α) (x : α) (a' : Act) (W : World), w.heap.size ≤ l → (∃ r, W.heap[l]? = some (.loop r)) → I pre W → Ax x a' W → pre ++ [x] <+: xs → body.wpIn (F.inRound l) (n - 1 - 1) P (ownPostT w.heap.size Keep I Ix (pre ++ [x]) W) a' W)
    (hdone : ∀ (D : Nat) (W : World), w.heap.size ≤ D → I xs W → W.heap[D]? = some (.deferred (some [])) → Q .normal { a with defers := { target := .collected D, args := #[] } :: a.defers } W)
    (hstop : ∀ (D : Nat) (c : Code) (pre : List α) (W : World), w.heap.size ≤ D → pre <+: xs → Ix c pre W → W.heap[D]? = some (.deferred (some [])) → c.wpIn F n P Q { a with defers := { target := .collected D, args := #[] } :: a.defers } W) :
    (Code.rangeFunc g ps assign body).wpIn F n P Q a w := by
  refine wpIn_rangeFunc ?_
  intro fn hfn
  rw [hro]
  obtain ⟨rec, hrec⟩ : ∃ rec : LoopState → Option Code → Loop, rec = fun st pe => { state := st, pending := pe, fn, tmps := a.tmps, params := ps, assign, body, defers := w.heap.size } := ⟨_, rfl⟩
  obtain ⟨W1, hW1⟩ : ∃ W1, (w.alloc (.deferred (some []))).alloc (.loop (rec .ready none)) = W1 := ⟨_, rfl⟩
  have hL1 : W1.heap[w.heap.size + 1]? = some (.loop (rec .ready none)) := by
    rw [← hW1]; have := World.alloc_heap_new (w.alloc (.deferred (some []))) (.loop (rec .ready none)); rwa [World.size_alloc] at this
  have hK1 : W1.heap[w.heap.size]? = some (.deferred (some [])) := by
    rw [← hW1]; exact (Below.heap_alloc _ _ _ (by simp)).trans (World.alloc_heap_new w _)
  have hI1 : I [] W1 := by rw [← hW1]; exact hI.alloc _ (hI.alloc _ h0)
  have hb1 : Below w0.heap.size w0 W1 := by
    rw [← hW1]; exact hb0.trans ((((Below.refl _ w).alloc (Nat.le_refl _) _).alloc (by simp) _).mono hb0.size)
  refine ⟨w.heap.size + 1, [{ target := .collected w.heap.size, args := #[] }], W1, { target := .fn (.func gf) lb, args := #[.func (.yield (w.heap.size + 1)) #[] #[]] }, W1, gf,
    #[.func (.yield (w.heap.size + 1)) #[] #[]] ++ lb, W1, ?_, ?_, ?_, ?_, fun _ => h1, ?_⟩
  · rw [← hW1, hrec]; exact run_enterLoop_outer _ _ _ _ _
  · simp only [resolve, hg]
    simp [go_sem]
  · intro f' hf'; simp [Target.leads] at hf'; subst hf'; exact hFg
  · simp [invoke, go_sem, eg]
  · -- THE ITERATOR's CONTRACT, AT THE CALLER's INVARIANT WITH THE TWO FACTS OF BOOK-KEEPING BESIDE IT
    have hnw : ∀ {A : World} {row : Option Nat}, (∀ r, row = some r → Pr r ∨ (W1.heap.size ≤ r ∧ ∃ o : Obj, A.heap[r]? = some o ∧ o.isCells = false)) → (∀ r, row = some r → Pr r ∨ (w.heap.size ≤ r ∧ ∃ o : Obj, A.heap[r]? = some o ∧ o.isCells = false)) :=
      fun hr r e => (hr r e).imp id fun ⟨hB, h⟩ => ⟨by rw [← hW1] at hB; simp at hB; omega, h⟩
    have hst : ∀ {A B : World} {row : Option Nat} {k : Nat} {o : Obj}, A.grownBy B row → (∀ r, row = some r → Pr r ∨ (W1.heap.size ≤ r ∧ ∃ o : Obj, A.heap[r]? = some o ∧ o.isCells = false)) → w.heap.size ≤ k → k < W1.heap.size → A.heap[k]? = some o → B.heap[k]? = some o :=
      fun hg hr hk1 hk2 h => (hg.block _ (Array.getElem?_eq_some_iff.1 h).1 (fun e => by
        rcases hr _ e.symm with h1 | ⟨h1, _⟩
        · have := hPr _ h1; omega
        · omega)).trans h
    have hz1 : W1.heap.size = w.heap.size + 2 := by rw [← hW1]; simp
    refine (hseq (w.heap.size + 1)
      (fun pre W => I pre W ∧ W.heap[w.heap.size + 1]? = some (.loop (rec .ready none)) ∧ W.heap[w.heap.size]? = some (.deferred (some [])))
      (fun pre W => ∃ c, Ix c pre W ∧ W.heap[w.heap.size + 1]? = some (.loop (rec .done (some c))) ∧ W.heap[w.heap.size]? = some (.deferred (some [])))
      W1 hb1
      (fun s A B row hs hg' hr => ⟨hI s A B row hs.1 hg' (hnw hr), hst hg' hr (by omega) (by omega) hs.2.1, hst hg' hr (by omega) (by omega) hs.2.2⟩)
      (fun s A B row hs hg' hr => by
        obtain ⟨c, hc, hl, hk⟩ := hs
        exact ⟨c, hIx c s A B row hc hg' (hnw hr), hst hg' hr (by omega) (by omega) hl, hst hg' hr (by omega) (by omega) hk⟩)
      ?_ ⟨hI1, hL1, hK1⟩).mono ?_
    · -- ONE ROUND
      rintro pre x args W ⟨hi, hl, hk⟩ hlen henc
      have hlt : w.heap.size + 1 < W.heap.size := (Array.getElem?_eq_some_iff.1 hl).1
      have hy := run_yield (P := P) (args := args) hl (by rw [hrec]; exact hps x args W henc)
      rw [hrec] at hy
      refine ⟨fn, _, assign, body, hy, roundIn_of_wpIn hfn (hassign _ pre x args W _ hi henc hlen ?_)⟩
      clear hy
      intro a' Wa hkfa hkpa hia hax
      -- THE ASSIGN CODE MAY HAVE LAID BLOCKS (a loop variable that an inner function captures is boxed): the two blocks of book-keeping lie as they lay
      replace hl := hkfa.same _ _ (by omega) hl rfl
      replace hk := hkfa.same _ _ (Nat.le_refl _) hk rfl
      replace hlt : w.heap.size + 1 < Wa.heap.size := (Array.getElem?_eq_some_iff.1 hl).1
      replace hi := hia
      clear hia
      revert hkpa hkfa
      generalize W = Wb
      intro hkfa hkpa
      obtain ⟨W, rfl⟩ : ∃ W, W = Wa := ⟨_, rfl⟩
      refine ⟨_, run_beginRound hl (by rw [hrec]), ?_⟩
      have hl2 : (W.putObj (w.heap.size + 1) (.loop { rec .ready none with state := .busy })).heap[w.heap.size + 1]? = some (.loop { rec .ready none with state := .busy }) := World.putObj_heap_same hlt
      have hk2 : (W.putObj (w.heap.size + 1) (.loop { rec .ready none with state := .busy })).heap[w.heap.size]? = some (.deferred (some [])) := (World.putObj_heap_other (by omega)).trans hk
      have hw2 : Kept Keep W (W.putObj (w.heap.size + 1) (.loop { rec .ready none with state := .busy })) := Kept.putObj hKe _ _ _ (by omega)
      refine wpIn_mono (hbody _ pre x a' _ (by omega) ⟨_, hl2⟩ (hI.putObj _ hi (by omega) hl rfl) ((hAx x a').putObj (s := ()) _ hax (by omega) hl rfl) hlen) ?_
      have fin : ∀ (jump : Option Code) (W3 : World), KeepsFrom w.heap.size (W.putObj (w.heap.size + 1) (.loop { rec .ready none with state := .busy })) W3 →
          (Instr.endRound (w.heap.size + 1) jump).run P W3 = .ok (.bool jump.isNone) (W3.putObj (w.heap.size + 1) (.loop (rec (if jump.isNone then .ready else .done) jump))) ∧
          W3.heap[w.heap.size + 1]? = some (.loop { rec .ready none with state := .busy }) ∧
          (W3.putObj (w.heap.size + 1) (.loop (rec (if jump.isNone then .ready else .done) jump))).heap[w.heap.size + 1]? = some (.loop (rec (if jump.isNone then .ready else .done) jump)) ∧
          (W3.putObj (w.heap.size + 1) (.loop (rec (if jump.isNone then .ready else .done) jump))).heap[w.heap.size]? = some (.deferred (some [])) := fun jump W3 hk3 => by
        have hl3 := hk3.same _ _ (by omega) hl2 rfl
        have := run_endRound (P := P) jump hl3
        rw [hrec] at this ⊢
        exact ⟨this, by rw [hrec] at hl3; exact hl3, World.putObj_heap_same (Array.getElem?_eq_some_iff.1 hl3).1, (World.putObj_heap_other (by omega)).trans (hk3.same _ _ (Nat.le_refl _) hk2 rfl)⟩
      rintro e a3 W3 hp
      cases e with
      | normal =>
        obtain ⟨hk3, hkp3, hi3⟩ := hp
        obtain ⟨hr, hl3, hl4, hk4⟩ := fin none W3 hk3
        exact ⟨_, _, hr, .inl ⟨rfl, ⟨hI.putObj _ hi3 (by omega) hl3 rfl, hl4, hk4⟩, hkpa.trans ((hw2.trans hkp3).trans (Kept.putObj hKe _ _ _ (by omega)))⟩⟩
      | ret =>
        obtain ⟨hk3, hi3⟩ := hp
        obtain ⟨hr, hl3, hl4, hk4⟩ := fin (some .ret) W3 hk3
        exact ⟨_, _, hr, .inr ⟨rfl, .ret, (hIx _).putObj _ hi3 (by omega) hl3 rfl, hl4, hk4⟩⟩
      | exit id =>
        obtain ⟨hk3, hi3⟩ := hp
        obtain ⟨hr, hl3, hl4, hk4⟩ := fin (some (.exit id)) W3 hk3
        exact ⟨_, _, hr, .inr ⟨rfl, .exit id, (hIx _).putObj _ hi3 (by omega) hl3 rfl, hl4, hk4⟩⟩
      | goto t =>
        obtain ⟨hk3, hi3⟩ := hp
        obtain ⟨hr, hl3, hl4, hk4⟩ := fin (some (.goto t)) W3 hk3
        exact ⟨_, _, hr, .inr ⟨rfl, .goto t, (hIx _).putObj _ hi3 (by omega) hl3 rfl, hl4, hk4⟩⟩
      | panic ch => exact hp.elim
      | outgrown => exact hp.elim
    · -- BEHIND THE ITERATOR
      rintro e W2 ⟨⟨v, rfl⟩, (⟨hi, hl, hk⟩ | ⟨pre, hSp, c, hi, hl, hk⟩)⟩
      · exact ⟨none, _, by have := run_endLoop (P := P) hl (by rw [hrec]; simp); rw [hrec] at this; exact this, hdone _ _ (Nat.le_refl _) (hI.putObj _ hi (by omega) hl rfl) ((World.putObj_heap_other (by omega)).trans hk)⟩
      · exact ⟨some c, _, by have := run_endLoop (P := P) hl (by rw [hrec]; simp); rw [hrec] at this; exact this, hstop _ c pre _ (Nat.le_refl _) hSp ((hIx c).putObj _ hi (by omega) hl rfl) ((World.putObj_heap_other (by omega)).trans hk)⟩



end Go.Proofs.Ytjfplkndngmgdaa

namespace Go.Proofs.Ytjfplkndngmgdaa
set_option maxRecDepth 20000
open Go.RowKit Go.Shelf Sp

attribute [local go_sem ↓] ldD stD
attribute [local go_sem] run_ldA run_stA arrD loadX_at loadY_some storeX_at storeY_true ucs_size ones_ucs sha_length
attribute [local go_sem] Oper.semAt_some

set_option maxHeartbeats 1000000 in
set_option maxRecDepth 100000 in
theorem clone_r (w : World) (A : Option Addr) (m c : Nat) (ds : List Dg) (hs : SlD w (.slice A m c) ds m) (hm : m ≤ 1000) (hm0 : 0 < m) :
    Calls Try.prog 40 #[.slice A m c] w fun e w' => ∃ v, e = .returned v ∧ w'.ownsRow w.heap.size 35 32 v m (dcs ds) ∧ Below w.heap.size w w' := by
  obtain ⟨b, o, rfl, hb⟩ := hs.at hm0
  obtain ⟨A', c', e, h2, h3, h4, h5, h6, h7⟩ := hs
  cases e
  have HX := hd h7
  have HL := hd (show (dcs ds).length = m * 32 by rw [dcs_length h3, h2])
  have b1 : 0 + m ≤ maxLen := by unfold maxLen; omega
  have b2 : (0 + m) * 32 ≤ 140737488355328 := by omega
  have hq := fun (W : World) (B : Option Addr) => Lib.run_eql_slice_nil (P := Try.prog) W 64 35 B m c 0 0 (by kernel_rfl)
  clear h7 h3 h2
  go_enter Try.func40, Try.ntmps40
  go_wp2_with (at_builtin; refine wpList_app rfl (.tmp 5) (.tmp 6) 64 rfl w.heap.size 35 (.agg (ucs (List.replicate 32 0))) 32 32 (by kernel_rfl) infoD rfl (by decide) _ 0 [] rfl (World.ownsRow_made w #[] 0 (Nat.le_refl _) (Nat.zero_le _) rfl) (some ⟨b, o, none⟩) m c (dcs ds) rfl HL.out (fun e => nomatch e) (HX.out.alloc _) (dcs_one _) b1 b2 (Nat.le_of_lt (by simp)) ?_; intro v w1 ho hg _; have HO := hd ho; have HG := hd hg; clear ho hg)
  go_ret
  refine ⟨v, rfl, by simpa using HO.out, ?_⟩
  exact ((Below.refl _ _).alloc (Nat.le_refl _) _).grown HG.out (by simp) (fun k hk => by cases hk; exact Nat.le_refl _)

set_option maxHeartbeats 1000000 in
theorem trows_any (w : World) (p : Value) (hp : ∃ A, p = .pointer A) :
    Calls Try.prog 22 #[p] w fun e w' => e = .returned (.func (.func 39) #[] #[.pointer (some ⟨w.heap.size, 0, none⟩)]) ∧ w' = w.alloc (.cells #[p] 31) := by
  obtain ⟨A, rfl⟩ := hp
  go_enter Try.func22, Try.ntmps22
  go_wp2_with fail
  go_ret
  exact ⟨rfl, rfl⟩

theorem below_grown_none {W W' : World} (h : Below W.heap.size W W') : W.grownBy W' none := ⟨h.os, h.tape, h.output, h.size, fun k hk _ => h.block k hk⟩
/-- The rows of no tree: none. -/
theorem rows_nil (n : Nat) (BT : Nat) (w : World) (hB : Boxed w BT 31 (.pointer none)) (Keep : Nat → Prop) :
    IterG (α := List Dg) Fence.wide n Try.prog 39 #[.pointer (some ⟨BT, 0, none⟩)] (fun _ _ _ => False) (fun _ => False) Keep [] w := by
  intro l J Jx W hW hJ hJx hY h0
  have hB' : Boxed W BT 31 (.pointer none) := (hW.block BT hB.lt).trans hB
  have hcB := hB'.cell
  clear hY hB hB'
  refine callsIn_of_wp Try.func39 rfl trivial ?_ rfl
  simp only [Try.ntmps39, List.size_toArray, List.length_cons, List.length_nil, Nat.reduceAdd, Nat.reduceSub, Array.replicate_succ, Array.replicate_zero, List.push_toArray, List.append_toArray, List.nil_append, List.cons_append]
  have HJ := hd h0
  clear h0
  gi_wp2
  refine ⟨trivial, (fun h => by cases h), (callsIn_wide.2 (tnone_nil _)).mono ?_⟩
  rintro e w' ⟨rfl, rfl⟩
  gi_wp2
  refine bodyPost_ret (results_none rfl _ _ _) rfl ?_
  exact ⟨⟨_, rfl⟩, .inl HJ.out⟩

theorem rowsUp_short : ∀ (f : Nat) (l : List Dg), ∀ r ∈ rowsUp f l, r.length ≤ l.length
  | 0, l, r, hr => by obtain rfl := List.mem_singleton.1 hr; exact Nat.le_refl _
  | f + 1, l, r, hr => by
    rw [rowsUp] at hr
    split at hr
    · obtain rfl := List.mem_singleton.1 hr; exact Nat.le_refl _
    · rcases List.mem_cons.1 hr with rfl | hr
      · exact Nat.le_refl _
      · have h1 := rowsUp_short f (upw l) r hr
        rw [upw_length] at h1
        omega

set_option maxRecDepth 100000 in
set_option maxHeartbeats 2000000 in
theorem rows_iter (n : Nat) (BT B0 T g : Nat) (w : World) (ds : List Dg) (hT : TreeAt w B0 T g ds) (hTB : T ≤ w.heap.size) (h0 : 0 < ds.length) (h16 : ds.length ≤ 16) (hB : Boxed w BT 31 (.pointer (some ⟨g, 0, none⟩))) :
    IterG Fence.wide n Try.prog 39 #[.pointer (some ⟨BT, 0, none⟩)] (fun (x : List Dg) args W => ∃ v, args = #[v] ∧ W.ownsRow w.heap.size 35 32 v x.length (dcs x)) (fun _ => False) (fun k => k = BT ∨ (B0 ≤ k ∧ k < T)) (rows ds) w := by
  intro l J Jx W hW hJ hJx hY hj0
  have hB' : Boxed W BT 31 (.pointer (some ⟨g, 0, none⟩)) := (hW.block BT hB.lt).trans hB
  have hT' : TreeAt W B0 T g ds := hT.below hTB hW
  have HBT := hd hB.lt
  obtain ⟨b, o, c, rb, rc, h1, h2, h3, h3', h4⟩ := hT'.open h0
  have hgT : g < T := by obtain ⟨_, _, _, _, _, h, _⟩ := hT; exact h
  have hgB : B0 ≤ g := by obtain ⟨_, _, _, _, h, _⟩ := hT; exact h
  have hwW : w.heap.size ≤ W.heap.size := hW.size
  have hrl := rows_length ds
  obtain ⟨R, hR⟩ : ∃ R, (rows ds).length = R := ⟨_, rfl⟩
  obtain ⟨n0, hn0⟩ : ∃ n0, ds.length = n0 := ⟨_, rfl⟩
  have HR := hd hR
  rw [hR] at hrl h1 h3'
  rw [hn0] at hrl h1 h0 h16
  have HG := hd h1
  have HN := hd (tnone_tree W g n0 _ c _ h1 h0)
  have hcT := hB'.cell
  have hcg : W.cell? ⟨g, 1, none⟩ = some (.slice (some ⟨rb, 0, none⟩) R rc) := by simp [World.cell?, h1]
  have HT' := hd hT'
  have HY := hd hY
  have HJ0 := hd hj0
  have HJn := hd (fun s (A A' : World) (hs : J s A) (hb : Below A.heap.size A A') => show J s A' from hJ.none hs (below_grown_none hb))
  have hneq : ds.length = n0 := hn0
  have HNEQ := hd hneq
  clear h1 h2 h4 hT hT' hB hB' hR hn0 hneq hY hj0 hW
  refine callsIn_of_wp Try.func39 rfl trivial ?_ rfl
  simp only [Try.ntmps39, List.size_toArray, List.length_cons, List.length_nil, Nat.reduceAdd, Nat.reduceSub, Array.replicate_succ, Array.replicate_zero, List.push_toArray, List.append_toArray, List.nil_append, List.cons_append]
  gi_wp2
  refine ⟨trivial, (fun h => by cases h), (callsIn_wide.2 HN.out).mono ?_⟩
  rintro e w' ⟨rfl, rfl⟩
  gi_wp2
  gi_loopw [12] (fun x wr => ∃ k : Nat, x = .int .i64 (k : Int) ∧ k ≤ R ∧ J ((rows ds).take k) wr ∧ (∀ j, B0 ≤ j → j < T → wr.heap[j]? = W.heap[j]?) ∧ W.heap.size ≤ wr.heap.size) (fun x _ => R - (intOf x).toNat)
  case atStart => exact ⟨0, rfl, Nat.zero_le _, HJ0.out, fun _ _ _ => rfl, Nat.le_refl _⟩
  case round =>
    obtain ⟨k, rfl, hk, hJk, hkeep, hsz⟩ := hrel
    have HJk := hd hJk
    have HKP := hd hkeep
    clear hJk hcT hcg
    by_cases hlt : k < R
    · have hltI : (k : Int) < (R : Int) := by omega
      have hk0 : (0 : Int) ≤ (k : Int) := by omega
      have htr := HT'.out.keep (w' := wr) hkeep
      obtain ⟨b, o, c, rb2, rc2, e1, _, _, e2, h4⟩ := htr.open (by rw [HNEQ.out]; exact h0)
      obtain ⟨x, hx⟩ : ∃ x, (rows ds)[k]? = some x := ⟨(rows ds)[k]'(by rw [HR.out]; exact hlt), List.getElem?_eq_getElem _⟩
      obtain ⟨b', o', c', hcr, hsd⟩ := h4 k x hx
      have hx0 : 0 < x.length := rowsUp_nonempty ds.length (ds.map mrk) (by rw [List.length_map, HNEQ.out]; exact h0) x (List.mem_of_getElem? hx)
      have hx40 : x.length ≤ 40 := by
        have h5 := rowsUp_short ds.length (ds.map mrk) x (List.mem_of_getElem? hx)
        rw [List.length_map, HNEQ.out] at h5
        omega
      obtain ⟨rfl, rfl⟩ : rb2 = rb ∧ rc2 = rc := by
        have h5 := (hkeep g hgB hgT).trans HG.out
        rw [e1] at h5
        simp at h5
        exact ⟨h5.2.1, h5.2.2.2⟩
      have htk : (rows ds).take (k + 1) = (rows ds).take k ++ [x] := by rw [List.take_add_one, hx]; rfl
      have hpre : (rows ds).take k ++ [x] <+: rows ds := by rw [← htk]; exact List.take_prefix _ _
      have HCL := hd (clone_r wr _ x.length c' x hsd (by omega) hx0)
      have HTK := hd htk
      have HPRE := hd hpre
      clear htr e1 e2 h4 hx hkeep htk hpre
      gi_wp2
      refine ⟨trivial, (fun h => by cases h), (callsIn_wide.2 HCL.out).mono ?_⟩
      rintro e w2 ⟨v2, rfl, ho2, hb2⟩
      obtain ⟨fn, tmps, assign, body, hy, hR⟩ := HY.out _ x #[v2] w2 (HJn.out _ _ _ HJk.out hb2) HPRE.out ⟨v2, rfl, own_mono ho2 (by omega)⟩
      have HB2 := hd hb2
      clear ho2 hb2
      gi_wp2
      refine ⟨(fun h => by cases h), hR.mono ?_⟩
      rintro e W3 (⟨rfl, hJ3, hk3⟩ | ⟨rfl, hJx3⟩)
      · have HJ3 := hd hJ3
        have HK3 := hd hk3
        clear hJ3 hk3 hR hy
        gi_wp2
        have hs3 := HK3.out.size
        have hs2 := HB2.out.size
        refine ⟨⟨k + 1, by go_num, by omega, by rw [HTK.out]; exact HJ3.out, fun j hj1 hj2 => ?_, by omega⟩, by simp [intOf]; omega⟩
        exact (HK3.out.same j (.inr ⟨hj1, hj2⟩)).trans ((HB2.out.block j (by omega)).trans (HKP.out j hj1 hj2))
      · have HJX := hd hJx3
        clear hJx3 hR hy
        gi_wp2
        refine bodyPost_ret (results_none rfl _ _ _) rfl ?_
        exact ⟨⟨_, rfl⟩, .inr ⟨_, HPRE.out, HJX.out⟩⟩
    · have hle : ¬ (k : Int) < (R : Int) := by omega
      obtain rfl : k = R := by omega
      have HJE := hd (show J (rows ds) wr by have h := HJk.out; rwa [List.take_of_length_le (by rw [HR.out]; exact Nat.le_refl _)] at h)
      clear hkeep
      gi_wp2
      go_end0
      exact ⟨⟨_, rfl⟩, .inl HJE.out⟩

end Go.Proofs.Ytjfplkndngmgdaa

namespace Go.Proofs.Ytjfplkndngmgdaa
set_option maxRecDepth 20000
open Go.RowKit Go.Shelf Sp

def marks (Ds : List Nat) : List Deferred := Ds.map fun D => { target := .collected D, args := #[] }
def shut (W : World) (Ds : List Nat) : World := Ds.foldl (fun W D => W.putObj D (.deferred none)) W
theorem shut_cons (W : World) (D : Nat) (Ds : List Nat) : shut W (D :: Ds) = shut (W.putObj D (.deferred none)) Ds := rfl
theorem shut_other : ∀ (Ds : List Nat) (W : World) (k : Nat), k ∉ Ds → (shut W Ds).heap[k]? = W.heap[k]?
  | [], W, k, _ => rfl
  | D :: Ds, W, k, h => by
    rw [shut_cons, shut_other Ds _ k (fun e => h (List.mem_cons_of_mem _ e))]
    exact World.putObj_heap_other (fun e => h (by rw [e]; exact List.mem_cons_self ..))
theorem shut_below : ∀ (Ds : List Nat) (B : Nat) (W : World), B ≤ W.heap.size → (∀ D ∈ Ds, B ≤ D) → Below B W (shut W Ds)
  | [], B, W, _, _ => Below.refl _ _
  | D :: Ds, B, W, hB, h => by
    rw [shut_cons]
    have h1 : Below B W (W.putObj D (.deferred none)) := (Chg.grown (grownBy_putObj' _ D (.deferred none))).toBelow hB (fun k hk e => by
      have e' : D = k := by simpa using e
      have := h D (List.mem_cons_self ..)
      omega)
    exact h1.trans (shut_below Ds B _ (by simpa [World.putObj] using hB) (fun x hx => h x (List.mem_cons_of_mem _ hx)))
theorem leaves_marks {n : Nat} {P : Program} {fn : Func} {tmps : Array Value} {R : Ending → World → Prop} : ∀ (Ds : List Nat) (W : World), Ds.Nodup → (∀ D ∈ Ds, W.heap[D]? = some (.deferred (some []))) →
    (∃ v, (results fn tmps).run P (shut W Ds) = .ok v (shut W Ds) ∧ R (.returned v) (shut W Ds)) → LeavesInM Fence.wide n P fn tmps R (marks Ds) .returning W
  | [], W, _, _, h => h
  | D :: Ds, W, hn, hd, h => by
    have h1 := hd D (List.mem_cons_self ..)
    refine ⟨by simp, .inl ⟨D, _, rfl, run_takeDeferred h1, ?_⟩⟩
    have hn' := List.nodup_cons.1 hn
    exact leaves_marks Ds _ hn'.2 (fun x hx => (World.putObj_heap_other (fun e => hn'.1 (by rw [← e]; exact hx))).trans (hd x (List.mem_cons_of_mem _ hx))) h
theorem ret_marks {n : Nat} {P : Program} {fn : Func} {tmps : Array Value} {R : Ending → World → Prop} (Ds : List Nat) (W : World) (hn : Ds.Nodup) (hd : ∀ D ∈ Ds, W.heap[D]? = some (.deferred (some [])))
    (h : ∃ v, (results fn tmps).run P (shut W Ds) = .ok v (shut W Ds) ∧ R (.returned v) (shut W Ds)) : bodyPostM Fence.wide n P fn R .ret ⟨tmps, marks Ds⟩ W := leaves_marks Ds W hn hd h
/-- The walks' objects of the loops so far. -/
structure MarksAt (S : Nat) (W : World) (Ds : List Nat) : Prop where
  nodup : Ds.Nodup
  from_ : ∀ D ∈ Ds, S ≤ D
  at_ : ∀ D ∈ Ds, W.heap[D]? = some (.deferred (some []))
theorem MarksAt.nil (S : Nat) (W : World) : MarksAt S W [] := ⟨List.nodup_nil, (fun _ h => by cases h), (fun _ h => by cases h)⟩
theorem MarksAt.keep {S : Nat} {W W' : World} {Ds : List Nat} (h : MarksAt S W Ds) (hk : ∀ (k : Nat) (o : Obj), W.heap[k]? = some o → o.isCells = false → W'.heap[k]? = some o) : MarksAt S W' Ds := ⟨h.nodup, h.from_, fun D hD => hk D _ (h.at_ D hD) rfl⟩
theorem MarksAt.below {S : Nat} {W W' : World} {Ds : List Nat} (h : MarksAt S W Ds) (hb : Below W.heap.size W W') : MarksAt S W' Ds := h.keep fun k _ hk _ => (hb.block k (blk_lt hk)).trans hk
theorem MarksAt.cons {S : Nat} {W : World} {Ds : List Nat} {D : Nat} (h : MarksAt S W Ds) (hS : S ≤ D) (hD : W.heap[D]? = some (.deferred (some []))) (hn : D ∉ Ds) : MarksAt S W (D :: Ds) :=
  ⟨List.nodup_cons.2 ⟨hn, h.nodup⟩, (fun x hx => by
    rcases List.mem_cons.1 hx with rfl | hx
    · exact hS
    · exact h.from_ x hx), (fun x hx => by
    rcases List.mem_cons.1 hx with rfl | hx
    · exact hD
    · exact h.at_ x hx)⟩
theorem chg_cells {p : Nat → Prop} {W W' : World} (h : Chg p W W') (hp : ∀ (k : Nat) (o : Obj), W.heap[k]? = some o → o.isCells = false → ¬ p k) : ∀ (k : Nat) (o : Obj), W.heap[k]? = some o → o.isCells = false → W'.heap[k]? = some o :=
  fun k o hk ho => (h.block k (blk_lt hk) (hp k o hk ho)).trans hk
theorem boxed_isCells {W : World} {b t : Nat} {v : Value} (h : Boxed W b t v) : ∀ o : Obj, W.heap[b]? = some o → o.isCells = false → False := fun o h1 h2 => by
  rw [show W.heap[b]? = _ from h] at h1; cases h1; cases h2

theorem RowsAt.openT {w : World} {B T : Nat} {rv : Value} {ds : List Dg} (h : RowsAt w B T rv ds) (h0 : 0 < ds.length) :
    ∃ rb rc, rv = .slice (some ⟨rb, 0, none⟩) (rows ds).length rc ∧ rb < T ∧ B ≤ rb ∧ (rows ds).length ≤ rc ∧
      ∀ j r, (rows ds)[j]? = some r → 0 < r.length ∧ ∃ b' o' c', w.cell? ⟨rb, j, none⟩ = some (.slice (some ⟨b', o', none⟩) r.length c') ∧ SlD w (.slice (some ⟨b', o', none⟩) r.length c') r r.length ∧ B ≤ b' ∧ b' < T := by
  obtain ⟨ps, h6, h7, h8, h9⟩ := h
  have hlen : ps.length = (rows ds).length := by rw [← h8, List.length_map]
  obtain ⟨Ar, rc, rfl, hrn, _, hcl, hrb, hr0⟩ := own_cl h6
  cases Ar with
  | none => have := (hr0 rfl).1; have := rows_ne ds; omega
  | some ar =>
    have h6' := h6.2
    rcases h6' with ⟨e, _⟩ | ⟨rb, cap, cur, e, _⟩
    · cases e
    · cases e
      refine ⟨rb, rc, by rw [hlen], h7 _ rfl, (hrb _ rfl).1, by omega, fun j r hj => ?_⟩
      rw [← h8, List.getElem?_map] at hj
      cases hp : ps[j]? with
      | none => rw [hp] at hj; cases hj
      | some p =>
        rw [hp] at hj
        simp only [Option.map_some, Option.some.injEq] at hj
        subst hj
        have hs := (h9 p (List.mem_of_getElem? hp)).1
        have hB := (h9 p (List.mem_of_getElem? hp)).2
        obtain ⟨A', c', e, _⟩ := hs.val
        have hr : 0 < p.2.length := rowsUp_nonempty ds.length (ds.map mrk) (by simpa using h0) p.2 (by
          have := List.mem_of_getElem? (show (ps.map (·.2))[j]? = some p.2 by rw [List.getElem?_map, hp]; rfl)
          rw [h8] at this
          exact this)
        rw [e] at hs
        obtain ⟨b', o', rfl, _⟩ := hs.at hr
        refine ⟨hr, b', o', c', ?_, hs, (hB b' (by rw [e]; rfl)).1, (hB b' (by rw [e]; rfl)).2⟩
        obtain ⟨a, ha, hc⟩ := hcl j p.1 (by rw [List.getElem?_map, hp]; rfl)
        cases ha
        rw [add_lit, Nat.zero_add] at hc
        rw [hc, e]

end Go.Proofs.Ytjfplkndngmgdaa
