/- Write goes on by bytes. -/
import Derived.Test.YtolboolbapbniaaSeq
import Derived.Test.YtolboolbapbniaaNew
namespace Go.Proofs.Ytolboolbapbniaa
open Go.RowKit Go.Shelf Sp
attribute [local go_sem] Oper.semAt_some

theorem blks_succ (s : St) (l : List UInt8) (k : Nat) : blks s l (k + 1) = blk (blks s l k) ((l.drop (64 * k)).take 64) := by rw [blks_add]; rfl
theorem hcs_set8 (s : St) (A : Option Addr) (m c n : Nat) (A' : Option Addr) (m' c' : Nat) : (hcs s A m c n).setIfInBounds 8 (.slice A' m' c') = hcs s A' m' c' n := by
  simp [hcs, wcs_size, St.list_length]
theorem hcs_set9 (s : St) (A : Option Addr) (m c n n' : Nat) : (hcs s A m c n).setIfInBounds 9 (.int .i64 n') = hcs s A m c n' := by
  simp [hcs, wcs_size, St.list_length]
theorem grown_set (w : World) (b i : Nat) (v : Value) : w.grownBy (w.setCell ⟨b, i, none⟩ v) (some b) :=
  ⟨rfl, rfl, rfl, by simp [World.setCell], fun k _ hk => Below.heap_setCell _ _ _ k (fun e => hk (by rw [e]))⟩
theorem grown_below {B : Nat} {w w' : World} {r : Option Nat} (h : Below B w w') (hB : w.heap.size ≤ B) : w.grownBy w' r := ⟨h.os, h.tape, h.output, h.size, fun k hk _ => h.block k (Nat.lt_of_lt_of_le hk hB)⟩
/-- A hash's block, its parts said one by one. -/
def HcAt (w : World) (hb : Nat) (s : St) (lf : List UInt8) (m n : Nat) : Prop :=
  ∃ A c, w.heap[hb]? = some (.cells (hcs s A m c n) 69 (0, 0)) ∧ Cl w A (bcs lf) ∧ (∀ a, A = some a → a.block ≠ hb ∧ a.block < w.heap.size) ∧ (A = none → m = 0 ∧ c = 0) ∧ m ≤ c ∧ c ≤ maxLen
/-- The same; what is left lies in a block of which N holds. -/
def HcFar (w : World) (hb : Nat) (s : St) (lf : List UInt8) (m n : Nat) (N : Nat → Prop) : Prop :=
  ∃ A c, w.heap[hb]? = some (.cells (hcs s A m c n) 69 (0, 0)) ∧ Cl w A (bcs lf) ∧ (∀ a, A = some a → a.block ≠ hb ∧ a.block < w.heap.size ∧ N a.block) ∧ (A = none → m = 0 ∧ c = 0) ∧ m ≤ c ∧ c ≤ maxLen
def HashFar (w : World) (hb : Nat) (l : List UInt8) (N : Nat → Prop) : Prop := HcFar w hb (stOf l) (Sp.leftOf l) (Sp.leftOf l).length l.length N
theorem HashFar.at {w : World} {hb : Nat} {l : List UInt8} {N : Nat → Prop} (h : HashFar w hb l N) : HashAt w hb l := by
  obtain ⟨A, c, h1, h2, h3, h4⟩ := h
  exact ⟨A, c, h1, h2, fun a e => ⟨(h3 a e).1, (h3 a e).2.1⟩, h4⟩
/-- A hash whose left bytes lie in an N block outlives a change at a block that is not its own and no N block. -/
theorem HashFar.keep {w w' : World} {hb k : Nat} {l : List UInt8} {N : Nat → Prop} (h : HashFar w hb l N) (hg : w.grownBy w' (some k)) (hk : hb ≠ k) (hN : ¬ N k) : HashAt w' hb l := by
  obtain ⟨A, c, h1, h2, h3, h4⟩ := h
  exact ⟨A, c, (hg.block hb (Array.getElem?_eq_some_iff.1 h1).1 (fun e => hk (by simpa using e))).trans h1, h2.grown hg (fun a e e' => hN (by have := (h3 a e).2.2; simp at e'; rwa [e'] at this)), fun a e => ⟨(h3 a e).1, Nat.lt_of_lt_of_le (h3 a e).2.1 hg.size⟩, h4⟩
/-- A hash outlives a change at a block that holds no bytes. -/
theorem HashAt.far {w w' : World} {hb k : Nat} {l : List UInt8} (h : HashAt w hb l) (hg : w.grownBy w' (some k)) (hk : hb ≠ k) (hc : ∀ i b, w.cell? ⟨k, i, none⟩ ≠ some (.int .u8 b)) : HashAt w' hb l := by
  obtain ⟨A, c, h1, h2, h3, h4⟩ := h
  refine ⟨A, c, (hg.block hb (Array.getElem?_eq_some_iff.1 h1).1 (fun e => hk (by simpa using e))).trans h1, ?_, fun a e => ⟨(h3 a e).1, Nat.lt_of_lt_of_le (h3 a e).2 hg.size⟩, h4⟩
  by_cases h0 : bcs (Sp.leftOf l) = []
  · rw [h0]; exact Cl.nil _ _
  · obtain ⟨b, o, rfl, hb1, hb2⟩ := h2.at h0
    refine h2.grown hg fun a e e' => ?_
    cases e
    have e2 : b = k := by simpa using e'
    subst e2
    obtain ⟨x, hx⟩ : ∃ x, (Sp.leftOf l)[0]? = some x := by
      cases hl : Sp.leftOf l with
      | nil => exact absurd (by rw [hl]; rfl) h0
      | cons x r => exact ⟨x, rfl⟩
    have h9 := hb2 0 (.int .u8 (ib x)) (by simp [bcs, hx])
    exact hc _ _ h9
theorem left_lt (l : List UInt8) : (Sp.leftOf l).length < 64 := by unfold Sp.leftOf; rw [List.length_drop]; omega
theorem hcs_cells {w : World} {hb : Nat} {s : St} {A : Option Addr} {m c n : Nat} (h : w.heap[hb]? = some (.cells (hcs s A m c n) 69 (0, 0))) :
    w.cell? ⟨hb, 8, none⟩ = some (.slice A m c) ∧ w.cell? ⟨hb, 9, none⟩ = some (.int .i64 n) ∧ w.cell? ⟨hb, 10, none⟩ = some (.bool true) ∧ ∀ o, w.frozen? ⟨hb, o, none⟩ = false := by
  have e : (wcs s.list).size = 8 := by simp [wcs_size, St.list_length]
  refine ⟨?_, ?_, ?_, fun o => by simp [World.frozen?, h]⟩ <;>
    (simp only [World.cell?, h, hcs]; rw [Array.getElem?_append_right (by omega), e]; rfl)

set_option maxHeartbeats 1000000 in
set_option maxRecDepth 100000 in
theorem write_far (w : World) (hb : Nat) (l : List UInt8) (A : Option Addr) (m c : Nat) (bs : List UInt8) (h : HashAt w hb l) (hl : bs.length = m) (hA : A = none → m = 0 ∧ c = 0) (hx : Cl w A (bcs bs))
    (hm : m ≤ 549755813888) (hn : l.length + m ≤ 4611686018427387904) :
    Calls Try.prog 24 #[.pointer (some ⟨hb, 0, none⟩), .slice A m c] w fun e w' => e = .returned (.int .i64 0) ∧ HashFar w' hb (l ++ bs) (fun k => w.heap.size ≤ k) ∧ w.grownBy w' (some hb) := by
  obtain ⟨L, cL, hh, hL, hLb, hL0, hLc, hLm⟩ := h
  have h63 := left_lt l
  obtain ⟨c8, c9, c10, hfz⟩ := hcs_cells hh
  obtain ⟨s, hs⟩ : ∃ s, stOf l = s := ⟨_, rfl⟩
  obtain ⟨r, hr⟩ : ∃ r, Sp.leftOf l = r := ⟨_, rfl⟩
  obtain ⟨nl, hnl⟩ : ∃ nl, l.length = nl := ⟨_, rfl⟩
  obtain ⟨nr, hnr⟩ : ∃ nr, r.length = nr := ⟨_, rfl⟩
  rw [hs, hr, hnl, hnr] at hh
  rw [hr] at hL hL0 hLc
  rw [hr, hnr] at c8
  rw [hr, hnr] at h63
  rw [hnl] at c9
  have hblt : hb < w.heap.size := (Array.getElem?_eq_some_iff.1 hh).1
  have HL := hd hL
  have HX := hd hx
  have HA := hd hA
  have HL0 := hd hL0
  have HH := hd hh
  have HLb := hd hLb
  clear hL hx hA hL0 hh hLb
  refine (callsIn_wide (n := 3)).1 ?_
  refine callsIn_of_wp_marks Try.func24 rfl trivial ?_ rfl
  refine wpIn_wide.2 ?_
  simp only [Try.ntmps24, List.size_toArray, List.length_cons, List.length_nil, Nat.reduceAdd, Nat.reduceSub, Array.replicate_succ, Array.replicate_zero, List.push_toArray, List.append_toArray, List.nil_append, List.cons_append]
  have hnn := fun (o : Obj) => none_some (w.alloc o) hb ((World.cell?_of_block (by rw [Below.heap_alloc w o hb hblt])).trans c10)
  obtain ⟨W2, hW2⟩ : ∃ W2, (w.alloc (.cells #[.pointer (some ⟨hb, 0, none⟩)] 38)).alloc (.cells #[.slice L nr cL, .slice A m c] 33) = W2 := ⟨_, rfl⟩
  have hz2 : W2.heap.size = w.heap.size + 2 := by rw [← hW2]; simp
  have hB2 : Below w.heap.size w W2 := by rw [← hW2]; exact ((Below.refl _ _).alloc (Nat.le_refl _) _).alloc (by simp) _
  have hn2 : W2.heap[w.heap.size + 1]? = some (.cells #[.slice L nr cL, .slice A m c] 33 (0, 0)) := by
    rw [← hW2]
    have := heap_alloc_new (w.alloc (.cells #[.pointer (some ⟨hb, 0, none⟩)] 38)) (.cells #[.slice L nr cL, .slice A m c] 33)
    rw [World.size_alloc] at this
    exact this
  have hx2 : Boxed W2 w.heap.size 38 (.pointer (some ⟨hb, 0, none⟩)) := by rw [← hW2]; exact (Boxed.new _ _ _).alloc _
  have HC := hd (concat_any W2 (w.heap.size + 1) 2 L nr cL A m c r bs (by simp [World.cell?, hn2]) (by simp [World.cell?, hn2]) hnr hl (fun e => by have := HL0.out e; rwa [hnr] at this) HA.out (HL.out.below hB2) (HX.out.below hB2) (by omega) hm)
  have HP2 := hd hx2
  clear hx2 hn2
  go_upto_block 0 with (first
    | (go_at_call 35; refine (hnn _).mono ?_; rintro e w' ⟨rfl, rfl⟩)
    | (go_at_call 36; refine HC.out.mono ?_; rintro e w3 ⟨v, rfl, ho, hb3⟩; obtain ⟨A2, c2, rfl, hmc2, hc2m, hx2, hA2, hA20⟩ := own_cl ho; have HX2 := hd hx2; have HA2 := hd hA2; have HA20 := hd hA20; have HB3 := hd hb3; clear ho hb3 hx2 hA2 hA20)
    | (go_at_call 37; refine (blocks_any _ _ _ _).mono ?_; rintro e w' ⟨rfl, rfl⟩))
  have HH3 := hd ((HB3.out.block hb (by omega)).trans ((hB2.block hb hblt).trans HH.out))
  have HX3 : Hid (Boxed w3 w.heap.size 38 (.pointer (some ⟨hb, 0, none⟩))) := hd ((HB3.out.block _ (by omega)).trans HP2.out)
  have hz3 : W2.heap.size ≤ w3.heap.size := HB3.out.size
  have hB3 : Hid (Below w.heap.size w w3) := hd (hB2.trans (HB3.out.mono (by omega)))
  obtain ⟨nm, hnm⟩ : ∃ nm, nr + m = nm := ⟨_, rfl⟩
  obtain ⟨all, hall⟩ : ∃ al, r ++ bs = al := ⟨_, rfl⟩
  have hlen : all.length = nm := by rw [← hall, ← hnm, List.length_append, hnr, hl]
  have HALL := hd hall
  have HNM := hd hnm
  rw [hall] at HX2
  rw [hnm] at HA20 hmc2
  rw [hnm]
  clear hall hnm
  obtain ⟨b2, o2, hA2at⟩ : ∃ b2 o2, (64 ≤ nm → A2 = some ⟨b2, o2, none⟩ ∧ W2.heap.size ≤ b2 ∧ b2 < w3.heap.size) := by
    by_cases h64 : 64 ≤ nm
    · obtain ⟨b2, o2, e, h1, _⟩ := HX2.out.at (by intro e; have h9 : nm = 0 := (by simpa [bcs_length, hlen] using congrArg List.length e); omega)
      exact ⟨b2, o2, fun _ => ⟨e, (HA2.out _ e).1, (HA2.out _ e).2⟩⟩
    · exact ⟨0, 0, fun h => absurd h h64⟩
  have hblk := fun (k : Nat) (hk : k < nm / 64) => hA2at (by omega)
  refine wp_block ?_
  refine (wpIn_wide (n := 3)).1 ?_
  refine wpIn_rangeT1 (F := Fence.wide) rfl (by omega) (gf := 46) (lb := #[.pointer (some ⟨w3.heap.size, 0, none⟩)]) rfl trivial (enters_of Try.func46 (by kernel_rfl) rfl)
    (seq_any Fence.wide (3 - 1) trivial rfl (by omega) w3.heap.size b2 o2 nm c2 A2 (fun h => (hA2at h).1) hmc2 _ (Boxed.new _ _ _)) (fun k e => by subst e; simp) (fun k e => by subst e; simp) (Below.refl _ _) (fun _ => rfl)
    (fun pre W => W.heap[hb]? = some (.cells (hcs (blks s all pre.length) L nr cL nl) 69 (0, 0)) ∧ w3.grownBy W (some hb) ∧ w3.heap.size < W.heap.size)
    (fun _ _ _ => False) ?hI (fun _ => turns_false) ?h0 (fun t => t.setIfInBounds 6 (t.getD 18 undef)) ?assign ?body ?done ?stop
  case hI =>
    intro pre X Y row hs hg hr
    have hr' : ∀ k, row = some k → w3.heap.size ≤ k := fun k e => by
      rcases hr k e with h | ⟨h, _⟩
      · exact h ▸ Nat.le_refl _
      · have h2 := World.size_alloc w3 (.cells #[.slice A2 nm c2] 33)
        omega
    refine ⟨(hg.block hb (Array.getElem?_eq_some_iff.1 hs.1).1 (fun e => by have := hr' hb e.symm; omega)).trans hs.1, grown_past hs.2.1 hg (fun k e => .inl (hr' k e)), Nat.lt_of_lt_of_le hs.2.2 hg.size⟩
  case h0 =>
    exact ⟨(Below.heap_alloc _ _ _ (by omega)).trans HH3.out, grown_past (grown_refl _ _) (World.grownBy_alloc _ _ none) (fun k e => by cases e), by simp⟩
  case assign =>
    intro lr x W K hK
    simp at hK
    gi_wp2
    exact hK
  case body =>
    rintro lr pre x W hlr - ⟨hh4, hg4, hs4⟩ hp
    obtain ⟨rfl, hxN⟩ := prefix_at hp
    clear hp
    obtain ⟨k, hk⟩ : ∃ k, pre.length = k := ⟨_, rfl⟩
    rw [hk] at hh4 hxN ⊢
    obtain ⟨eA, hbl1, hbl2⟩ := hA2at (by omega)
    have hbX : Boxed W w.heap.size 38 (.pointer (some ⟨hb, 0, none⟩)) := (hg4.block _ (by omega) (by intro e; cases e; omega)).trans HX3.out
    have hcX := hbX.cell
    have hclW : Cl W A2 (bcs all) := HX2.out.grown hg4 (fun a e => by rw [eA] at e; cases e; intro e; have e' : b2 = hb := (by simpa using e); omega)
    have hcc : ∀ i, i < 64 → W.cell? ⟨b2, o2 + 64 * k + i, none⟩ = some (.int .u8 (ib (bg ((all.drop (64 * k)).take 64) i))) := fun i hi => by
      have h1 := bcs_get all (64 * k + i) (by omega)
      obtain ⟨a, ea, hc⟩ := hclW _ _ h1
      rw [eA] at ea
      cases ea
      rw [add_lit] at hc
      have e2 : bg ((all.drop (64 * k)).take 64) i = bg all (64 * k + i) := by
        simp [bg, List.getElem?_drop, hi]
      rw [e2, Nat.add_assoc]
      exact hc
    have HB := hd (block_any W hb 69 b2 (o2 + 64 * k) 64 (c2 - 64 * k) (blks s all k) #[.slice L nr cL, .int .i64 nl, .bool true] ((all.drop (64 * k)).take 64) (by simp; omega) hh4 (Nat.le_refl _) (by omega) hcc)
    have hblt4 : hb < W.heap.size := Nat.lt_of_lt_of_le hblt (Nat.le_trans (by omega) (Nat.le_of_lt hs4))
    clear hcc hclW
    simp
    gi_wp2_with (refine ⟨trivial, ?_⟩; gi_at_call 38; refine (CallsIn.inRound lr (callsIn_wide.2 HB.out)).mono ?_; rintro e w5 ⟨rfl, hh5, hg5⟩; have HH5 := hd hh5; have HG5 := hd hg5; clear hh5 hg5)
    refine ⟨KeepsFrom.of_grownBy HG5.out (fun j e => by cases e; omega), Kept.grown HG5.out (fun j e => by subst e; exact hs4) (fun j e => by subst e; intro e; have e' : hb = w3.heap.size := (by simpa using e); omega), ?_, grown_past hg4 HG5.out (fun j e => .inr e), Nat.lt_of_lt_of_le hs4 HG5.out.size⟩
    have e1 : (pre ++ [k]).length = k + 1 := by simp [hk]
    rw [e1, blks_succ]
    exact HH5.out
  case done =>
    rintro D W hD ⟨hh4, hg4, hs4⟩ hK
    simp only [Exit.inBlock, Exit.then]
    go_wp2_with fail
    have hbX : Boxed W w.heap.size 38 (.pointer (some ⟨hb, 0, none⟩)) := (hg4.block _ (by omega) (by intro e; cases e; omega)).trans HX3.out
    have hcX := hbX.cell
    rw [List.length_range] at hh4
    obtain ⟨s', hs'⟩ : ∃ s', blks s all (nm / 64) = s' := ⟨_, rfl⟩
    rw [hs'] at hh4
    have hz4 : w3.heap.size ≤ W.heap.size := Nat.le_of_lt hs4
    have HCW : Hid (Cl W A2 (bcs all)) := hd (HX2.out.grown hg4 (fun a e => by have := HA2.out a e; intro e; have e' : a.block = hb := (by simpa using e); omega))
    obtain ⟨q, hq⟩ : ∃ q, nm / 64 * 64 = q := ⟨_, rfl⟩
    have hqle : q ≤ nm := by omega
    have hqI : (q : Int) ≤ (nm : Int) := by omega
    have HH4 := hd hh4
    have HG4 := hd hg4
    have HXb := hd hbX
    have hwb : w.heap.size < W.heap.size := by omega
    have hhb4 : hb < W.heap.size := by omega
    have hnm40 : nm ≤ 1099511627776 := by have := HNM.out; omega
    obtain ⟨q0, hq0⟩ : ∃ q0, nm / 64 = q0 := ⟨_, rfl⟩
    have e28 : (q0 : Int) * 64 = (q : Int) := by omega
    have e28' : ((nm : Int) / 64) = (q0 : Int) := by omega
    have w28 : IntKind.i64.wrap (q0 : Int) = (q0 : Int) := IntWalk.i64_in _ (by omega)
    have w29 : IntKind.i64.wrap (q : Int) = (q : Int) := IntWalk.i64_in _ (by omega)
    obtain ⟨X, hX⟩ : ∃ X, (if c2 = q then A2 else A2.map (·.add q)) = X := ⟨_, rfl⟩
    have HXC : Hid (Cl W X (bcs (all.drop q))) := hd (by
      by_cases h9 : q < nm
      · obtain ⟨b9, o9, e9, _, _⟩ := HCW.out.at (by intro e; have h8 : nm = 0 := (by simpa [bcs_length, hlen] using congrArg List.length e); omega)
        rw [← hX, if_neg (by omega), e9, ← bcs_drop]
        have h7 := HCW.out
        rw [e9] at h7
        simp only [Option.map_some, add_lit]
        exact h7.drop q
      · rw [List.drop_eq_nil_of_le (by omega)]
        exact Cl.nil _ _)
    have HX0 : Hid (X = none → nm - q = 0 ∧ c2 - q = 0) := hd (by
      intro e
      have e9 : A2 = none := by
        rw [← hX] at e
        split at e
        · exact e
        · simpa using e
      have := HA20.out e9
      omega)
    clear hh4 hg4 hbX hblk hA2at hcX
    refine wp_region_inv [24, 25, 26, 27, 28, 29, 30, 31, 32, 33] (fun done σ w' => (done 10 = false → Below W.heap.size W w') ∧
      (done 0 = true → σ 24 = .pointer (some ⟨hb, 0, none⟩)) ∧ (done 1 = true → σ 25 = .slice A2 nm c2) ∧ (done 2 = true → σ 26 = .slice A2 nm c2) ∧
      (done 3 = true → σ 27 = .int .i64 nm) ∧ (done 4 = true → σ 28 = .int .i64 (q0 : Int)) ∧ (done 5 = true → σ 29 = .int .i64 q) ∧ (done 6 = true → σ 30 = .slice X (nm - q) (c2 - q)) ∧
      (done 7 = true → done 10 = false → w'.ownsRow W.heap.size 5 1 (σ 31) (nm - q) (bcs (all.drop q))) ∧
      (done 8 = true → σ 32 = .pointer (some ⟨hb, 0, none⟩)) ∧ (done 9 = true → σ 33 = .pointer (some ⟨hb, 8, none⟩)) ∧
      (done 10 = true → W.grownBy w' (some hb) ∧ HcFar w' hb s' (all.drop q) (nm - q) nl (fun k => w.heap.size ≤ k))) (by kernel_rfl) (by kernel_rfl) ?_ ?_ ?_
    · simp
      exact Below.drew (Below.refl _ _)
    · skip
      refine ⟨fun done σ w' a hi hA hC ha hσ ⟨hR, r0, r1, r2, r3, r4, r5, r6, r7, r8, r9, r10⟩ => ?_, ?_⟩
      · have d10 := hC.at 0 10 _ rfl hi rfl
        have e0 := hσ 2 (by simp)
        simp only [List.getElem?_toArray] at e0
        have e1 := ((hR d10).cell (p := ⟨w.heap.size, 0, none⟩) hwb).trans HXb.out.cell
        refine stepG_plain rfl fun K hK => ?_
        go_simp
        refine hK _ _ ?_
        simp [mk, up]
        exact ⟨hR, r1, r2, r3, r4, r5, r6, r7, r8, r9, r10⟩
      refine ⟨fun done σ w' a hi hA hC ha hσ ⟨hR, r0, r1, r2, r3, r4, r5, r6, r7, r8, r9, r10⟩ => ?_, ?_⟩
      · have d10 := hC.at 1 10 _ rfl hi rfl
        have e0 := hσ 5 (by simp)
        simp only [List.getElem?_toArray] at e0
        refine stepG_plain rfl fun K hK => ?_
        go_simp
        refine hK _ _ ?_
        simp [mk, up]
        exact ⟨hR, r0, r2, r3, r4, r5, r6, r7, r8, r9, r10⟩
      refine ⟨fun done σ w' a hi hA hC ha hσ ⟨hR, r0, r1, r2, r3, r4, r5, r6, r7, r8, r9, r10⟩ => ?_, ?_⟩
      · have d10 := hC.at 2 10 _ rfl hi rfl
        have e0 := hσ 5 (by simp)
        simp only [List.getElem?_toArray] at e0
        refine stepG_plain rfl fun K hK => ?_
        go_simp
        refine hK _ _ ?_
        simp [mk, up]
        exact ⟨hR, r0, r1, r3, r4, r5, r6, r7, r8, r9, r10⟩
      refine ⟨fun done σ w' a hi hA hC ha hσ ⟨hR, r0, r1, r2, r3, r4, r5, r6, r7, r8, r9, r10⟩ => ?_, ?_⟩
      · have d10 := hC.at 3 10 _ rfl hi rfl
        simp [After, Region.binds] at hA
        have e0 := r2 hA
        refine stepG_plain rfl fun K hK => ?_
        go_simp
        refine hK _ _ ?_
        simp [mk, up]
        exact ⟨hR, r0, r1, r2, r4, r5, r6, r7, r8, r9, r10⟩
      refine ⟨fun done σ w' a hi hA hC ha hσ ⟨hR, r0, r1, r2, r3, r4, r5, r6, r7, r8, r9, r10⟩ => ?_, ?_⟩
      · have d10 := hC.at 4 10 _ rfl hi rfl
        simp [After, Region.binds] at hA
        have e0 := r3 hA
        refine stepG_plain rfl fun K hK => ?_
        go_simp
        refine hK _ _ ?_
        simp [mk, up]
        exact ⟨hR, r0, r1, r2, r3, r5, r6, r7, r8, r9, r10⟩
      refine ⟨fun done σ w' a hi hA hC ha hσ ⟨hR, r0, r1, r2, r3, r4, r5, r6, r7, r8, r9, r10⟩ => ?_, ?_⟩
      · have d10 := hC.at 5 10 _ rfl hi rfl
        simp [After, Region.binds] at hA
        have e0 := r4 hA
        refine stepG_plain rfl fun K hK => ?_
        go_simp
        refine hK _ _ ?_
        simp [mk, up]
        exact ⟨hR, r0, r1, r2, r3, r4, r6, r7, r8, r9, r10⟩
      refine ⟨fun done σ w' a hi hA hC ha hσ ⟨hR, r0, r1, r2, r3, r4, r5, r6, r7, r8, r9, r10⟩ => ?_, ?_⟩
      · have d10 := hC.at 6 10 _ rfl hi rfl
        simp [After, Region.binds] at hA
        have e0 := r1 hA.1
        have e1 := r5 hA.2
        refine stepG_plain rfl fun K hK => ?_
        go_simp
        refine hK _ _ ?_
        simp [mk, up]
        exact ⟨hR, r0, r1, r2, r3, r4, r5, r7, r8, r9, r10⟩
      refine ⟨fun done σ w' a hi hA hC ha hσ ⟨hR, r0, r1, r2, r3, r4, r5, r6, r7, r8, r9, r10⟩ => ?_, ?_⟩
      · have d10 := hC.at 7 10 _ rfl hi rfl
        simp [After, Region.binds] at hA
        have e0 := r6 hA
        have HC7 := hd (clone_any w' X (nm - q) (c2 - q) (all.drop q) (by simp; omega) HX0.out (HXC.out.below (hR d10)) (by omega))
        refine stepG_plain rfl fun K hK => ?_
        go_simp
        refine HC7.out.mono ?_
        rintro e w2 ⟨v, rfl, ho, hb2⟩
        refine hK _ _ ?_
        simp [mk, up]
        exact ⟨fun h => (hR h).trans (hb2.mono (hR d10).size), r0, r1, r2, r3, r4, r5, r6, fun _ => own_mono ho (hR d10).size, r8, r9, fun h => by rw [d10] at h; cases h⟩
      refine ⟨fun done σ w' a hi hA hC ha hσ ⟨hR, r0, r1, r2, r3, r4, r5, r6, r7, r8, r9, r10⟩ => ?_, ?_⟩
      · have d9 := hC.at 8 9 _ rfl hi rfl
        have d10 := hC.at 9 10 _ rfl d9 rfl
        simp [After, Region.binds] at hA
        have e0 := r0 hA.1
        refine stepG_plain rfl fun K hK => ?_
        go_simp
        refine hK _ _ ?_
        simp [mk, up]
        exact ⟨hR, r0, r1, r2, r3, r4, r5, r6, r7, r9, r10⟩
      refine ⟨fun done σ w' a hi hA hC ha hσ ⟨hR, r0, r1, r2, r3, r4, r5, r6, r7, r8, r9, r10⟩ => ?_, ?_⟩
      · have d10 := hC.at 9 10 _ rfl hi rfl
        simp [After, Region.binds] at hA
        have e0 := r8 hA.1
        refine stepG_plain rfl fun K hK => ?_
        go_simp
        refine hK _ _ ?_
        simp [mk, up]
        exact ⟨hR, r0, r1, r2, r3, r4, r5, r6, r7, r8, r10⟩
      refine ⟨fun done σ w' a hi hA hC ha hσ ⟨hR, r0, r1, r2, r3, r4, r5, r6, r7, r8, r9, r10⟩ => ?_, trivial⟩
      · simp [After, Region.binds] at hA
        have e0 := r9 hA.1
        have e1 := r7 hA.2.1 hi
        obtain ⟨A3, c3, e31, hn3, hm3, hx3, hA3, hA30⟩ := own_cl e1
        have hh' := ((hR hi).block hb hhb4).trans HH4.out
        have hc8 := (hcs_cells hh').1
        have hf8 := (hcs_cells hh').2.2.2 8
        have HH' := hd hh'
        have HX3 := hd hx3
        have HA3 := hd hA3
        have HA30 := hd hA30
        clear hh' hx3 hA3 hA30 e1
        refine stepG_plain rfl fun K hK => ?_
        go_simp
        refine hK undef _ ?_
        simp [mk, up_none]
        exact ⟨r0, r1, r2, r3, r4, r5, r6, r8, r9, grown_past (grown_below (hR hi) (Nat.le_refl _)) (grown_set _ _ _ _) (fun k e => .inr e),
          A3, c3, (by have h7 := blk_set HH'.out 8 (.slice A3 (nm - q) c3); rwa [hcs_set8] at h7), HX3.out.keep (fun a e _ => Below.heap_setCell _ _ _ _ (by have := (HA3.out a e).1; show a.block ≠ hb; omega)),
          fun a e => ⟨by have := (HA3.out a e).1; omega, by have := (HA3.out a e).2; simpa [World.setCell] using this, by have := (HA3.out a e).1; show w.heap.size ≤ a.block; omega⟩, HA30.out, hn3, hm3⟩
    · rintro done σ w' hall hσ ⟨hR, r0, r1, r2, r3, r4, r5, r6, r7, r8, r9, r10⟩
      have hq1 := r10 (hall 10 (by simp))
      simp only [putF, List.foldl_cons, List.foldl_nil, Act.put, List.setIfInBounds_toArray, List.set_cons_succ, List.set_cons_zero]
      obtain ⟨hg6, A6, c6, hh6, hx6, hA6, hA60, hn6, hm6⟩ := hq1
      clear hσ r0 r1 r2 r3 r4 r5 r6 r7 r8 r9 r10 hall hR
      have hbX6 : Boxed w' w.heap.size 38 (.pointer (some ⟨hb, 0, none⟩)) := (hg6.block _ hwb (by intro e; have e' : w.heap.size = hb := (by simpa using e); omega)).trans HXb.out
      have hcX6 := hbX6.cell
      have hc9 := (hcs_cells hh6).2.1
      have hf9 := (hcs_cells hh6).2.2.2 9
      have wadd : IntKind.i64.wrap ((nl : Int) + (m : Int)) = ((nl + m : Nat) : Int) := by rw [IntWalk.i64_in _ (by omega)]; omega
      have HH6 := hd hh6
      have HG6 := hd hg6
      have HX6 := hd hx6
      have HA6 := hd hA6
      have HK := hd hK
      have hD6 : D < w'.heap.size := by have := (Array.getElem?_eq_some_iff.1 hK).1; have := hg6.size; omega
      clear hh6 hg6 hx6 hA6 hK
      go_wp2_with fail
      have hDw : w3.heap.size + 1 ≤ D := by have := World.size_alloc w3 (.cells #[.slice A2 nm c2] 33); omega
      have hDne : D ≠ hb := by omega
      have hK6 : w'.heap[D]? = some (.deferred (some [])) := (HG6.out.block _ (Array.getElem?_eq_some_iff.1 HK.out).1 (by intro e; have e' : D = hb := (by simpa using e); omega)).trans HK.out
      have hK7 : (w'.setCell ⟨hb, 9, none⟩ (.int .i64 ((nl : Int) + (m : Int)))).heap[D]? = some (.deferred (some [])) := (Below.heap_setCell _ _ _ _ hDne).trans hK6
      refine ⟨by simp, .inl ⟨_, _, rfl, run_takeDeferred hK7, ?_⟩⟩
      refine ⟨_, results_tmp rfl _ _ _, rfl, ?_, ?_⟩
      · have e1 : stOf (l ++ bs) = s' := by rw [stOf_append, hs, hr, HALL.out, hlen]; exact hs'
        have e2 : Sp.leftOf (l ++ bs) = all.drop q := by rw [leftOf_append, hr, HALL.out, hlen, hq]
        have e3 : (l ++ bs).length = nl + m := by rw [List.length_append, hnl, hl]
        have e4 : (all.drop q).length = nm - q := by rw [List.length_drop, hlen]
        unfold HashFar HcFar
        rw [e1, e2, e3, e4]
        have h7 := blk_set HH6.out 9 (.int .i64 ((nl + m : Nat) : Int))
        rw [hcs_set9] at h7
        rw [show ((nl : Int) + (m : Int)) = ((nl + m : Nat) : Int) by omega]
        refine ⟨A6, c6, (World.putObj_heap_other (by omega)).trans h7, ?_, ?_, hA60, hn6, hm6⟩
        · intro j u hj
          obtain ⟨a, ha, hc⟩ := (HX6.out.keep (w' := w'.setCell ⟨hb, 9, none⟩ (.int .i64 ((nl + m : Nat) : Int))) (fun a e _ => Below.heap_setCell _ _ _ _ (HA6.out a e).1)) j u hj
          exact ⟨a, ha, cell_kept hc (grownBy_putObj' _ D (.deferred none)) (fun k e => by cases e; exact ⟨_, (Below.heap_setCell _ _ _ _ hDne).trans hK6, rfl⟩)⟩
        · intro a e
          have := HA6.out a e
          exact ⟨this.1, by simpa [World.setCell, World.putObj] using this.2.1, this.2.2⟩
      · refine grown_past (grown_past (grown_past (grown_past (grown_below hB3.out (Nat.le_refl _)) HG4.out (fun k e => .inr e)) HG6.out (fun k e => .inr e)) (grown_set _ _ _ _) (fun k e => .inr e)) (grownBy_putObj' _ D (.deferred none)) (fun k e => by cases e; exact .inl (by omega))
  case stop =>
    rintro D c pre W _ _ h _
    exact h.elim

theorem write_any (w : World) (hb : Nat) (l : List UInt8) (A : Option Addr) (m c : Nat) (bs : List UInt8) (h : HashAt w hb l) (hl : bs.length = m) (hA : A = none → m = 0 ∧ c = 0) (hx : Cl w A (bcs bs))
    (hm : m ≤ 549755813888) (hn : l.length + m ≤ 4611686018427387904) :
    Calls Try.prog 24 #[.pointer (some ⟨hb, 0, none⟩), .slice A m c] w fun e w' => e = .returned (.int .i64 0) ∧ HashAt w' hb (l ++ bs) ∧ w.grownBy w' (some hb) :=
  (write_far w hb l A m c bs h hl hA hx hm hn).mono fun _ _ ⟨h1, h2, h3⟩ => ⟨h1, h2.at, h3⟩

end Go.Proofs.Ytolboolbapbniaa
