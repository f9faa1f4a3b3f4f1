/- The law MerkleRows, walked. -/
import Derived.Test.YtjfplkndngmgdaaGE
import Derived.Test.YtjfplkndngmgdaaGF
namespace Go.Proofs.Ytjfplkndngmgdaa
set_option maxRecDepth 20000
open Go.RowKit Go.Shelf Sp

attribute [local go_sem ↓] ldD stD
attribute [local go_sem] run_ldA run_stA arrD loadX_at loadY_some storeX_at storeY_true ucs_size ones_ucs sha_length
attribute [local go_sem] Oper.semAt_some

theorem eql_func_nil (g : Nat) (W : World) : (binOp BinOp.eql 43 (.func (.func 39) #[] #[.pointer (some ⟨g, 0, none⟩)]) .nilFunc).run Try.prog W = .ok (.bool false) W := by kernel_rfl
attribute [local go_sem] eql_func_nil
theorem run_loadVar_one {P : Program} {T : Nat} (hT : oneT P T = true) (w : World) (g : Nat) (v : Value) (h : w.cell? ⟨g, 0, none⟩ = some v) : (loadVar T ⟨g, 0, none⟩).run P w = .ok v w := by
  obtain ⟨h1, h2⟩ := oneT_spec hT
  simp [loadVar, h1, h]
theorem ret_cell {P : Program} {T : Nat} {fn : Func} {p : Tmp} (h : fn.results = #[.cell p T]) (hT : oneT P T = true) (tmps : Array Value) (w : World) (g : Nat) (v : Value)
    (hp : tmps.getD p undef = .pointer (some ⟨g, 0, none⟩)) (hc : w.cell? ⟨g, 0, none⟩ = some v) : (results fn tmps).run P w = .ok v w := by
  have hp' : tmps[p]?.getD undef = .pointer (some ⟨g, 0, none⟩) := by simpa using hp
  simp [results, h, hp', asAddr, run_loadVar_one hT w g v hc]

theorem lrows_out (w : World) (A : Option Addr) (n c : Nat) (many : Int) (h : n < 1 ∨ 16 < n) :
    Calls Try.prog 11 #[.slice A n c, .int .i64 many] w fun e w' => e = .returned (.bool true) ∧ Below w.heap.size w w' := by
  obtain ⟨w1, hw1⟩ : ∃ w1, w.alloc (.cells #[.int .i64 many] 3) = w1 := ⟨_, rfl⟩
  obtain ⟨w2, hw2⟩ : ∃ w2, w1.alloc (.cells #[.bool false] 4) = w2 := ⟨_, rfl⟩
  obtain ⟨z1, b1, l1⟩ := alloc_box hw1
  obtain ⟨z2, b2, l2⟩ := alloc_box hw2
  have HB := hd (l1.trans (l2.mono (by omega)))
  have HX := hd b2
  have HL := hd (show w1.heap.size < w2.heap.size by omega)
  have HW := hd (show w.heap.size ≤ w1.heap.size by omega)
  clear z1 b1 l1 z2 b2 l2
  by_cases h1 : n < 1
  · have h1I : (n : Int) < 1 := by omega
    clear h h1
    go_enter Try.func11, Try.ntmps11
    go_wp2_with (go_at_call 16; refine (works_any _).mono ?_; rintro e w4 ⟨rfl, hb4⟩; have hx4 : Boxed w4 w1.heap.size 4 (.bool false) := (hb4.block _ HL.out).trans HX.out; have hc4 := hx4.cell; have hf4 := hx4.frozen; have HB4 := hd hb4; have HX4 := hd hx4; clear hb4 hx4)
    refine bodyPost_ret (ret_cell rfl (by kernel_rfl) _ _ w1.heap.size (.bool true) rfl (HX4.out.set _).cell) rfl ⟨rfl, ?_⟩
    exact (HB.out.trans (HB4.out.mono (Nat.le_of_lt (Nat.lt_of_le_of_lt HW.out HL.out)))).setCell HW.out _
  · have h1I : ¬ (n : Int) < 1 := by omega
    have h2I : (16 : Int) < (n : Int) := by omega
    clear h h1
    go_enter Try.func11, Try.ntmps11
    go_wp2_with (go_at_call 16; refine (works_any _).mono ?_; rintro e w4 ⟨rfl, hb4⟩; have hx4 : Boxed w4 w1.heap.size 4 (.bool false) := (hb4.block _ HL.out).trans HX.out; have hc4 := hx4.cell; have hf4 := hx4.frozen; have HB4 := hd hb4; have HX4 := hd hx4; clear hb4 hx4)
    refine bodyPost_ret (ret_cell rfl (by kernel_rfl) _ _ w1.heap.size (.bool true) rfl (HX4.out.set _).cell) rfl ⟨rfl, ?_⟩
    exact (HB.out.trans (HB4.out.mono (Nat.le_of_lt (Nat.lt_of_le_of_lt HW.out HL.out)))).setCell HW.out _

theorem wp_named {P : Program} {c : Code} {Q : Exit → Act → World → Prop} {tm : Array Value} {ds : List Deferred} {w : World} (h : ∀ T0, T0 = tm → Code.wp P c Q ⟨T0, ds⟩ w) : Code.wp P c Q ⟨tm, ds⟩ w := h _ rfl
theorem grown_setA (W : World) (p : Addr) (v : Value) : W.grownBy (W.setCell p v) (some p.block) := ⟨rfl, rfl, rfl, by simp [World.setCell], fun k _ hne => Below.heap_setCell _ _ _ _ (fun e => hne (by rw [e]))⟩
def StoQ (g k : Nat) (v : Value) (W w' : World) : Prop := ∃ w5, Below W.heap.size W w5 ∧ w' = w5.setCell ⟨g, k, none⟩ v
def RwI (BN k : Nat) (W1 : World) (many : Int) (pre : List (List Dg)) (W : World) : Prop := Boxed W BN 3 (.int .i64 ((pre.length : Nat) : Int)) ∧ Chg (fun j => j = BN) W1 W ∧ (k = 0 → pre = [] ∨ (pre.length : Int) < many)
def RwX (BN k R : Nat) (W1 : World) (many : Int) (c : Code) (pre : List (List Dg)) (W : World) : Prop := c = .exit 2 ∧ k = 0 ∧ (pre.length : Int) = max 1 (min (R : Int) many) ∧ Boxed W BN 3 (.int .i64 ((pre.length : Nat) : Int)) ∧ Chg (fun j => j = BN) W1 W
theorem rw_fin {B BN g7 p n c : Nat} {W1 W wr : World} {xs : List Value} {Keep : Nat → Prop} (hch : Chg (fun j => j = BN) W1 W) (hq : Chg (fun j => j = g7) W wr) (hown : W.ownsRow W1.heap.size 35 32 (.slice (some ⟨g7, 0, none⟩) n c) n xs) (hbn : Boxed W BN 3 (.int .i64 (p : Int)))
    (hx : Boxed wr BN 3 (.int .i64 (p : Int))) (hg : W1.heap.size ≤ g7) (hBN : BN < W1.heap.size) (hK : ∀ k, Keep k → k < W1.heap.size ∧ k ≠ BN) :
    KeepsFrom B W (wr.setCell ⟨BN, 0, none⟩ (.int .i64 ((p : Int) + 1))) ∧ Kept Keep W (wr.setCell ⟨BN, 0, none⟩ (.int .i64 ((p : Int) + 1))) ∧ Boxed (wr.setCell ⟨BN, 0, none⟩ (.int .i64 ((p : Int) + 1))) BN 3 (.int .i64 (((p + 1 : Nat) : Nat) : Int)) ∧ Chg (fun j => j = BN) W1 (wr.setCell ⟨BN, 0, none⟩ (.int .i64 ((p : Int) + 1))) := by
  have cA : Chg (fun j => j = g7 ∨ j = BN) W (wr.setCell ⟨BN, 0, none⟩ (.int .i64 ((p : Int) + 1))) := (hq.mono (fun j _ e => .inl e)).trans (Chg.grown (grownBy_setCell' wr BN _)) (fun j _ e => .inr (by simpa using e.symm))
  have hs := hch.size
  refine ⟨cA.keeps _ (fun j ob h1 h2 h3 => ?_), cA.kept (fun j e => ⟨by have := (hK j e).1; omega, by have := hK j e; omega⟩), hx.set _, hch.trans cA (fun j hj e => by omega)⟩
  rcases h3 with rfl | rfl
  · obtain ⟨c', t', fr', h4⟩ := own_isCells hown rfl
    rw [h1] at h4; cases h4; cases h2
  · exact boxed_isCells hbn _ h1 h2
def frR (u : Nat → Value) (B3 R BW BT B9 : Nat) : Array Value := #[u 0, u 1, u 2, .pointer (some ⟨B3, 0, none⟩), .pointer (some ⟨R, 0, none⟩), u 5, .int .i64 0, .pointer (some ⟨BW, 0, none⟩), .func (.func 39) #[] #[.pointer (some ⟨BT, 0, none⟩)], .pointer (some ⟨B9, 0, none⟩), u 10, u 11, u 12, u 13, u 14, u 15, u 16, u 17, u 18, u 19, u 20, u 21, u 22, u 23, u 24, u 25, u 26, u 27, u 28, u 29, u 30, u 31, u 32, u 33, u 34, u 35, u 36, u 37, u 38, u 39, u 40, u 41, u 42, u 43, u 44, u 45, u 46, u 47, u 48, u 49, u 50, u 51, u 52, u 53, u 54, u 55, u 56, u 57, u 58, u 59, u 60, u 61, u 62, u 63, u 64, u 65, u 66, u 67, u 68, u 69, u 70, u 71, u 72, u 73, u 74, u 75, u 76, u 77, u 78, u 79, u 80, u 81, u 82, u 83, u 84, u 85, u 86, u 87, u 88, u 89, u 90, u 91, u 92, u 93, u 94, u 95, u 96, u 97, u 98, u 99, u 100, u 101, u 102, u 103, u 104]
/-- The loop's invariant: the frame, the marks, the box of 'turn'. -/
def RowsI (B3 R BW BT : Nat) (w0 : World) (a : Act) (w : World) : Prop :=
  ∃ (Ds : List Nat) (B9 k : Nat), a = ⟨frR (fun i => a.tmps.getD i undef) B3 R BW BT B9, marks Ds⟩ ∧ k ≤ 2 ∧ MarksAt w0.heap.size w Ds ∧ Boxed w B9 3 (.int .i64 (k : Int)) ∧ Below w0.heap.size w0 w
def rowsMu (a : Act) (w : World) : Nat := match a.tmps.getD 9 undef with
  | .pointer (some p) => 2 - boxNum p.block w
  | _ => 0

theorem rowsI_next {B3 R BW BT D k k' : Nat} {v : Int} {w0 W : World} {Ds : List Nat} (tm : Array Value) (h9 : tm.getD 9 undef = .pointer (some ⟨W.heap.size, 0, none⟩)) (he : tm = frR (fun i => tm.getD i undef) B3 R BW BT W.heap.size) (hv : v = ((k + 1 : Nat) : Int)) (hk' : k' = 2 - k) (hk : k < 2)
    (hm : MarksAt w0.heap.size W (D :: Ds)) (hb : Below w0.heap.size w0 W) :
    RowsI B3 R BW BT w0 ⟨tm, { target := .collected D, args := #[] } :: marks Ds⟩ (W.alloc (.cells #[.int .i64 v] 3)) ∧ rowsMu ⟨tm, { target := .collected D, args := #[] } :: marks Ds⟩ (W.alloc (.cells #[.int .i64 v] 3)) < k' := by
  subst hv hk'
  have hx := Boxed.new W 3 (.int .i64 ((k + 1 : Nat) : Int))
  refine ⟨⟨D :: Ds, W.heap.size, k + 1, ?_, by omega, hm.keep (fun j o h _ => (Below.heap_alloc _ _ _ (blk_lt h)).trans h), hx, hb.alloc hb.size _⟩, ?_⟩
  · show (⟨tm, _⟩ : Act) = ⟨_, _⟩
    rw [← he]; rfl
  · have h1 : rowsMu ⟨tm, { target := .collected D, args := #[] } :: marks Ds⟩ (W.alloc (.cells #[.int .i64 ((k + 1 : Nat) : Int)] 3)) = 2 - (k + 1) := by
      unfold rowsMu
      simp only [h9]
      rw [box_num hx]
    omega

set_option maxHeartbeats 4000000 in
set_option maxRecDepth 100000 in
theorem lrows_in (w : World) (A : Option Addr) (n c : Nat) (ds : List Dg) (hs : SlD w (.slice A n c) ds n) (many : Int) (hn0 : 0 < n) (hn16 : n ≤ 16) :
    Calls Try.prog 11 #[.slice A n c, .int .i64 many] w fun e w' => e = .returned (.bool true) ∧ Below w.heap.size w w' := by
  have h1I : ¬ (n : Int) < 1 := by omega
  have h2I : ¬ (16 : Int) < (n : Int) := by omega
  have HLEN := hd hs.len
  have HS := hd hs
  clear hs
  refine (callsIn_wide (n := 3)).1 ?_
  refine callsIn_of_wp_marks Try.func11 rfl trivial ?_ rfl
  refine wpIn_wide.2 ?_
  simp only [Try.ntmps11, List.size_toArray, List.length_cons, List.length_nil, Nat.reduceAdd, Nat.reduceSub, Array.replicate_succ, Array.replicate_zero, List.push_toArray, List.append_toArray, List.nil_append, List.cons_append]
  go_upto_region 0 with (fail)
  go_cut [3, 4] from 3 to 4 (fun v3 v4 wx => v3 = .pointer (some ⟨w.heap.size, 0, none⟩) ∧ v4 = .pointer (some ⟨w.heap.size + 1, 0, none⟩) ∧ Boxed wx w.heap.size 3 (.int .i64 many) ∧ Boxed wx (w.heap.size + 1) 4 (.bool false) ∧ Below w.heap.size w wx)
  case first =>
    go_wp2_with fail
    go_meet
    have h2 := Boxed.new (w.alloc (.cells #[.int .i64 many] 3)) 4 (.bool false)
    rw [World.size_alloc] at h2
    exact ⟨rfl, rfl, (Boxed.new _ _ _).alloc _, h2, ((Below.refl _ _).alloc (Nat.le_refl _) _).alloc (by simp) _⟩
  case rest =>
    obtain ⟨rfl, rfl, hx3, hx4, hb0⟩ := hcut
    obtain ⟨wa, rfl⟩ : ∃ w0 : World, w0 = wc := ⟨_, rfl⟩
    have HX3 := hd hx3
    have HX4 := hd hx4
    have HBA := hd hb0
    have hsza := hb0.size
    have HNEW := hd (newt_any wa A n c ds (HS.out.below hb0) hn0 hn16)
    clear hx3 hx4 hb0
    go_upto_region 3 with (fail)
    go_cut [5, 6] from 5 to 26 (fun v5 v6 wx => ∃ g, v5 = .pointer (some ⟨g, 0, none⟩) ∧ v6 = .int .i64 0 ∧ TreeAt wx wa.heap.size wx.heap.size g ds ∧ Below wa.heap.size wa wx)
    case first =>
      go_wp2_with (go_at_call 17; refine HNEW.out.mono ?_; rintro e w1 ⟨g, rfl, ht, hb1⟩; have HT := hd ht; have HB1 := hd hb1; clear ht hb1)
      go_meet
      exact ⟨g, rfl, rfl, HT.out, HB1.out⟩
    case rest =>
      obtain ⟨g, rfl, rfl, ht, hb1⟩ := hcut
      obtain ⟨wb, rfl⟩ : ∃ w0 : World, w0 = wc := ⟨_, rfl⟩
      have HT := hd ht
      have HB1 := hd hb1
      have hszb := hb1.size
      have HBB := hd (HBA.out.trans (hb1.mono hsza))
      have HRR := hd (rrows_any wb A n c ds (HS.out.below HBB.out) hn0 hn16)
      clear ht hb1 HNEW
      go_upto_region 4 with (fail)
      go_cut [7] from 27 to 28 (fun v7 wx => ∃ BW rv, v7 = .pointer (some ⟨BW, 0, none⟩) ∧ Boxed wx BW 57 rv ∧ RowsAt wx wb.heap.size BW rv ds ∧ wb.heap.size ≤ BW ∧ Below wb.heap.size wb wx)
      case first =>
        go_wp2_with (go_at_call 28; refine HRR.out.mono ?_; rintro e w2 ⟨v2, rfl, hr2, hb2⟩; obtain ⟨rb, rc, rfl, _⟩ := hr2.open (by have := HLEN.out; omega); have HR2 := hd hr2; have HB2 := hd hb2; clear hr2 hb2)
        go_meet
        refine ⟨w2.heap.size, _, rfl, Boxed.new _ _ _, HR2.out.keep (fun k _ hk => Below.heap_alloc _ _ _ hk), HB2.out.size, HB2.out.alloc HB2.out.size _⟩
      case rest =>
        obtain ⟨BW, rv, rfl, hxw, hrw, hBW, hb2⟩ := hcut
        obtain ⟨wd, rfl⟩ : ∃ w0 : World, w0 = wc := ⟨_, rfl⟩
        have HXW := hd hxw
        have HRW := hd hrw
        have HB2 := hd hb2
        have hszd := hb2.size
        have HBD := hd (HBB.out.trans (hb2.mono (by omega)))
        have HTD := hd (HT.out.below (Nat.le_refl _) hb2)
        have hBWd := hxw.lt
        clear hxw hrw hb2 HRR HT
        go_upto_block 0 with (go_at_call 22; refine (trows_any _ _ ⟨_, rfl⟩).mono ?_; rintro e w7 ⟨rfl, rfl⟩)
        obtain ⟨w1, hw1⟩ : ∃ w1, wd.alloc (.cells #[.pointer (some ⟨g, 0, none⟩)] 31) = w1 := ⟨_, rfl⟩
        obtain ⟨w2, hw2⟩ : ∃ w2, w1.alloc (.cells #[.int .i64 0] 3) = w2 := ⟨_, rfl⟩
        obtain ⟨z1, b1, l1⟩ := alloc_box hw1
        obtain ⟨z2, b2, l2⟩ := alloc_box hw2
        have e1 : wd.heap.size + 1 = w1.heap.size := by omega
        rw [hw1, hw2, e1]
        have lb : Below wd.heap.size wd w2 := l1.trans (l2.mono (by omega))
        have HXT := hd (show Boxed w2 wd.heap.size 31 (.pointer (some ⟨g, 0, none⟩)) from (l2.block _ (by omega)).trans b1)
        have HX9 := hd b2
        have HXW2 := hd (show Boxed w2 BW 57 rv from (lb.block _ hBWd).trans HXW.out)
        have HB := hd (HBD.out.trans (lb.mono (by omega)))
        have HT := hd (HTD.out.below (by omega) lb)
        have HRW2 := hd (HRW.out.keep (fun k _ hk => lb.block k (by omega)))
        have hX32 : Boxed w2 w.heap.size 3 (.int .i64 many) := by
          have h1 := HX3.out
          exact (((HB1.out.trans (HB2.out.mono hszb)).trans (lb.mono (by omega))).block _ h1.lt).trans h1
        have hX42 : Boxed w2 (w.heap.size + 1) 4 (.bool false) := by
          have h1 := HX4.out
          exact (((HB1.out.trans (HB2.out.mono hszb)).trans (lb.mono (by omega))).block _ h1.lt).trans h1
        have HX3 := hd hX32
        have HX4 := hd hX42
        have hszw2 : w1.heap.size + 1 = w2.heap.size := by omega
        clear hw1 hw2 z1 b1 l1 z2 b2 l2 lb HXW HRW HBD HTD HB2 HB1 HBB HBA hX32 hX42 HS
        obtain ⟨S, hS⟩ : ∃ S, w2.heap.size = S := ⟨_, rfl⟩
        refine wp_block ?_
        refine wp_loop (RowsI w.heap.size (w.heap.size + 1) BW wd.heap.size w2) rowsMu ⟨[], w1.heap.size, 0, rfl, by omega, MarksAt.nil _ _, HX9.out, Below.refl _ _⟩ ?_
        rintro a wr ⟨Ds, B9, k, ha, hk, hmk, hx9, hbr⟩
        obtain ⟨u, hu⟩ : ∃ u : Nat → Value, (fun i => a.tmps.getD i undef) = u := ⟨_, rfl⟩
        rw [hu] at ha
        clear hu
        subst ha
        have hmu : rowsMu ⟨frR u w.heap.size (w.heap.size + 1) BW wd.heap.size B9, marks Ds⟩ wr = 2 - k := by
          show 2 - boxNum B9 wr = 2 - k
          rw [box_num hx9]
        rw [hmu]
        unfold frR
        have HMK := hd hmk
        have HX9r := hd hx9
        have HBR := hd hbr
        have hszr := hbr.size
        have hc9 := hx9.cell
        clear hmk hx9 hbr hmu HX9
        by_cases hlt : k < 2
        · have hltI : (k : Int) < 2 := by omega
          go_upto_block 2 with (fail)
          refine wp_named ?_
          intro T0 hT0
          obtain ⟨W1, hW1⟩ : ∃ W1, wr.alloc (.cells #[.int .i64 0] 3) = W1 := ⟨_, rfl⟩
          obtain ⟨zN, bN, lN⟩ := alloc_box hW1
          obtain ⟨BN, hBN⟩ : ∃ BN, wr.heap.size = BN := ⟨_, rfl⟩
          rw [hW1]
          rw [hBN] at hT0 zN bN lN
          have hb1 : Below S w2 W1 := by rw [← hS]; exact HBR.out.trans (lN.mono (by rw [← hBN]; exact hszr))
          have hszS : S ≤ BN := by rw [← hS, ← hBN]; exact hszr
          have hT1 : TreeAt W1 wa.heap.size wb.heap.size g ds := HT.out.below (by omega) (by rw [hS]; exact hb1)
          have hXT1 : Boxed W1 wd.heap.size 31 (.pointer (some ⟨g, 0, none⟩)) := (hb1.block _ (by omega)).trans HXT.out
          have hX91 : Boxed W1 B9 3 (.int .i64 (k : Int)) := (lN.block _ (by have := HX9r.out.lt; omega)).trans HX9r.out
          have hX31 : Boxed W1 w.heap.size 3 (.int .i64 many) := (hb1.block _ (by have := HX3.out.lt; omega)).trans HX3.out
          have hXW1 : Boxed W1 BW 57 rv := (hb1.block _ (by have := HXW2.out.lt; omega)).trans HXW2.out
          have hRW1 : RowsAt W1 wb.heap.size BW rv ds := HRW2.out.keep (fun j _ hj => hb1.block j (by have := HXW2.out.lt; omega))
          have hMK1 : MarksAt S W1 Ds := by rw [← hS]; exact HMK.out.below (by rw [hBN]; exact lN)
          obtain ⟨rb, rc, rfl, hrb, hrB, hrc, hcells⟩ := hRW1.openT (by have := HLEN.out; omega)
          have hBW1 := hXW1.lt
          have hB91 := hX91.lt
          have hB31 := hX31.lt
          have hne9 : B9 ≠ BN := by have := HX9r.out.lt; omega
          obtain ⟨R, hR⟩ : ∃ R, (rows ds).length = R := ⟨_, rfl⟩
          have hrl := rows_length ds
          have hrp := rows_ne ds
          rw [hR] at hrl hrp
          rw [HLEN.out] at hrl
          have HRL := hd hR
          have HCE := hd hcells
          have HT1 := hd hT1
          have HMK1 := hd hMK1
          have HXW1 := hd hXW1
          have HX91 := hd hX91
          have HX31 := hd hX31
          have HT0 := hd hT0
          have HB1 := hd hb1
          refine wp_block ?_
          refine (wpIn_wide (n := 3)).1 ?_
          refine wpIn_rangeG (α := List Dg) (F := Fence.wide) rfl (by omega) (gf := 39) (lb := #[.pointer (some ⟨wd.heap.size, 0, none⟩)]) (by rw [hT0]; rfl) trivial (enters_of Try.func39 (by kernel_rfl) rfl)
            (rows_iter (3 - 1) wd.heap.size wa.heap.size wb.heap.size g W1 ds hT1 (by omega) (by have := HLEN.out; omega) (by have := HLEN.out; omega) hXT1) (fun j e => e.elim) (fun j e => by omega) (Below.refl _ _) (fun _ _ _ ⟨_, e, _⟩ => by rw [e]; rfl)
            (RwI BN k W1 many) (RwX BN k R W1 many)
            ?hI ?hIx ⟨bN, Chg.refl _ _, fun _ => .inl rfl⟩
            (fun x a' W => ∃ v, a' = { tmps := (T0.setIfInBounds 38 v).setIfInBounds 11 v, defers := [] } ∧ W.ownsRow W1.heap.size 35 32 v x.length (dcs x)) ?hAx ?assign ?body ?done ?stop
          case hI =>
            rintro pre X Y row ⟨h1, h2, h3⟩ hg hr
            refine ⟨(hg.block _ h1.lt (fun e => ?_)).trans h1, h2.trans (Chg.grown hg) (fun j hj e => ?_), h3⟩
            · rcases hr _ e.symm with h | ⟨h4, _⟩
              · exact h
              · omega
            · rcases hr _ e with h | ⟨h4, _⟩
              · exact h.elim
              · omega
          case hIx =>
            rintro cc pre X Y row ⟨h0, h00, h3, h1, h2⟩ hg hr
            refine ⟨h0, h00, h3, (hg.block _ h1.lt (fun e => ?_)).trans h1, h2.trans (Chg.grown hg) (fun j hj e => ?_)⟩
            · rcases hr _ e.symm with h | ⟨h4, _⟩
              · exact h
              · omega
            · rcases hr _ e with h | ⟨h4, _⟩
              · exact h.elim
              · omega
          case hAx =>
            rintro x a' _ X Y row ⟨v, h1, h2⟩ hg hr
            refine ⟨v, h1, own_keep h2 (fun q hq hlt hv => hg.block q hlt (fun e => ?_))⟩
            rcases hr _ e.symm with h | ⟨_, o, h5, h6⟩
            · exact h
            · obtain ⟨c', t', fr', h7⟩ := own_isCells h2 hv
              rw [h5] at h7; cases h7; cases h6
          case assign =>
            rintro lr pre x args W K hI ⟨v, rfl, hown⟩ hp hK
            have HK := hd hK
            have HI := hd hI
            have HO := hd hown
            clear hK hI hown
            rw [hT0]
            gi_wp2
            exact HK.out _ _ (KeepsFrom.refl _ _) (Kept.refl _ _) HI.out ⟨v, by rw [hT0]; rfl, HO.out⟩
          case body =>
            rintro lr pre x a' W hlr - ⟨hbn, hch, hpk⟩ ⟨v, rfl, hown⟩ hp
            obtain ⟨p, hpq⟩ : ∃ p, pre.length = p := ⟨_, rfl⟩
            have hpx : (rows ds)[p]? = some x := by
              obtain ⟨t, ht⟩ := hp
              rw [← ht, ← hpq]; simp
            have hpR : p < R := by rw [← hR]; exact (List.getElem?_eq_some_iff.1 hpx).1
            obtain ⟨hx0, b', o', c', hcr0, hsd0, hbB', hb'⟩ := HCE.out p x hpx
            have hblk : ∀ j, j < W1.heap.size → j ≠ BN → W.heap[j]? = W1.heap[j]? := fun j hj hn => hch.block j hj hn
            have hszW := hch.size
            have hrbn : rb ≠ BN := by omega
            have hb'n : b' ≠ BN := by omega
            have hsd : SlD W (.slice (some ⟨b', o', none⟩) x.length c') x x.length := hsd0.keep fun j hj hlt => hblk j hlt (by cases hj; exact hb'n)
            have hcr : W.cell? ⟨rb, p, none⟩ = some (.slice (some ⟨b', o', none⟩) x.length c') := by
              have h1 := hblk rb (by omega) hrbn
              simp only [World.cell?, h1] at hcr0 ⊢
              exact hcr0
            have hXW : Boxed W BW 57 (.slice (some ⟨rb, 0, none⟩) R rc) := by
              have h1 := HXW1.out
              rw [hR] at h1
              exact (hblk BW hBW1 (by omega)).trans h1
            have hX9 : Boxed W B9 3 (.int .i64 (k : Int)) := (hblk B9 hB91 hne9).trans HX91.out
            have hX3 : Boxed W w.heap.size 3 (.int .i64 many) := (hblk _ hB31 (by omega)).trans HX31.out
            have hxl : x.length ≤ 16 := by
              have h5 := rowsUp_short ds.length (ds.map mrk) x (List.mem_of_getElem? hpx)
              rw [List.length_map, HLEN.out] at h5
              omega
            obtain ⟨m, hm⟩ : ∃ m, x.length = m := ⟨_, rfl⟩
            rw [hm] at hxl
            rw [hpq] at hbn hpk
            rw [hm] at hsd hcr hown hx0
            obtain ⟨A7, c7, rfl, _⟩ := own_cl hown
            have h32x : All32 x := hsd.all
            have HSAME := hd (show Calls Try.prog 23 #[.slice A7 m c7, .slice (some ⟨b', o', none⟩) m c'] W fun e w' => e = .returned (.bool true) ∧ Below W.heap.size W w' from by
              have h5 := same_any W A7 (some ⟨b', o', none⟩) m m c7 c' x x (own_sld hown h32x) hsd (by omega)
              rwa [decide_eq_true rfl] at h5)
            have hcbn := hbn.cell
            have hfbn := hbn.frozen
            have hcw := hXW.cell
            have HX9W := hd hX9
            have HX3W := hd hX3
            have hpI : (p : Int) < (R : Int) := by omega
            have hp0 : (0 : Int) ≤ (p : Int) := by omega
            have HOWN := hd hown
            have HCH := hd hch
            have HPK := hd hpk
            have HBNW := hd hbn
            have H32X := hd h32x
            have HM := hd hm
            have HPQ := hd hpq
            have HPP := hd hp
            clear hown hch hpk hbn hblk hcells hsd hsd0 hcr0 h32x hm hpq hpx hp hXW hX9 hX3 hc9
            rw [hT0]
            simp only [List.setIfInBounds_toArray, List.set_cons_succ, List.set_cons_zero]
            clear hT0
            gi_wp2
            refine ⟨trivial, CallsIn.inRound lr (callsIn_wide.2 (HSAME.out.mono ?_))⟩
            rintro e W3 ⟨rfl, hb3⟩
            have HB3 := hd hb3
            have hdec : decide (R ≤ p) = false := decide_eq_false (by omega)
            have hO3 := own_below HOWN.out hb3
            have hX3 : Boxed W3 BN 3 (.int .i64 (p : Int)) := (hb3.block _ HBNW.out.lt).trans HBNW.out
            have HO3 := hd hO3
            have HBN3 := hd hX3
            have hs3 := hb3.size
            clear hcbn hfbn hcw hcr hb3 hO3 hX3
            gi_wp2
            gi_loopw [12] (fun y wq => ∃ (q : Nat) (es : List Dg), y = .int .i64 (q : Int) ∧ q ≤ m ∧ es.length = m ∧ All32 es ∧ wq.ownsRow W1.heap.size 35 32 (.slice A7 m c7) m (dcs es) ∧ Chg (fun j => (Value.slice A7 m c7).ownBlock = some j) W3 wq) (fun y _ => m - (intOf y).toNat)
            case atStart => exact ⟨0, x, rfl, Nat.zero_le _, HM.out, H32X.out, HO3.out, Chg.refl _ _⟩
            case round =>
              obtain ⟨q, es, rfl, hq, hel, he32, hown, hcq⟩ := hrel
              obtain ⟨g7, e7, hg7⟩ : ∃ g7, A7 = some ⟨g7, 0, none⟩ ∧ W1.heap.size ≤ g7 := by
                rcases hown.2 with ⟨e, h0⟩ | ⟨g', cap', cur, e, hb', _⟩
                · omega
                · cases e; exact ⟨_, rfl, hb'⟩
              subst e7
              by_cases hlt : q < m
              · have hltI : (q : Int) < (m : Int) := by omega
                have hq0 : (0 : Int) ≤ (q : Int) := by omega
                obtain ⟨d, hdk⟩ : ∃ d, es[q]? = some d := ⟨es[q]'(by omega), List.getElem?_eq_getElem (by omega)⟩
                have hcell := own_byte (a := 0) hown he32 hdk (by omega)
                rw [Nat.add_zero] at hcell
                obtain ⟨hc1, hf1⟩ := hcell
                have hnew : All32 (es.set q (d.set 0 (d.getD 0 0 + 1))) := all32_set he32 q (by rw [List.length_set]; exact he32.get hdk)
                have hnl : (es.set q (d.set 0 (d.getD 0 0 + 1))).length = m := by rw [List.length_set]; exact hel
                have hg7r : g7 < wr.heap.size := (hown.lt _ rfl).2
                have hib := ib_succ (d.getD 0 0)
                have hbl := ib_lo (d.getD 0 0)
                have hbh := ib_hi (d.getD 0 0)
                have hset := fun (w5 : World) (hb : Below wr.heap.size wr w5) => own_setD (a := 0) (own_below hown hb) he32 hdk (by omega) (d.getD 0 0 + 1)
                obtain ⟨qq, hqq⟩ : ∃ q, d.getD 0 0 = q := ⟨_, rfl⟩
                rw [hqq] at hc1 hset hnew hnl hib hbl hbh
                obtain ⟨es', hes⟩ : ∃ es', es.set q (d.set 0 (qq + 1)) = es' := ⟨_, rfl⟩
                rw [hes] at hset hnew hnl
                rw [← hib] at hset
                have HSET := hd hset
                have HNEW := hd hnew
                have HNL := hd hnl
                have HCQ := hd hcq
                have hwb : IntKind.u8.wrap (ib qq + 1) = (ib qq + 1) % 256 := IntKind.wrap_u8 _
                clear hset hnew hnl hes hqq hib hdk hown he32 hel hcq
                gi_wp2
                refine wpIn_region_inv lr 1 [58, 59, 60, 61, 62, 63, 64, 65, 66, 67] (fun done σ w' => (done 10 = false → Below wr.heap.size wr w') ∧
                  (done 0 = true → σ 58 = .slice (some ⟨g7, 0, none⟩) m c7) ∧
                  (done 1 = true → σ 59 = .int .i64 (q : Int)) ∧
                  (done 2 = true → σ 60 = .slice (some ⟨g7, 0, none⟩) m c7) ∧
                  (done 3 = true → σ 61 = .int .i64 (q : Int)) ∧
                  (done 4 = true → σ 62 = .pointer (some ⟨g7, q * 32, none⟩)) ∧
                  (done 5 = true → σ 63 = .pointer (some ⟨g7, q * 32, none⟩)) ∧
                  (done 6 = true → σ 64 = .int .u8 (ib qq)) ∧
                  (done 7 = true → σ 65 = .int .u8 ((ib qq + 1) % 256)) ∧
                  (done 8 = true → σ 66 = .pointer (some ⟨g7, q * 32, none⟩)) ∧
                  (done 9 = true → σ 67 = .pointer (some ⟨g7, q * 32, none⟩)) ∧
                  (done 10 = true → StoQ g7 (q * 32) (.int .u8 ((ib qq + 1) % 256)) wr w')) (by kernel_rfl) (by kernel_rfl) (by kernel_rfl) ?_ ?_ ?_
                · simp
                  exact Below.drew (Below.refl _ _)
                · refine ⟨fun done σ w' a hi hA hC ha hσ ⟨hR, r0, r1, r2, r3, r4, r5, r6, r7, r8, r9, r10⟩ => ?_, ?_⟩
                  · have e0 := hσ 11 (by simp)
                    simp only [List.getElem?_toArray] at e0
                    refine stepG_plain rfl fun K hK => ?_
                    go_simp
                    refine hK _ _ ?_
                    simp [mk, up]
                    exact ⟨hR, r1, r2, r3, r4, r5, r6, r7, r8, r9, r10⟩
                  refine ⟨fun done σ w' a hi hA hC ha hσ ⟨hR, r0, r1, r2, r3, r4, r5, r6, r7, r8, r9, r10⟩ => ?_, ?_⟩
                  · have e0 := hσ 12 (by simp)
                    simp only [List.getElem?_toArray] at e0
                    refine stepG_plain rfl fun K hK => ?_
                    go_simp
                    refine hK _ _ ?_
                    simp [mk, up]
                    exact ⟨hR, r0, r2, r3, r4, r5, r6, r7, r8, r9, r10⟩
                  refine ⟨fun done σ w' a hi hA hC ha hσ ⟨hR, r0, r1, r2, r3, r4, r5, r6, r7, r8, r9, r10⟩ => ?_, ?_⟩
                  · have e0 := hσ 11 (by simp)
                    simp only [List.getElem?_toArray] at e0
                    refine stepG_plain rfl fun K hK => ?_
                    go_simp
                    refine hK _ _ ?_
                    simp [mk, up]
                    exact ⟨hR, r0, r1, r3, r4, r5, r6, r7, r8, r9, r10⟩
                  refine ⟨fun done σ w' a hi hA hC ha hσ ⟨hR, r0, r1, r2, r3, r4, r5, r6, r7, r8, r9, r10⟩ => ?_, ?_⟩
                  · have e0 := hσ 12 (by simp)
                    simp only [List.getElem?_toArray] at e0
                    refine stepG_plain rfl fun K hK => ?_
                    go_simp
                    refine hK _ _ ?_
                    simp [mk, up]
                    exact ⟨hR, r0, r1, r2, r4, r5, r6, r7, r8, r9, r10⟩
                  refine ⟨fun done σ w' a hi hA hC ha hσ ⟨hR, r0, r1, r2, r3, r4, r5, r6, r7, r8, r9, r10⟩ => ?_, ?_⟩
                  · simp [After, Region.binds] at hA
                    have e0 := r2 (by first | exact hA | exact hA.1 | exact hA.2 | exact hA.2.1 | exact hA.2.2 | exact hA.2.2.1 | exact hA.2.2.2 | exact hA.2.2.2.1 | exact hA.2.2.2.2 | exact hA.2.2.2.2.1 | exact hA.2.2.2.2.2 | exact hA.2.2.2.2.2.1 | exact hA.2.2.2.2.2.2 | exact hA.2.2.2.2.2.2.1 | exact hA.2.2.2.2.2.2.2 | exact hA.2.2.2.2.2.2.2.1 | exact hA.2.2.2.2.2.2.2.2 | exact hA.2.2.2.2.2.2.2.2.1 | exact hA.2.2.2.2.2.2.2.2.2)
                    have e1 := r3 (by first | exact hA | exact hA.1 | exact hA.2 | exact hA.2.1 | exact hA.2.2 | exact hA.2.2.1 | exact hA.2.2.2 | exact hA.2.2.2.1 | exact hA.2.2.2.2 | exact hA.2.2.2.2.1 | exact hA.2.2.2.2.2 | exact hA.2.2.2.2.2.1 | exact hA.2.2.2.2.2.2 | exact hA.2.2.2.2.2.2.1 | exact hA.2.2.2.2.2.2.2 | exact hA.2.2.2.2.2.2.2.1 | exact hA.2.2.2.2.2.2.2.2 | exact hA.2.2.2.2.2.2.2.2.1 | exact hA.2.2.2.2.2.2.2.2.2)
                    refine stepG_plain rfl fun K hK => ?_
                    go_simp
                    refine hK _ _ ?_
                    simp [mk, up]
                    exact ⟨hR, r0, r1, r2, r3, r5, r6, r7, r8, r9, r10⟩
                  refine ⟨fun done σ w' a hi hA hC ha hσ ⟨hR, r0, r1, r2, r3, r4, r5, r6, r7, r8, r9, r10⟩ => ?_, ?_⟩
                  · simp [After, Region.binds] at hA
                    have e0 := r4 (by first | exact hA | exact hA.1 | exact hA.2 | exact hA.2.1 | exact hA.2.2 | exact hA.2.2.1 | exact hA.2.2.2 | exact hA.2.2.2.1 | exact hA.2.2.2.2 | exact hA.2.2.2.2.1 | exact hA.2.2.2.2.2 | exact hA.2.2.2.2.2.1 | exact hA.2.2.2.2.2.2 | exact hA.2.2.2.2.2.2.1 | exact hA.2.2.2.2.2.2.2 | exact hA.2.2.2.2.2.2.2.1 | exact hA.2.2.2.2.2.2.2.2 | exact hA.2.2.2.2.2.2.2.2.1 | exact hA.2.2.2.2.2.2.2.2.2)
                    refine stepG_plain rfl fun K hK => ?_
                    go_simp
                    refine hK _ _ ?_
                    simp [mk, up]
                    exact ⟨hR, r0, r1, r2, r3, r4, r6, r7, r8, r9, r10⟩
                  refine ⟨fun done σ w' a hi hA hC ha hσ ⟨hR, r0, r1, r2, r3, r4, r5, r6, r7, r8, r9, r10⟩ => ?_, ?_⟩
                  · simp [After, Region.binds] at hA
                    have e0 := r5 (by first | exact hA | exact hA.1 | exact hA.2 | exact hA.2.1 | exact hA.2.2 | exact hA.2.2.1 | exact hA.2.2.2 | exact hA.2.2.2.1 | exact hA.2.2.2.2 | exact hA.2.2.2.2.1 | exact hA.2.2.2.2.2 | exact hA.2.2.2.2.2.1 | exact hA.2.2.2.2.2.2 | exact hA.2.2.2.2.2.2.1 | exact hA.2.2.2.2.2.2.2 | exact hA.2.2.2.2.2.2.2.1 | exact hA.2.2.2.2.2.2.2.2 | exact hA.2.2.2.2.2.2.2.2.1 | exact hA.2.2.2.2.2.2.2.2.2)
                    have d10 := hC.at 6 10 _ rfl hi rfl
                    have e9 := ((hR d10).cell (p := ⟨g7, q * 32, none⟩) hg7r).trans hc1
                    refine stepG_plain rfl fun K hK => ?_
                    go_simp
                    refine hK _ _ ?_
                    simp [mk, up]
                    exact ⟨hR, r0, r1, r2, r3, r4, r5, r7, r8, r9, r10⟩
                  refine ⟨fun done σ w' a hi hA hC ha hσ ⟨hR, r0, r1, r2, r3, r4, r5, r6, r7, r8, r9, r10⟩ => ?_, ?_⟩
                  · simp [After, Region.binds] at hA
                    have e0 := r6 (by first | exact hA | exact hA.1 | exact hA.2 | exact hA.2.1 | exact hA.2.2 | exact hA.2.2.1 | exact hA.2.2.2 | exact hA.2.2.2.1 | exact hA.2.2.2.2 | exact hA.2.2.2.2.1 | exact hA.2.2.2.2.2 | exact hA.2.2.2.2.2.1 | exact hA.2.2.2.2.2.2 | exact hA.2.2.2.2.2.2.1 | exact hA.2.2.2.2.2.2.2 | exact hA.2.2.2.2.2.2.2.1 | exact hA.2.2.2.2.2.2.2.2 | exact hA.2.2.2.2.2.2.2.2.1 | exact hA.2.2.2.2.2.2.2.2.2)
                    refine stepG_plain rfl fun K hK => ?_
                    go_simp
                    refine hK _ _ ?_
                    simp [mk, up]
                    exact ⟨hR, r0, r1, r2, r3, r4, r5, r6, r8, r9, r10⟩
                  refine ⟨fun done σ w' a hi hA hC ha hσ ⟨hR, r0, r1, r2, r3, r4, r5, r6, r7, r8, r9, r10⟩ => ?_, ?_⟩
                  · simp [After, Region.binds] at hA
                    have e0 := r0 (by first | exact hA | exact hA.1 | exact hA.2 | exact hA.2.1 | exact hA.2.2 | exact hA.2.2.1 | exact hA.2.2.2 | exact hA.2.2.2.1 | exact hA.2.2.2.2 | exact hA.2.2.2.2.1 | exact hA.2.2.2.2.2 | exact hA.2.2.2.2.2.1 | exact hA.2.2.2.2.2.2 | exact hA.2.2.2.2.2.2.1 | exact hA.2.2.2.2.2.2.2 | exact hA.2.2.2.2.2.2.2.1 | exact hA.2.2.2.2.2.2.2.2 | exact hA.2.2.2.2.2.2.2.2.1 | exact hA.2.2.2.2.2.2.2.2.2)
                    have e1 := r1 (by first | exact hA | exact hA.1 | exact hA.2 | exact hA.2.1 | exact hA.2.2 | exact hA.2.2.1 | exact hA.2.2.2 | exact hA.2.2.2.1 | exact hA.2.2.2.2 | exact hA.2.2.2.2.1 | exact hA.2.2.2.2.2 | exact hA.2.2.2.2.2.1 | exact hA.2.2.2.2.2.2 | exact hA.2.2.2.2.2.2.1 | exact hA.2.2.2.2.2.2.2 | exact hA.2.2.2.2.2.2.2.1 | exact hA.2.2.2.2.2.2.2.2 | exact hA.2.2.2.2.2.2.2.2.1 | exact hA.2.2.2.2.2.2.2.2.2)
                    refine stepG_plain rfl fun K hK => ?_
                    go_simp
                    refine hK _ _ ?_
                    simp [mk, up]
                    exact ⟨hR, r0, r1, r2, r3, r4, r5, r6, r7, r9, r10⟩
                  refine ⟨fun done σ w' a hi hA hC ha hσ ⟨hR, r0, r1, r2, r3, r4, r5, r6, r7, r8, r9, r10⟩ => ?_, ?_⟩
                  · simp [After, Region.binds] at hA
                    have e0 := r8 (by first | exact hA | exact hA.1 | exact hA.2 | exact hA.2.1 | exact hA.2.2 | exact hA.2.2.1 | exact hA.2.2.2 | exact hA.2.2.2.1 | exact hA.2.2.2.2 | exact hA.2.2.2.2.1 | exact hA.2.2.2.2.2 | exact hA.2.2.2.2.2.1 | exact hA.2.2.2.2.2.2 | exact hA.2.2.2.2.2.2.1 | exact hA.2.2.2.2.2.2.2 | exact hA.2.2.2.2.2.2.2.1 | exact hA.2.2.2.2.2.2.2.2 | exact hA.2.2.2.2.2.2.2.2.1 | exact hA.2.2.2.2.2.2.2.2.2)
                    refine stepG_plain rfl fun K hK => ?_
                    go_simp
                    refine hK _ _ ?_
                    simp [mk, up]
                    exact ⟨hR, r0, r1, r2, r3, r4, r5, r6, r7, r8, r10⟩
                  refine ⟨fun done σ w' a hi hA hC ha hσ ⟨hR, r0, r1, r2, r3, r4, r5, r6, r7, r8, r9, r10⟩ => ?_, trivial⟩
                  · simp [After, Region.binds] at hA
                    have e0 := r9 (by first | exact hA | exact hA.1 | exact hA.2 | exact hA.2.1 | exact hA.2.2 | exact hA.2.2.1 | exact hA.2.2.2 | exact hA.2.2.2.1 | exact hA.2.2.2.2 | exact hA.2.2.2.2.1 | exact hA.2.2.2.2.2 | exact hA.2.2.2.2.2.1 | exact hA.2.2.2.2.2.2 | exact hA.2.2.2.2.2.2.1 | exact hA.2.2.2.2.2.2.2 | exact hA.2.2.2.2.2.2.2.1 | exact hA.2.2.2.2.2.2.2.2 | exact hA.2.2.2.2.2.2.2.2.1 | exact hA.2.2.2.2.2.2.2.2.2)
                    have e1 := r7 (by first | exact hA | exact hA.1 | exact hA.2 | exact hA.2.1 | exact hA.2.2 | exact hA.2.2.1 | exact hA.2.2.2 | exact hA.2.2.2.1 | exact hA.2.2.2.2 | exact hA.2.2.2.2.1 | exact hA.2.2.2.2.2 | exact hA.2.2.2.2.2.1 | exact hA.2.2.2.2.2.2 | exact hA.2.2.2.2.2.2.1 | exact hA.2.2.2.2.2.2.2 | exact hA.2.2.2.2.2.2.2.1 | exact hA.2.2.2.2.2.2.2.2 | exact hA.2.2.2.2.2.2.2.2.1 | exact hA.2.2.2.2.2.2.2.2.2)
                    have e8 := ((hR hi).cell (p := ⟨g7, q * 32, none⟩) hg7r).trans hc1
                    have e9 := ((hR hi).frozen (p := ⟨g7, q * 32, none⟩) hg7r).trans hf1
                    refine stepG_plain rfl fun K hK => ?_
                    go_simp
                    refine hK undef _ ?_
                    simp [mk, up_none]
                    exact ⟨r0, r1, r2, r3, r4, r5, r6, r7, r8, r9, ⟨w', hR hi, rfl⟩⟩
                · rintro done σ w' hall hσ ⟨hR, r0, r1, r2, r3, r4, r5, r6, r7, r8, r9, r10⟩
                  obtain ⟨w5, hb5, rfl⟩ := r10 (hall 10 (by simp))
                  simp only [putF, List.foldl_cons, List.foldl_nil, Act.put, List.setIfInBounds_toArray, List.set_cons_succ, List.set_cons_zero]
                  clear hσ r0 r1 r2 r3 r4 r5 r6 r7 r8 r9 r10 hall hR
                  have hset := HSET.out w5 hb5
                  rw [Nat.add_zero] at hset
                  have HS5 := hd hset
                  have HC5 := hd (HCQ.out.trans ((Chg.below (p := fun j => (Value.slice (some ⟨g7, 0, none⟩) m c7).ownBlock = some j) hb5).trans (Chg.grown (grown_setA w5 ⟨g7, q * 32, none⟩ (.int .u8 ((ib qq + 1) % 256)))) (fun j _ e => by simpa [Value.ownBlock] using e)) (fun j _ e => e))
                  clear hset hb5 hc1 hf1
                  gi_wp2
                  exact ⟨⟨q + 1, es', by go_num, by omega, HNL.out, HNEW.out, HS5.out, HC5.out⟩, by simp [intOf]; omega⟩
              · have hge : ¬ (q : Int) < (m : Int) := by omega
                have hg7n : g7 ≠ BN := by omega
                have hown7 : ∀ j, (Value.slice (some ⟨g7, 0, none⟩) m c7).ownBlock = some j → j = g7 := fun j e => by
                  have e' : g7 = j := by simpa [Value.ownBlock] using e
                  exact e'.symm
                have hq2 : Chg (fun j => j = g7) W wr := (Chg.below (p := fun j => j = g7) HB3.out).trans hcq (fun j _ e => hown7 j e)
                have hXN : Boxed wr BN 3 (.int .i64 (p : Int)) := (hq2.block _ HBNW.out.lt (fun e => hg7n e.symm)).trans HBNW.out
                have hX9q : Boxed wr B9 3 (.int .i64 (k : Int)) := (hq2.block _ HX9W.out.lt (by omega)).trans HX9W.out
                have hX3q : Boxed wr w.heap.size 3 (.int .i64 many) := (hq2.block _ HX3W.out.lt (by omega)).trans HX3W.out
                have hcN := hXN.cell
                have hfN := hXN.frozen
                have hc9q := hX9q.cell
                have hc3q := hX3q.cell
                have HXN := hd hXN
                have HQ2 := hd hq2
                have HOQ := hd hown
                have hn3 : w.heap.size ≠ BN := by omega
                have hn9 : B9 ≠ BN := hne9
                clear hXN hX9q hX3q hq2 hown he32 hel hcq hown7
                have hbd : BN < W1.heap.size := by omega
                have hw4 : wb.heap.size ≤ BN ∧ wd.heap.size < BN := by omega
                have HFIN := hd (rw_fin (B := BN + 1) (Keep := fun k => k = wd.heap.size ∨ (wa.heap.size ≤ k ∧ k < wb.heap.size)) HCH.out HQ2.out HOWN.out HBNW.out HXN.out hg7 hbd (fun j e => by omega))
                have hlenp : (pre ++ [x]).length = p + 1 := by rw [List.length_append, HPQ.out]; rfl
                have HLP := hd hlenp
                clear hlenp
                by_cases hk0 : k = 0
                · have hkI : ((k : Int) == 0) = true := by simp; omega
                  have HK0 := hd hk0
                  clear hk0
                  by_cases hmp : many ≤ (p : Int) + 1
                  · gi_wp2
                    obtain ⟨f1, f2, f3, f4⟩ := HFIN.out
                    refine ⟨f1, rfl, HK0.out, ?_, by rw [HLP.out]; exact f3, f4⟩
                    rw [HLP.out]
                    have h9 := HPK.out HK0.out
                    have h10 : p = 0 ∨ (p : Int) < many := h9.imp (fun e => by have := HPQ.out; rw [e] at this; simpa using this.symm) id
                    omega
                  · gi_wp2
                    obtain ⟨f1, f2, f3, f4⟩ := HFIN.out
                    exact ⟨f1, f2, by rw [HLP.out]; exact f3, f4, fun _ => .inr (by rw [HLP.out]; omega)⟩
                · have hkI : ((k : Int) == 0) = false := by simp; omega
                  have HK0 := hd hk0
                  clear hk0
                  gi_wp2
                  obtain ⟨f1, f2, f3, f4⟩ := HFIN.out
                  exact ⟨f1, f2, by rw [HLP.out]; exact f3, f4, fun e => absurd e HK0.out⟩
          case' done =>
            rintro D W hD ⟨hbn, hch, hpk⟩ hWD
            have hRa : k = 0 → (R : Int) = max 1 (min (R : Int) many) := fun h0 => by
              rcases hpk h0 with h1 | h1
              · rw [h1] at hR; simp at hR; omega
              · rw [hR] at h1; omega
            rw [hR] at hbn
            clear hpk
            obtain ⟨Z, hZ⟩ : ∃ Z : Nat, Z = R := ⟨_, rfl⟩
            rw [← hZ] at hbn
            have hR0 : k = 0 → (Z : Int) = max 1 (min (R : Int) many) := fun h => by rw [hZ]; exact hRa h
            have hR1 : k ≠ 0 → Z = R := fun _ => hZ
            clear hZ hRa
          case' stop =>
            rintro D cc pre W hD hpre ⟨rfl, hk0, hpl, hbn, hch⟩ hWD
            obtain ⟨Z, hZ⟩ : ∃ Z : Nat, pre.length = Z := ⟨_, rfl⟩
            rw [hZ] at hbn hpl
            have hR0 : k = 0 → (Z : Int) = max 1 (min (R : Int) many) := fun _ => hpl
            have hR1 : k ≠ 0 → Z = R := fun h => absurd hk0 h
            clear hZ hpl hpre hk0
          case' done => simp only [Exit.inBlock, Exit.then]
          case' stop => refine wpIn_exit ?_; simp only [Exit.inBlock, Exit.then, if_true]
          all_goals
            have hblk : ∀ j, j < W1.heap.size → j ≠ BN → W.heap[j]? = W1.heap[j]? := fun j hj hn => hch.block j hj hn
            have hszW := hch.size
            have hXW : Boxed W BW 57 (.slice (some ⟨rb, 0, none⟩) R rc) := by
              have h1 := HXW1.out
              rw [hR] at h1
              exact (hblk BW hBW1 (by omega)).trans h1
            have hX9 : Boxed W B9 3 (.int .i64 (k : Int)) := (hblk B9 hB91 hne9).trans HX91.out
            have hX3 : Boxed W w.heap.size 3 (.int .i64 many) := (hblk _ hB31 (by omega)).trans HX31.out
            have hmk1 := HMK1.out
            have hmk2 : MarksAt S W Ds := hmk1.keep (chg_cells hch (fun j o h1 h2 h3 => by subst h3; exact boxed_isCells bN o h1 h2))
            have hmk3 : MarksAt S W (D :: Ds) := hmk2.cons (by omega) hWD (fun hm => by have := blk_lt (hmk1.at_ D hm); omega)
            have hbW : Below S w2 W := HB1.out.trans (hch.toBelow (by omega) (fun j hj e => by omega))
            have hcw := hXW.cell
            have hc9 := hX9.cell
            have hc3 := hX3.cell
            have hcN := hbn.cell
            have HBW := hd hbW
            have HMK3 := hd hmk3
            have HX9W := hd hX9
            clear hblk hXW hX9 hX3 hmk1 hmk2 hmk3 hbW hbn hch hXW1 hRW1 hcells hT1 hXT1 hX91 hX31 hMK1 hb1 bN lN HCE HT1
            rw [hT0]
            clear hT0
            by_cases hk0 : k = 0
            · have hkI : ((k : Int) == 0) = true := by simp; omega
              have hkJ : ((k : Int) == 1) = false := by simp; omega
              have h0 := hR0 hk0
              go_wp2_with fail
              all_goals
                refine rowsI_next (k := k) _ ?_ ?_ ?_ ?_ hlt ?_ ?_
                · rfl
                · rfl
                · simp [hk0]
                · omega
                · rw [hS]; exact HMK3.out
                · rw [hS]; exact HBW.out
            · obtain rfl : k = 1 := by omega
              have h1 := hR1 hk0
              go_wp2_with fail
              all_goals exact rowsI_next (k := 1) _ rfl rfl rfl rfl hlt (by rw [hS]; exact HMK3.out) (by rw [hS]; exact HBW.out)
        · have hge : ¬ (k : Int) < 2 := by omega
          have hxr : Boxed wr (w.heap.size + 1) 4 (.bool false) := (HBR.out.block _ HX4.out.lt).trans HX4.out
          have HXR := hd hxr
          have hcr := hxr.cell
          have hfr := hxr.frozen
          have hlr := hxr.lt
          have hB4 := HX4.out.lt
          clear hxr
          go_wp2_with (first
            | (go_at_call 15; refine (num_any _ _).mono ?_; rintro e w9 ⟨rfl, rfl⟩)
            | (go_at_call 16; refine (works_any _).mono ?_; rintro e w9 ⟨rfl, hb9⟩; have hc9 := (hb9.cell (p := ⟨w.heap.size + 1, 0, none⟩) hlr).trans hcr; have hf9 := (hb9.frozen (p := ⟨w.heap.size + 1, 0, none⟩) hlr).trans hfr; have HB9 := hd hb9; clear hb9))
          have hx9 : Boxed w9 (w.heap.size + 1) 4 (.bool false) := (HB9.out.block _ hlr).trans HXR.out
          have hm9 := HMK.out.below HB9.out
          have hset : ∀ (k : Nat) (o : Obj), w9.heap[k]? = some o → o.isCells = false → (w9.setCell ⟨w.heap.size + 1, 0, none⟩ (.bool true)).heap[k]? = some o := fun k o h1 h2 => by
            by_cases e : k = w.heap.size + 1
            · subst e; exact (boxed_isCells hx9 o h1 h2).elim
            · exact (Below.heap_setCell _ _ _ _ (by show k ≠ w.heap.size + 1; exact e)).trans h1
          have hm10 := hm9.keep hset
          have hnot : w.heap.size + 1 ∉ Ds := fun e => by have := hm10.from_ _ e; omega
          have hb10 : Below w.heap.size w (w9.setCell ⟨w.heap.size + 1, 0, none⟩ (.bool true)) := ((HB.out.trans (HBR.out.mono HB.out.size)).trans (HB9.out.mono (by have := HB.out.size; omega))).setCell (show w.heap.size ≤ w.heap.size + 1 by omega) _
          refine ret_marks Ds _ hm10.nodup hm10.at_ ⟨.bool true, ret_cell rfl (by kernel_rfl) _ _ (w.heap.size + 1) (.bool true) rfl ?_, rfl, hb10.trans (shut_below Ds _ _ hb10.size (fun D hD => by have := hm10.from_ D hD; have := HB.out.size; omega))⟩
          exact Boxed.cell ((shut_other Ds _ _ hnot).trans (hx9.set _))

theorem lrows_any (w : World) (A : Option Addr) (n c : Nat) (ds : List Dg) (hs : SlD w (.slice A n c) ds n) (many : Int) :
    Calls Try.prog 11 #[.slice A n c, .int .i64 many] w fun e w' => e = .returned (.bool true) ∧ Below w.heap.size w w' := by
  by_cases h : n < 1 ∨ 16 < n
  · exact lrows_out w A n c many h
  · exact lrows_in w A n c ds hs many (by omega) (by omega)

end Go.Proofs.Ytjfplkndngmgdaa
