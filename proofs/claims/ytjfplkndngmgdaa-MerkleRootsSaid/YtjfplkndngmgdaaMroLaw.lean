/- The law MerkleRoots, walked. -/
import Derived.Test.YtjfplkndngmgdaaGE
import Derived.Test.YtjfplkndngmgdaaGF
namespace Go.Proofs.Ytjfplkndngmgdaa
set_option maxRecDepth 20000
open Go.RowKit Go.Shelf Sp

attribute [local go_sem ↓] ldD stD
attribute [local go_sem] run_ldA run_stA arrD loadX_at loadY_some storeX_at storeY_true ucs_size ones_ucs sha_length
attribute [local go_sem] Oper.semAt_some

theorem eql_func_nil (g : Nat) (W : World) : (binOp BinOp.eql 43 (.func (.func 39) #[] #[.pointer (some ⟨g, 0, none⟩)]) .nilFunc).run Try.prog W = .ok (.bool false) W := by kernel_rfl
attribute [local go_sem] eql_func_nil
theorem run_loadVar_one {P : Program} {T : Nat} (hT : oneT P T = true) (w : World) (g : Nat) (v : Value) (h : w.cell? ⟨g, 0, none⟩ = some v) : (loadVar T ⟨g, 0, none⟩).run P w = .ok v w := by
  obtain ⟨h1, h2⟩ := oneT_spec hT
  simp [loadVar, h1, h]
theorem ret_cell {P : Program} {T : Nat} {fn : Func} {p : Tmp} (h : fn.results = #[.cell p T]) (hT : oneT P T = true) (tmps : Array Value) (w : World) (g : Nat) (v : Value)
    (hp : tmps.getD p undef = .pointer (some ⟨g, 0, none⟩)) (hc : w.cell? ⟨g, 0, none⟩ = some v) : (results fn tmps).run P w = .ok v w := by
  have hp' : tmps[p]?.getD undef = .pointer (some ⟨g, 0, none⟩) := by simpa using hp
  simp [results, h, hp', asAddr, run_loadVar_one hT w g v hc]

theorem lroots_long (w : World) (A : Option Addr) (n c : Nat) (h : 40 < n) :
    Calls Try.prog 12 #[.slice A n c] w fun e w' => e = .returned (.bool true) ∧ Below w.heap.size w w' := by
  have hI : (40 : Int) < (n : Int) := by omega
  clear h
  have hb0 : Below w.heap.size w (w.alloc (.cells #[.bool false] 4)) := (Below.refl _ _).alloc (Nat.le_refl _) _
  have hx0 : Boxed (w.alloc (.cells #[.bool false] 4)) w.heap.size 4 (.bool false) := Boxed.new _ _ _
  have HB0 := hd hb0
  have HX0 := hd hx0
  have HL0 := hd (show w.heap.size < (w.alloc (.cells #[.bool false] 4)).heap.size from by simp)
  clear hb0 hx0
  go_enter Try.func12, Try.ntmps12
  go_wp2_with (go_at_call 16; refine (works_any _).mono ?_; rintro e w4 ⟨rfl, hb4⟩; have hx4 : Boxed w4 w.heap.size 4 (.bool false) := (hb4.block _ HL0.out).trans HX0.out; have hc4 := hx4.cell; have hf4 := hx4.frozen; have HB4 := hd hb4; have HX4 := hd hx4; clear hb4 hx4)
  refine bodyPost_ret (ret_cell rfl (by kernel_rfl) _ _ w.heap.size (.bool true) rfl (HX4.out.set _).cell) rfl ⟨rfl, ?_⟩
  exact (HB0.out.trans (HB4.out.mono (Nat.le_of_lt HL0.out))).setCell (Nat.le_refl _) _

/-- How the law ends: the result's cell, the deferred calls' block. -/
theorem fin_cell {w W W8 : World} {R D : Nat} (hb0 : Below R w W) (hx : Boxed W R 4 (.bool false)) (hK : W.heap[D]? = some (.deferred (some []))) (hb : Below W.heap.size W W8) (hD : R < D) :
    (W8.setCell ⟨R, 0, none⟩ (.bool true)).heap[D]? = some (.deferred (some [])) ∧ ((W8.setCell ⟨R, 0, none⟩ (.bool true)).putObj D (.deferred none)).cell? ⟨R, 0, none⟩ = some (.bool true) ∧ Below R w ((W8.setCell ⟨R, 0, none⟩ (.bool true)).putObj D (.deferred none)) := by
  have hDW := (Array.getElem?_eq_some_iff.1 hK).1
  have hx8 : Boxed W8 R 4 (.bool false) := (hb.block _ hx.lt).trans hx
  have hK8 : (W8.setCell ⟨R, 0, none⟩ (.bool true)).heap[D]? = some (.deferred (some [])) := (Below.heap_setCell _ _ _ _ (by show D ≠ R; omega)).trans ((hb.block _ hDW).trans hK)
  have hs := hx8.set (.bool true)
  have hs2 : Boxed ((W8.setCell ⟨R, 0, none⟩ (.bool true)).putObj D (.deferred none)) R 4 (.bool true) := (World.putObj_heap_other (by omega)).trans hs
  have h2 : Below R w (W8.setCell ⟨R, 0, none⟩ (.bool true)) := (hb0.trans (hb.mono (Nat.le_of_lt hx.lt))).setCell (Nat.le_refl _) _
  refine ⟨hK8, hs2.cell, h2.trans ((Chg.grown (grownBy_putObj' _ D (.deferred none))).toBelow (n := R) (Nat.le_of_lt (by have := hx8.lt; simpa [World.setCell] using this)) (fun k hk e => by
    have e' : D = k := by simpa using e
    omega))⟩

def StoR (R : Nat) (W w' : World) : Prop := ∃ w5, Below W.heap.size W w5 ∧ w' = w5.setCell ⟨R, 0, none⟩ (.bool true)
/-- What New gives, good or not. -/
def NewT (wb : World) (B T : Nat) (tv : Value) (ev : Int) (n : Nat) (ds : List Dg) : Prop :=
  ((n < 1 ∨ 16 < n) ∧ tv = .pointer none ∧ ev = 2) ∨ (1 ≤ n ∧ n ≤ 16 ∧ ev = 0 ∧ ∃ g, tv = .pointer (some ⟨g, 0, none⟩) ∧ TreeAt wb B T g ds)
theorem NewT.keep {w w' : World} {B T n : Nat} {tv : Value} {ev : Int} {ds : List Dg} (h : NewT w B T tv ev n ds) (hk : ∀ k, B ≤ k → k < T → w'.heap[k]? = w.heap[k]?) : NewT w' B T tv ev n ds := by
  rcases h with h | ⟨h1, h2, h3, g, h4, h5⟩
  · exact .inl h
  · exact .inr ⟨h1, h2, h3, g, h4, h5.keep hk⟩

set_option maxHeartbeats 4000000 in
set_option maxRecDepth 100000 in
theorem lroots_main (w : World) (A : Option Addr) (n c : Nat) (ds : List Dg) (hs : SlD w (.slice A n c) ds n) (h40 : n ≤ 40) :
    Calls Try.prog 12 #[.slice A n c] w fun e w' => e = .returned (.bool true) ∧ Below w.heap.size w w' := by
  have hI : ¬ (40 : Int) < (n : Int) := by omega
  have hlen := hs.len
  have hall := hs.all
  have hwl : w.heap.size + 1 ≤ w.heap.size + 1 := Nat.le_refl _
  obtain ⟨wz, hwz⟩ : ∃ wz, w.alloc (.cells #[.bool false] 4) = wz := ⟨_, rfl⟩
  obtain ⟨zz, bz, lz⟩ := alloc_box hwz
  have HS := hd (hs.below lz)
  have HALL := hd hall
  have HLEN := hd hlen
  have HBZ := hd bz
  have HLZ := hd lz
  have HZZ := hd zz
  have hAc : A = none → n = 0 ∧ c = 0 := by obtain ⟨A', c', e, _, _, _, _, h, _⟩ := hs; cases e; exact h
  have hcl : Cl wz A (dcs ds) := by obtain ⟨A', c', e, _, _, _, _, _, h⟩ := HS.out; cases e; exact h
  have HCL := hd hcl
  have HAC := hd hAc
  have HDL := hd (show (dcs ds).length = n * 32 by rw [dcs_length hall, hlen])
  clear hs hlen hall bz lz hAc hcl hwl zz
  refine (callsIn_wide (n := 3)).1 ?_
  refine callsIn_of_wp_marks Try.func12 rfl trivial ?_ rfl
  refine wpIn_wide.2 ?_
  simp only [Try.ntmps12, List.size_toArray, List.length_cons, List.length_nil, Nat.reduceAdd, Nat.reduceSub, Array.replicate_succ, Array.replicate_zero, List.push_toArray, List.append_toArray, List.nil_append, List.cons_append]
  go_upto_region 4 with (at_builtin; refine wpList_app rfl (.tmp 25) (.tmp 26) 30 rfl wz.heap.size 35 (.agg (ucs (List.replicate 32 0))) 32 32 (by kernel_rfl) infoD rfl (by decide) _ 0 [] rfl (World.ownsRow_made wz #[] 0 (Nat.le_refl _) (Nat.zero_le _) rfl) A n c (dcs ds) rfl HDL.out HAC.out (HCL.out.below ((Below.refl _ _).alloc (Nat.le_refl _) _)) (dcs_one _) (by unfold maxLen; omega) (by omega) (Nat.le_of_lt (by simp)) ?_; intro v1 w1 ho1 hg1 _; rw [Nat.zero_add, List.nil_append] at ho1; obtain ⟨A3, c3, rfl, _⟩ := own_cl ho1; have HO1 := hd ho1; have HB1 := hd (((Below.refl wz.heap.size wz).alloc (Nat.le_refl _) _).grown hg1 (by simp) (fun k hk => by cases hk; exact Nat.le_refl _)); clear ho1 hg1)
  have HSM := hd (own_sld HO1.out HALL.out)
  have hsz1 := HB1.out.size
  clear hwz
  go_cut [4, 5] from 4 to 32 (fun v4 v5 wx => ∃ tv ev, v4 = tv ∧ v5 = .int .i64 ev ∧ NewT wx w1.heap.size wx.heap.size tv ev n ds ∧ Below w1.heap.size w1 wx)
  case first =>
    by_cases hn : n < 1 ∨ 16 < n
    · have HNEW := hd (newt_none w1 A3 n c3 hn)
      have HN := hd hn
      clear hn
      go_wp2_with (go_at_call 17; refine HNEW.out.mono ?_; rintro e w2 ⟨rfl, rfl⟩)
      go_meet
      exact ⟨_, 2, rfl, rfl, .inl ⟨HN.out, rfl, rfl⟩, Below.refl _ _⟩
    · have HNEW := hd (newt_any w1 A3 n c3 ds HSM.out (by omega) (by omega))
      have hn1 : 1 ≤ n ∧ n ≤ 16 := by omega
      have HN := hd hn1
      clear hn hn1
      go_wp2_with (go_at_call 17; refine HNEW.out.mono ?_; rintro e w2 ⟨g, rfl, ht2, hb2⟩; have HT2 := hd ht2; have HB2 := hd hb2; clear ht2 hb2)
      go_meet
      exact ⟨_, 0, rfl, rfl, .inr ⟨HN.out.1, HN.out.2, rfl, g, rfl, HT2.out⟩, HB2.out⟩
  case rest =>
    obtain ⟨tv, ev, rfl, rfl, hnt, hb2⟩ := hcut
    obtain ⟨w2, rfl⟩ : ∃ w0 : World, w0 = wc := ⟨_, rfl⟩
    have HNT := hd hnt
    have HB2 := hd (HB1.out.trans (hb2.mono hsz1))
    have hsz2 := hb2.size
    have HOM := hd (own_below HO1.out hb2)
    have HSAME := hd (fun W A1 A2 c1 c2 (h1 : SlD W (.slice A1 n c1) ds n) (h2 : SlD W (.slice A2 n c2) ds n) => show Calls Try.prog 23 #[.slice A1 n c1, .slice A2 n c2] W fun e w' => e = .returned (.bool true) ∧ Below W.heap.size W w' from by
      have h5 := same_any W A1 A2 n n c1 c2 ds ds h1 h2 (by omega)
      rwa [decide_eq_true rfl] at h5)
    have HSL2 := hd (HS.out.below HB2.out)
    have HSM2 := hd (HSM.out.below hb2)
    clear hnt hb2
    go_upto_block 0 with (go_at_call 23; refine (HSAME.out _ _ _ _ _ HSM2.out HSL2.out).mono ?_; rintro e w3 ⟨rfl, hb3⟩; have HB3 := hd hb3; clear hb3)
    have HOM3 := hd (own_below HOM.out HB3.out)
    have hsz3 := HB3.out.size
    go_cut [6] from 6 to 52 (fun _ wx => Below wz.heap.size wz wx ∧ (∀ k, w1.heap.size ≤ k → k < w2.heap.size → wx.heap[k]? = w2.heap[k]?) ∧ w2.heap.size ≤ wx.heap.size)
    case first =>
      go_wp2_with fail
      go_loopw [6] (fun x wr => ∃ (k : Nat) (es : List Dg), x = .int .i64 (k : Int) ∧ k ≤ n ∧ es.length = n ∧ All32 es ∧ wr.ownsRow wz.heap.size 35 32 (.slice A3 n c3) n (dcs es) ∧ Below wz.heap.size wz wr ∧ (∀ k, w1.heap.size ≤ k → k < w2.heap.size → wr.heap[k]? = w2.heap[k]?) ∧ w2.heap.size ≤ wr.heap.size) (fun x _ => n - (intOf x).toNat)
      case atStart => exact ⟨0, ds, rfl, Nat.zero_le _, HLEN.out, HALL.out, HOM3.out, HB2.out.trans (HB3.out.mono (by omega)), fun k h1 h2 => HB3.out.block k h2, hsz3⟩
      case round =>
        obtain ⟨k, es, rfl, hk, hel, he32, hown, hbr, hkp, hsr⟩ := hrel
        by_cases hlt : k < n
        · have hltI : (k : Int) < (n : Int) := by omega
          have hk0 : (0 : Int) ≤ (k : Int) := by omega
          obtain ⟨d, hdk⟩ : ∃ d, es[k]? = some d := ⟨es[k]'(by omega), List.getElem?_eq_getElem (by omega)⟩
          obtain ⟨g7, e7, hg7, hg8⟩ : ∃ g7, A3 = some ⟨g7, 0, none⟩ ∧ wz.heap.size ≤ g7 ∧ g7 < w1.heap.size := by
            have h9 := HO1.out.lt
            rcases hown.2 with ⟨e, h0⟩ | ⟨g', cap', cur, e, hb', _⟩
            · omega
            · cases e; exact ⟨_, rfl, hb', (h9 _ rfl).2⟩
          subst e7
          have hcell := own_byte (a := 0) hown he32 hdk (by omega)
          have hset := own_setD (a := 0) hown he32 hdk (by omega) (d.getD 0 0 + 1)
          rw [Nat.add_zero] at hcell hset
          obtain ⟨hc1, hf1⟩ := hcell
          have hnew : All32 (es.set k (d.set 0 (d.getD 0 0 + 1))) := all32_set he32 k (by rw [List.length_set]; exact he32.get hdk)
          have hnl : (es.set k (d.set 0 (d.getD 0 0 + 1))).length = n := by rw [List.length_set]; exact hel
          have hib := ib_succ (d.getD 0 0)
          have hbl := ib_lo (d.getD 0 0)
          have hbh := ib_hi (d.getD 0 0)
          obtain ⟨q, hq⟩ : ∃ q, d.getD 0 0 = q := ⟨_, rfl⟩
          rw [hq] at hc1 hset hnew hnl hib hbl hbh
          obtain ⟨es', hes⟩ : ∃ es', es.set k (d.set 0 (q + 1)) = es' := ⟨_, rfl⟩
          rw [hes] at hset hnew hnl
          rw [← hib] at hset
          have HSET := hd hset
          have HNEW := hd hnew
          have HNL := hd hnl
          have HBR := hd hbr
          have HKP := hd hkp
          clear hset hnew hnl hes hq hib hdk hown he32 hel hbr hkp
          go_wp2_with fail
          go_region
          all_goals (
            go_wp2_with fail
            go_roundw
            case rel => exact ⟨k + 1, es', by go_num, by omega, HNL.out, HNEW.out, HSET.out, Below.drew (HBR.out.setCell (p := ⟨g7, k * 32, none⟩) hg7 _), fun j h1 h2 => (Below.heap_setCell _ _ _ _ (by show j ≠ g7; omega)).trans (HKP.out j h1 h2), by simpa [World.setCell] using hsr⟩
            case measure => simp [intOf]; omega)
        · have hge : ¬ (k : Int) < (n : Int) := by omega
          have HBR := hd hbr
          have HKP := hd hkp
          clear hown hbr he32 hkp
          go_wp2_with fail
          go_meet
          exact ⟨HBR.out, HKP.out, hsr⟩
    case rest =>
      obtain ⟨hbe, hke, hse⟩ := hcut
      obtain ⟨we, rfl⟩ : ∃ w0 : World, w0 = wc := ⟨_, rfl⟩
      have HSE := hd (HS.out.below hbe)
      have HBE := hd (HLZ.out.trans (hbe.mono HLZ.out.size))
      have HXE := hd (show Boxed we w.heap.size 4 (.bool false) from (hbe.block _ (by have := HZZ.out; omega)).trans HBZ.out)
      have HNE := hd (HNT.out.keep hke)
      clear hbe hke HOM HOM3 HSAME HSL2 HSM2 HSM HO1 HB3 HNT
      go_upto_block 2 with (first
        | (go_at_call 18; refine (root_nil _).mono ?_; rintro e w4 ⟨rfl, hb4⟩; have HB4 := hd hb4; have hcan := can_row (o := 0) (n := 32) (heap_alloc_new w4 (.cells (ucs (List.replicate 32 0)) 35)) (by simp [ucs_size]); clear hb4)
        | (go_at_call 29; refine (leaf_nil _ 0).mono ?_; rintro e w5 ⟨rfl, hb5⟩; have HB5 := hd hb5; have hcan5 := can_row (o := 0) (n := 32) (heap_alloc_new w5 (.cells (ucs (List.replicate 32 0)) 35)) (by simp [ucs_size]); clear hb5)
        | (go_at_call 19; refine (tpath_nil _ 0).mono ?_; rintro e w6 ⟨rfl, hb6⟩; have HB6 := hd hb6; clear hb6)
        | (go_at_call 22; refine (trows_any _ _ ⟨_, rfl⟩).mono ?_; rintro e w7 ⟨rfl, rfl⟩))
      have s4 := HB4.out.alloc HB4.out.size (.cells (ucs (List.replicate 32 0)) 35)
      have s5 := s4.trans (HB5.out.mono s4.size)
      have s5' := s5.alloc s5.size (.cells (ucs (List.replicate 32 0)) 35)
      have s6 := s5'.trans (HB6.out.mono s5'.size)
      obtain ⟨W6, hW6⟩ : ∃ W6, w6.alloc (.cells #[.pointer none] 31) = W6 := ⟨_, rfl⟩
      obtain ⟨W7, hW7⟩ : ∃ W7, W6.alloc (.cells #[.pointer none] 31) = W7 := ⟨_, rfl⟩
      have s7 : Below we.heap.size we W6 := by rw [← hW6]; exact s6.alloc s6.size _
      have e6 : w6.heap.size + 1 = W6.heap.size := by rw [← hW6]; simp
      obtain ⟨z7, b7, l7⟩ := alloc_box hW7
      have s8 : Below we.heap.size we W7 := s7.trans (l7.mono s7.size)
      have HS8 := hd s8
      have HX8 := hd (show Boxed W7 w.heap.size 4 (.bool false) from (s8.block _ HXE.out.lt).trans HXE.out)
      have HB8 := hd (HBE.out.trans (s8.mono HBE.out.size))
      have HSL8 := hd (HSE.out.below s8)
      have hsz8 := s8.size
      have HNE8 := hd (HNE.out.keep (fun k h1 h2 => s8.block k (by omega)))
      have hlt8 := HX8.out.lt
      rw [hW6, hW7]
      clear s4 s5 s5' s6 s7 s8 HB4 HB5 HB6 hcan hcan5 hW6 hW7 z7 l7 HXE HBE HSE HNE
      refine wp_block ?_
      refine (wpIn_wide (n := 3)).1 ?_
      refine wpIn_rangeG (α := List Dg) (F := Fence.wide) rfl (by omega) (gf := 39) (lb := #[.pointer (some ⟨W6.heap.size, 0, none⟩)]) (by rw [← e6]; rfl) trivial (enters_of Try.func39 (by kernel_rfl) rfl)
        (rows_nil (3 - 1) W6.heap.size W7 b7 (fun _ => False)) (fun k e => e.elim) (fun k e => e.elim) (Below.refl _ _) (fun _ _ _ h => h.elim)
        (fun _ W => Below W7.heap.size W7 W) (fun _ _ _ => False) ?hI (fun _ => turns_false) (Below.refl _ _) (fun _ _ _ => False) (fun _ _ => turns_false) ?assign ?body ?done ?stop
      case hI =>
        rintro pre X Y row h1 hg hr
        exact h1.grown hg h1.size (fun k hk => by
          rcases hr k hk with h | ⟨h, _⟩
          · exact h.elim
          · exact h)
      case assign =>
        intro lr pre x args W K _ h
        exact h.elim
      case body =>
        intro lr pre x a W _ _ _ h
        exact h.elim
      case stop =>
        rintro D c pre W _ _ h _
        exact h.elim
      case done =>
        rintro D W hD hbw hK
        simp only [Exit.inBlock, Exit.then]
        have HK := hd hK
        have hDW := (Array.getElem?_eq_some_iff.1 hK).1
        have HBW := hd (HB8.out.trans (hbw.mono HB8.out.size))
        have HXW := hd (show Boxed W w.heap.size 4 (.bool false) from (hbw.block _ hlt8).trans HX8.out)
        have HSW := hd (HSL8.out.below hbw)
        have HNW := hd (HNE8.out.keep (fun k h1 h2 => hbw.block k (by omega)))
        have hszw := hbw.size
        clear hK hbw HS8 HX8 HB8 HSL8 HNE8
        have hlx := HXW.out.lt
        have hcx := HXW.out.cell
        have hfx := HXW.out.frozen
        rcases HNW.out with ⟨hn, htv, hev⟩ | ⟨hn1, hn16, hev, g, htv, ht⟩
        · subst htv
          subst hev
          have done : ∀ W8, Below W.heap.size W W8 → (W8.setCell ⟨w.heap.size, 0, none⟩ (.bool true)).heap[D]? = some (.deferred (some [])) ∧ ((W8.setCell ⟨w.heap.size, 0, none⟩ (.bool true)).putObj D (.deferred none)).cell? ⟨w.heap.size, 0, none⟩ = some (.bool true) ∧ Below w.heap.size w ((W8.setCell ⟨w.heap.size, 0, none⟩ (.bool true)).putObj D (.deferred none)) := fun W8 hb => fin_cell HBW.out HXW.out HK.out hb (by omega)
          have DONE := hd done
          clear done
          by_cases h1 : n < 1
          · have h1I : (n : Int) < 1 := by omega
            clear hn h1 HNW
            go_wp2_with (first
              | (go_at_call 15; refine (num_any _ _).mono ?_; rintro e w9 ⟨rfl, rfl⟩)
              | (go_at_call 27; refine (tlen_nil _).mono ?_; rintro e w9 ⟨rfl, rfl⟩)
              | (go_at_call 16; refine (works_any _).mono ?_; rintro e w9 ⟨rfl, hb9⟩; have hc9 := (hb9.cell (p := ⟨w.heap.size, 0, none⟩) hlx).trans hcx; have hf9 := (hb9.frozen (p := ⟨w.heap.size, 0, none⟩) hlx).trans hfx; have HB9 := hd hb9; clear hb9))
            obtain ⟨k1, k2, k3⟩ := DONE.out w9 HB9.out
            refine ⟨by simp, .inl ⟨_, _, rfl, run_takeDeferred k1, ?_⟩⟩
            exact ⟨_, ret_cell rfl (by kernel_rfl) _ _ w.heap.size (.bool true) rfl k2, rfl, k3⟩
          · have h1I : ¬ (n : Int) < 1 := by omega
            have h2I : (16 : Int) < (n : Int) := by omega
            clear hn h1 HNW
            go_wp2_with (first
              | (go_at_call 15; refine (num_any _ _).mono ?_; rintro e w9 ⟨rfl, rfl⟩)
              | (go_at_call 27; refine (tlen_nil _).mono ?_; rintro e w9 ⟨rfl, rfl⟩)
              | (go_at_call 16; refine (works_any _).mono ?_; rintro e w9 ⟨rfl, hb9⟩; have hc9 := (hb9.cell (p := ⟨w.heap.size, 0, none⟩) hlx).trans hcx; have hf9 := (hb9.frozen (p := ⟨w.heap.size, 0, none⟩) hlx).trans hfx; have HB9 := hd hb9; clear hb9))
            obtain ⟨k1, k2, k3⟩ := DONE.out w9 HB9.out
            refine ⟨by simp, .inl ⟨_, _, rfl, run_takeDeferred k1, ?_⟩⟩
            exact ⟨_, ret_cell rfl (by kernel_rfl) _ _ w.heap.size (.bool true) rfl k2, rfl, k3⟩
        · subst htv
          subst hev
          have h1I : ¬ (n : Int) < 1 := by omega
          have h2I : ¬ (16 : Int) < (n : Int) := by omega
          have hn0 : 0 < n := by omega
          have hr32 : (rootOf ds).length = 32 := by
            have hl := HLEN.out
            obtain ⟨L, hLk⟩ : ∃ d, ds[0]? = some d := ⟨ds[0]'(by omega), List.getElem?_eq_getElem (by omega)⟩
            have h1 := upAll32 (oths 0 ds.length) (mrk L) (pathOf ds 0) (mrk_length L)
            rw [leads ds 0 L hLk] at h1
            exact h1
          obtain ⟨b0, o0, rfl, hb0⟩ := HSW.out.at hn0
          obtain ⟨r, hr⟩ : ∃ r, rootOf ds = r := ⟨_, rfl⟩
          rw [hr] at hr32
          have hTW : w2.heap.size ≤ W.heap.size := by omega
          have HT := hd ht
          have HROOT := hd (show Calls Try.prog 18 #[.pointer (some ⟨g, 0, none⟩)] W fun e w' => e = .returned (.tuple #[.agg (ucs r), .int .i64 0]) ∧ Below W.heap.size W w' from by
            have h5 := root_any W _ _ g ds ht (by rw [HLEN.out]; exact hn0) (by rw [HLEN.out]; exact hn16)
            rwa [hr] at h5)
          have HLEAF := hd (fun (W' : World) (hW : Below W.heap.size W W') (k : Nat) (d : Dg) (hk : ds[k]? = some d) => leaf_any W' _ _ g ds (HT.out.below hTW hW) k d hk (by rw [HLEN.out]; exact hn16))
          have HLR := hd (fun (W' : World) (hW : Below W.heap.size W W') => show Calls Try.prog 29 #[.pointer (some ⟨g, 0, none⟩), .int .i64 (n : Int)] W' fun e w' => e = .returned (.tuple #[.agg (ucs (List.replicate 32 0)), .int .i64 4]) ∧ Below W'.heap.size W' w' from
            leaf_range W' _ _ g ds (HT.out.below hTW hW) (n : Int) (by rw [HLEN.out]; exact hn0) (by rw [HLEN.out]; omega))
          have HRR := hd (fun (W' : World) (hW : Below W.heap.size W W') => show Calls Try.prog 26 #[.slice (some ⟨b0, o0, none⟩) n c] W' fun e w' => e = .returned (.agg (ucs r)) ∧ Below W'.heap.size W' w' from by
            have h5 := rroot_any W' _ n c ds (HSW.out.below hW) hn0 hn16
            rwa [hr] at h5)
          have HLN := hd (fun (W' : World) (hW : Below W.heap.size W W') => show Calls Try.prog 27 #[.pointer (some ⟨g, 0, none⟩)] W' fun e w' => e = .returned (.int .i64 (n : Int)) ∧ W' = w' from by
            have h5 := tlen_tree W' _ _ g ds (HT.out.below hTW hW) (by rw [HLEN.out]; exact hn0)
            rwa [HLEN.out] at h5)
          clear ht hr HNW
          go_upto_region 23 with (first
            | (go_at_call 15; refine (num_any _ _).mono ?_; rintro e w9 ⟨rfl, rfl⟩)
            | (go_at_call 27; refine (tlen_nil _).mono ?_; rintro e w9 ⟨rfl, rfl⟩))
          go_cut [14, 15] from 106 to 110 (fun v14 v15 wx => ∃ D1, v14 = .pointer (some ⟨D1, 0, none⟩) ∧ v15 = .int .i64 0 ∧ wx.heap[D1]? = some (.cells (ucs r) 35 (0, 0)) ∧ Below W.heap.size W wx)
          case first =>
            go_wp2_with (go_at_call 18; refine HROOT.out.mono ?_; rintro e w4' ⟨rfl, hb4⟩; have HB4 := hd hb4; have hcan := can_row (o := 0) (n := 32) (heap_alloc_new w4' (.cells (ucs (List.replicate 32 0)) 35)) (by simp [ucs_size]); clear hb4)
            go_meet
            exact ⟨w4'.heap.size, rfl, rfl, heap_alloc_new w4' _, HB4.out.alloc HB4.out.size _⟩
          case rest =>
            obtain ⟨D1, rfl, rfl, hd1, hbf⟩ := hcut
            obtain ⟨wf, rfl⟩ : ∃ wf : World, wf = wc := ⟨_, rfl⟩
            have HD1 := hd hd1
            have HBF := hd hbf
            have hszf := hbf.size
            have hltD1 := blk_lt hd1
            clear hd1 hbf
            go_upto_block 4 with (fail)
            go_cut [16, 17, 18] from 111 to 133 (fun _ _ _ wx => Below wf.heap.size wf wx)
            case first =>
              go_wp2_with fail
              go_loopw [16] (fun x wr => ∃ k : Nat, x = .int .i64 (k : Int) ∧ k ≤ n ∧ Below wf.heap.size wf wr) (fun x _ => n - (intOf x).toNat)
              case atStart => exact ⟨0, rfl, Nat.zero_le _, Below.refl _ _⟩
              case round =>
                obtain ⟨k, rfl, hk, hbr⟩ := hrel
                obtain ⟨wr, rfl⟩ : ∃ w0 : World, w0 = wr := ⟨_, rfl⟩
                have HBR := hd hbr
                have hszr := hbr.size
                clear hbr
                by_cases hlt : k < n
                · have hltI : (k : Int) < (n : Int) := by omega
                  have hk0 : (0 : Int) ≤ (k : Int) := by omega
                  have hlen := HLEN.out
                  obtain ⟨d, hdk⟩ : ∃ d, ds[k]? = some d := ⟨ds[k]'(by omega), List.getElem?_eq_getElem (by omega)⟩
                  have hbW : Below W.heap.size W wr := HBF.out.trans (HBR.out.mono hszf)
                  have HLF := hd (HLEAF.out wr hbW k d hdk)
                  have h32 := HALL.out.get hdk
                  have hsubw := (HSW.out.below hbW).sub k hdk
                  have hb0r : b0 < wr.heap.size := Nat.lt_of_lt_of_le hb0 (by omega)
                  clear hlen hdk hbW
                  go_upto_region 27 with (fail)
                  go_cut [17, 18] from 117 to 122 (fun v17 v18 wx => ∃ D2, v17 = .pointer (some ⟨D2, 0, none⟩) ∧ v18 = .int .i64 0 ∧ wx.heap[D2]? = some (.cells (ucs d) 35 (0, 0)) ∧ Below wr.heap.size wr wx)
                  case first =>
                    go_wp2_with (go_at_call 29; refine HLF.out.mono ?_; rintro e w4' ⟨rfl, hb4⟩; have HB4 := hd hb4; have hcan := can_row (o := 0) (n := 32) (heap_alloc_new w4' (.cells (ucs (List.replicate 32 0)) 35)) (by simp [ucs_size]); clear hb4)
                    go_meet
                    exact ⟨w4'.heap.size, rfl, rfl, heap_alloc_new w4' _, HB4.out.alloc HB4.out.size _⟩
                  case rest =>
                    obtain ⟨D2, rfl, rfl, hd2, hbg⟩ := hcut
                    obtain ⟨wg, rfl⟩ : ∃ wg : World, wg = wc := ⟨_, rfl⟩
                    have HBG := hd hbg
                    have hx2 := sub_row (n := 32) hd2 (by rw [ucs_size, h32])
                    have t2 := blk_lt hd2
                    have hsubg := (sub_of_heap (hbg.block b0 hb0r)).trans hsubw
                    have hb0g := Nat.lt_of_lt_of_le hb0r hbg.size
                    have hszg := hbg.size
                    have hq : ∀ W : World, (Op.equalIn 10000 35 (.agg (ucs d)) (.agg (ucs d))).run Try.prog W = .ok true W := fun W => by
                      have h := eq_dig d d h32 h32 W
                      rwa [decide_eq_true rfl] at h
                    have HQ := hd hq
                    clear hd2 hbg hsubw hb0r hq
                    go_wp2_with fail
                    refine wp_region_inv [123, 124, 125, 126, 127, 128, 129, 130, 131, 132, 133] (fun done σ w' => Below wg.heap.size wg w' ∧
                      (done 0 = true → σ 123 = .agg (ucs d)) ∧
                      (done 1 = true → σ 124 = .slice (some ⟨b0, o0, none⟩) n c) ∧
                      (done 2 = true → σ 125 = .int .i64 (k : Int)) ∧
                      (done 3 = true → σ 126 = .pointer (some ⟨b0, o0 + k * 32, none⟩)) ∧
                      (done 4 = true → σ 127 = .agg (ucs d)) ∧
                      (done 5 = true → σ 128 = .bool false) ∧
                      (done 6 = true → σ 129 = .bool false) ∧
                      (done 7 = true → σ 130 = .int .i64 0) ∧
                      (done 8 = true → σ 131 = .int .i64 0) ∧
                      (done 9 = true → σ 132 = .bool false) ∧
                      (done 10 = true → σ 133 = .bool false)) (by kernel_rfl) (by kernel_rfl) ?_ ?_ ?_
                    · simp
                      exact Below.drew (Below.refl _ _)
                    · refine ⟨fun done σ w' a hi hA hC ha hσ ⟨hR, r0, r1, r2, r3, r4, r5, r6, r7, r8, r9, r10⟩ => ?_, ?_⟩
                      · have e0 := hσ 17 (by simp)
                        simp only [List.getElem?_toArray] at e0
                        have e9 := (sub_of_heap (hR.block _ t2)).trans hx2
                        refine stepG_plain rfl fun K hK => ?_
                        go_simp
                        refine hK _ _ ?_
                        simp [mk, up]
                        exact ⟨hR, r1, r2, r3, r4, r5, r6, r7, r8, r9, r10⟩
                      refine ⟨fun done σ w' a hi hA hC ha hσ ⟨hR, r0, r1, r2, r3, r4, r5, r6, r7, r8, r9, r10⟩ => ?_, ?_⟩
                      · have e0 := hσ 0 (by simp)
                        simp only [List.getElem?_toArray] at e0
                        refine stepG_plain rfl fun K hK => ?_
                        go_simp
                        refine hK _ _ ?_
                        simp [mk, up]
                        exact ⟨hR, r0, r2, r3, r4, r5, r6, r7, r8, r9, r10⟩
                      refine ⟨fun done σ w' a hi hA hC ha hσ ⟨hR, r0, r1, r2, r3, r4, r5, r6, r7, r8, r9, r10⟩ => ?_, ?_⟩
                      · have e0 := hσ 16 (by simp)
                        simp only [List.getElem?_toArray] at e0
                        refine stepG_plain rfl fun K hK => ?_
                        go_simp
                        refine hK _ _ ?_
                        simp [mk, up]
                        exact ⟨hR, r0, r1, r3, r4, r5, r6, r7, r8, r9, r10⟩
                      refine ⟨fun done σ w' a hi hA hC ha hσ ⟨hR, r0, r1, r2, r3, r4, r5, r6, r7, r8, r9, r10⟩ => ?_, ?_⟩
                      · simp [After, Region.binds] at hA
                        have e0 := r1 (by first | exact hA | exact hA.1 | exact hA.2 | exact hA.2.1 | exact hA.2.2 | exact hA.2.2.1 | exact hA.2.2.2 | exact hA.2.2.2.1 | exact hA.2.2.2.2 | exact hA.2.2.2.2.1 | exact hA.2.2.2.2.2 | exact hA.2.2.2.2.2.1 | exact hA.2.2.2.2.2.2 | exact hA.2.2.2.2.2.2.1 | exact hA.2.2.2.2.2.2.2 | exact hA.2.2.2.2.2.2.2.1 | exact hA.2.2.2.2.2.2.2.2 | exact hA.2.2.2.2.2.2.2.2.1 | exact hA.2.2.2.2.2.2.2.2.2)
                        have e1 := r2 (by first | exact hA | exact hA.1 | exact hA.2 | exact hA.2.1 | exact hA.2.2 | exact hA.2.2.1 | exact hA.2.2.2 | exact hA.2.2.2.1 | exact hA.2.2.2.2 | exact hA.2.2.2.2.1 | exact hA.2.2.2.2.2 | exact hA.2.2.2.2.2.1 | exact hA.2.2.2.2.2.2 | exact hA.2.2.2.2.2.2.1 | exact hA.2.2.2.2.2.2.2 | exact hA.2.2.2.2.2.2.2.1 | exact hA.2.2.2.2.2.2.2.2 | exact hA.2.2.2.2.2.2.2.2.1 | exact hA.2.2.2.2.2.2.2.2.2)
                        refine stepG_plain rfl fun K hK => ?_
                        go_simp
                        refine hK _ _ ?_
                        simp [mk, up]
                        exact ⟨hR, r0, r1, r2, r4, r5, r6, r7, r8, r9, r10⟩
                      refine ⟨fun done σ w' a hi hA hC ha hσ ⟨hR, r0, r1, r2, r3, r4, r5, r6, r7, r8, r9, r10⟩ => ?_, ?_⟩
                      · simp [After, Region.binds] at hA
                        have e0 := r3 (by first | exact hA | exact hA.1 | exact hA.2 | exact hA.2.1 | exact hA.2.2 | exact hA.2.2.1 | exact hA.2.2.2 | exact hA.2.2.2.1 | exact hA.2.2.2.2 | exact hA.2.2.2.2.1 | exact hA.2.2.2.2.2 | exact hA.2.2.2.2.2.1 | exact hA.2.2.2.2.2.2 | exact hA.2.2.2.2.2.2.1 | exact hA.2.2.2.2.2.2.2 | exact hA.2.2.2.2.2.2.2.1 | exact hA.2.2.2.2.2.2.2.2 | exact hA.2.2.2.2.2.2.2.2.1 | exact hA.2.2.2.2.2.2.2.2.2)
                        have e9 := (sub_of_heap (hR.block b0 hb0g)).trans hsubg
                        refine stepG_plain rfl fun K hK => ?_
                        go_simp
                        refine hK _ _ ?_
                        simp [mk, up]
                        exact ⟨hR, r0, r1, r2, r3, r5, r6, r7, r8, r9, r10⟩
                      refine ⟨fun done σ w' a hi hA hC ha hσ ⟨hR, r0, r1, r2, r3, r4, r5, r6, r7, r8, r9, r10⟩ => ?_, ?_⟩
                      · simp [After, Region.binds] at hA
                        have e0 := r0 (by first | exact hA | exact hA.1 | exact hA.2 | exact hA.2.1 | exact hA.2.2 | exact hA.2.2.1 | exact hA.2.2.2 | exact hA.2.2.2.1 | exact hA.2.2.2.2 | exact hA.2.2.2.2.1 | exact hA.2.2.2.2.2 | exact hA.2.2.2.2.2.1 | exact hA.2.2.2.2.2.2 | exact hA.2.2.2.2.2.2.1 | exact hA.2.2.2.2.2.2.2 | exact hA.2.2.2.2.2.2.2.1 | exact hA.2.2.2.2.2.2.2.2 | exact hA.2.2.2.2.2.2.2.2.1 | exact hA.2.2.2.2.2.2.2.2.2)
                        have e1 := r4 (by first | exact hA | exact hA.1 | exact hA.2 | exact hA.2.1 | exact hA.2.2 | exact hA.2.2.1 | exact hA.2.2.2 | exact hA.2.2.2.1 | exact hA.2.2.2.2 | exact hA.2.2.2.2.1 | exact hA.2.2.2.2.2 | exact hA.2.2.2.2.2.1 | exact hA.2.2.2.2.2.2 | exact hA.2.2.2.2.2.2.1 | exact hA.2.2.2.2.2.2.2 | exact hA.2.2.2.2.2.2.2.1 | exact hA.2.2.2.2.2.2.2.2 | exact hA.2.2.2.2.2.2.2.2.1 | exact hA.2.2.2.2.2.2.2.2.2)
                        have e9 := HQ.out w'
                        refine stepG_plain rfl fun K hK => ?_
                        go_simp
                        refine hK _ _ ?_
                        simp [mk, up]
                        exact ⟨hR, r0, r1, r2, r3, r4, r6, r7, r8, r9, r10⟩
                      refine ⟨fun done σ w' a hi hA hC ha hσ ⟨hR, r0, r1, r2, r3, r4, r5, r6, r7, r8, r9, r10⟩ => ?_, ?_⟩
                      · simp [After, Region.binds] at hA
                        have e0 := r5 (by first | exact hA | exact hA.1 | exact hA.2 | exact hA.2.1 | exact hA.2.2 | exact hA.2.2.1 | exact hA.2.2.2 | exact hA.2.2.2.1 | exact hA.2.2.2.2 | exact hA.2.2.2.2.1 | exact hA.2.2.2.2.2 | exact hA.2.2.2.2.2.1 | exact hA.2.2.2.2.2.2 | exact hA.2.2.2.2.2.2.1 | exact hA.2.2.2.2.2.2.2 | exact hA.2.2.2.2.2.2.2.1 | exact hA.2.2.2.2.2.2.2.2 | exact hA.2.2.2.2.2.2.2.2.1 | exact hA.2.2.2.2.2.2.2.2.2)
                        refine stepG_plain rfl fun K hK => ?_
                        go_simp
                        refine hK _ _ ?_
                        simp [mk, up]
                        exact ⟨hR, r0, r1, r2, r3, r4, r5, r7, r8, r9, r10⟩
                      refine ⟨fun done σ w' a hi hA hC ha hσ ⟨hR, r0, r1, r2, r3, r4, r5, r6, r7, r8, r9, r10⟩ => ?_, ?_⟩
                      · simp [After, Region.binds] at hA
                        have e0 := hσ 18 (by simp)
                        simp only [List.getElem?_toArray] at e0
                        refine stepG_onF 6 129 rfl rfl (r6 (by first | exact hA | exact hA.1 | exact hA.2 | exact hA.2.1 | exact hA.2.2 | exact hA.2.2.1 | exact hA.2.2.2 | exact hA.2.2.2.1 | exact hA.2.2.2.2 | exact hA.2.2.2.2.1 | exact hA.2.2.2.2.2 | exact hA.2.2.2.2.2.1 | exact hA.2.2.2.2.2.2 | exact hA.2.2.2.2.2.2.1 | exact hA.2.2.2.2.2.2.2 | exact hA.2.2.2.2.2.2.2.1 | exact hA.2.2.2.2.2.2.2.2 | exact hA.2.2.2.2.2.2.2.2.1 | exact hA.2.2.2.2.2.2.2.2.2)) ha fun K hK => ?_
                        go_simp
                        refine hK _ _ ?_
                        simp [mk, up]
                        exact ⟨hR, r0, r1, r2, r3, r4, r5, r6, r8, r9, r10⟩
                      refine ⟨fun done σ w' a hi hA hC ha hσ ⟨hR, r0, r1, r2, r3, r4, r5, r6, r7, r8, r9, r10⟩ => ?_, ?_⟩
                      · simp [After, Region.binds] at hA
                        have e0 := r7 (by first | exact hA | exact hA.1 | exact hA.2 | exact hA.2.1 | exact hA.2.2 | exact hA.2.2.1 | exact hA.2.2.2 | exact hA.2.2.2.1 | exact hA.2.2.2.2 | exact hA.2.2.2.2.1 | exact hA.2.2.2.2.2 | exact hA.2.2.2.2.2.1 | exact hA.2.2.2.2.2.2 | exact hA.2.2.2.2.2.2.1 | exact hA.2.2.2.2.2.2.2 | exact hA.2.2.2.2.2.2.2.1 | exact hA.2.2.2.2.2.2.2.2 | exact hA.2.2.2.2.2.2.2.2.1 | exact hA.2.2.2.2.2.2.2.2.2)
                        refine stepG_onF 6 129 rfl rfl (r6 (by first | exact hA | exact hA.1 | exact hA.2 | exact hA.2.1 | exact hA.2.2 | exact hA.2.2.1 | exact hA.2.2.2 | exact hA.2.2.2.1 | exact hA.2.2.2.2 | exact hA.2.2.2.2.1 | exact hA.2.2.2.2.2 | exact hA.2.2.2.2.2.1 | exact hA.2.2.2.2.2.2 | exact hA.2.2.2.2.2.2.1 | exact hA.2.2.2.2.2.2.2 | exact hA.2.2.2.2.2.2.2.1 | exact hA.2.2.2.2.2.2.2.2 | exact hA.2.2.2.2.2.2.2.2.1 | exact hA.2.2.2.2.2.2.2.2.2)) ha fun K hK => ?_
                        go_simp
                        refine (num_any w' 0).mono ?_
                        rintro e w2 ⟨rfl, rfl⟩
                        refine hK _ _ ?_
                        simp [mk, up]
                        exact ⟨hR, r0, r1, r2, r3, r4, r5, r6, r7, r9, r10⟩
                      refine ⟨fun done σ w' a hi hA hC ha hσ ⟨hR, r0, r1, r2, r3, r4, r5, r6, r7, r8, r9, r10⟩ => ?_, ?_⟩
                      · simp [After, Region.binds] at hA
                        have e0 := r8 (by first | exact hA | exact hA.1 | exact hA.2 | exact hA.2.1 | exact hA.2.2 | exact hA.2.2.1 | exact hA.2.2.2 | exact hA.2.2.2.1 | exact hA.2.2.2.2 | exact hA.2.2.2.2.1 | exact hA.2.2.2.2.2 | exact hA.2.2.2.2.2.1 | exact hA.2.2.2.2.2.2 | exact hA.2.2.2.2.2.2.1 | exact hA.2.2.2.2.2.2.2 | exact hA.2.2.2.2.2.2.2.1 | exact hA.2.2.2.2.2.2.2.2 | exact hA.2.2.2.2.2.2.2.2.1 | exact hA.2.2.2.2.2.2.2.2.2)
                        refine stepG_onF 6 129 rfl rfl (r6 (by first | exact hA | exact hA.1 | exact hA.2 | exact hA.2.1 | exact hA.2.2 | exact hA.2.2.1 | exact hA.2.2.2 | exact hA.2.2.2.1 | exact hA.2.2.2.2 | exact hA.2.2.2.2.1 | exact hA.2.2.2.2.2 | exact hA.2.2.2.2.2.1 | exact hA.2.2.2.2.2.2 | exact hA.2.2.2.2.2.2.1 | exact hA.2.2.2.2.2.2.2 | exact hA.2.2.2.2.2.2.2.1 | exact hA.2.2.2.2.2.2.2.2 | exact hA.2.2.2.2.2.2.2.2.1 | exact hA.2.2.2.2.2.2.2.2.2)) ha fun K hK => ?_
                        go_simp
                        refine hK _ _ ?_
                        simp [mk, up]
                        exact ⟨hR, r0, r1, r2, r3, r4, r5, r6, r7, r8, r10⟩
                      refine ⟨fun done σ w' a hi hA hC ha hσ ⟨hR, r0, r1, r2, r3, r4, r5, r6, r7, r8, r9, r10⟩ => ?_, trivial⟩
                      · simp [After, Region.binds] at hA
                        have e0 := r6 (by first | exact hA | exact hA.1 | exact hA.2 | exact hA.2.1 | exact hA.2.2 | exact hA.2.2.1 | exact hA.2.2.2 | exact hA.2.2.2.1 | exact hA.2.2.2.2 | exact hA.2.2.2.2.1 | exact hA.2.2.2.2.2 | exact hA.2.2.2.2.2.1 | exact hA.2.2.2.2.2.2 | exact hA.2.2.2.2.2.2.1 | exact hA.2.2.2.2.2.2.2 | exact hA.2.2.2.2.2.2.2.1 | exact hA.2.2.2.2.2.2.2.2 | exact hA.2.2.2.2.2.2.2.2.1 | exact hA.2.2.2.2.2.2.2.2.2)
                        have e1 := r9 (by first | exact hA | exact hA.1 | exact hA.2 | exact hA.2.1 | exact hA.2.2 | exact hA.2.2.1 | exact hA.2.2.2 | exact hA.2.2.2.1 | exact hA.2.2.2.2 | exact hA.2.2.2.2.1 | exact hA.2.2.2.2.2 | exact hA.2.2.2.2.2.1 | exact hA.2.2.2.2.2.2 | exact hA.2.2.2.2.2.2.1 | exact hA.2.2.2.2.2.2.2 | exact hA.2.2.2.2.2.2.2.1 | exact hA.2.2.2.2.2.2.2.2 | exact hA.2.2.2.2.2.2.2.2.1 | exact hA.2.2.2.2.2.2.2.2.2)
                        refine stepG_plain rfl fun K hK => ?_
                        go_simp
                        refine hK _ _ ?_
                        simp [mk, up]
                        exact ⟨hR, r0, r1, r2, r3, r4, r5, r6, r7, r8, r9⟩
                    · rintro done σ w' hall hσ ⟨hR, r0, r1, r2, r3, r4, r5, r6, r7, r8, r9, r10⟩
                      have h10 := r10 (hall 10 (by simp))
                      simp only [putF, List.foldl_cons, List.foldl_nil, Act.put, List.setIfInBounds_toArray, List.set_cons_succ, List.set_cons_zero]
                      rw [h10]
                      clear hσ r0 r1 r2 r3 r4 r5 r6 r7 r8 r9 r10 hall h10
                      have HRX := hd hR
                      clear hR
                      go_wp2_with fail
                      go_roundw
                      case rel => exact ⟨k + 1, by go_num, by omega, HBR.out.trans ((HBG.out.trans (HRX.out.mono hszg)).mono hszr)⟩
                      case measure => simp [intOf]; omega
                · have hge : ¬ (k : Int) < (n : Int) := by omega
                  go_wp2_with fail
                  go_meet
                  exact HBR.out
            case rest =>
              obtain ⟨wh, rfl⟩ : ∃ wh : World, wh = wc := ⟨_, rfl⟩
              have HBH := hd (HBF.out.trans (hcut.mono hszf))
              have HD1h := hd ((hcut.block _ hltD1).trans HD1.out)
              clear hcut HD1 hltD1
              go_upto_region 30 with (fail)
              go_cut [19, 20] from 134 to 140 (fun v19 v20 wx => v20 = .int .i64 4 ∧ Below wh.heap.size wh wx)
              case first =>
                go_wp2_with (go_at_call 29; refine (HLR.out _ HBH.out).mono ?_; rintro e w4' ⟨rfl, hb4⟩; have HB4 := hd hb4; have hcan := can_row (o := 0) (n := 32) (heap_alloc_new w4' (.cells (ucs (List.replicate 32 0)) 35)) (by simp [ucs_size]); clear hb4)
                go_meet
                exact ⟨rfl, HB4.out.alloc HB4.out.size _⟩
              case rest =>
                obtain ⟨rfl, hbk⟩ := hcut
                obtain ⟨wk, rfl⟩ : ∃ wk : World, wk = wc := ⟨_, rfl⟩
                have HBK := hd (HBH.out.trans (hbk.mono HBH.out.size))
                have hx1 := sub_row (n := 32) ((hbk.block _ (blk_lt HD1h.out)).trans HD1h.out) (by rw [ucs_size, hr32])
                have t1 := Nat.lt_of_lt_of_le (blk_lt HD1h.out) hbk.size
                have hck := (HBK.out.cell (p := ⟨w.heap.size, 0, none⟩) hlx).trans hcx
                have hfk := (HBK.out.frozen (p := ⟨w.heap.size, 0, none⟩) hlx).trans hfx
                have hlk := Nat.lt_of_lt_of_le hlx HBK.out.size
                have hq : ∀ W : World, (Op.equalIn 10000 35 (.agg (ucs r)) (.agg (ucs r))).run Try.prog W = .ok true W := fun W => by
                  have h := eq_dig r r hr32 hr32 W
                  rwa [decide_eq_true rfl] at h
                have HQ := hd hq
                have wz0 : IntKind.i64.wrap 0 = 0 := by decide
                clear hbk HD1h hq hcx hfx
                go_wp2_with fail
                refine wp_region_inv [141, 142, 143, 144, 145, 146, 147, 148, 149, 150, 151, 152, 153, 154, 155, 156, 157, 158, 159, 160, 161, 162, 163, 164, 165, 166, 167] (fun done σ w' => (done 27 = false → Below wk.heap.size wk w') ∧
                  (done 0 = true → σ 141 = .int .i64 0) ∧
                  (done 1 = true → σ 142 = .int .i64 0) ∧
                  (done 2 = true → σ 143 = .int .i64 0) ∧
                  (done 3 = true → σ 144 = .int .i64 0) ∧
                  (done 4 = true → σ 145 = .int .i64 0) ∧
                  (done 5 = true → σ 146 = .bool true) ∧
                  (done 6 = true → σ 147 = .bool true) ∧
                  (done 7 = true → σ 148 = .int .i64 4) ∧
                  (done 8 = true → σ 149 = .int .i64 4) ∧
                  (done 9 = true → σ 150 = .bool true) ∧
                  (done 10 = true → σ 151 = .bool true) ∧
                  (done 11 = true → σ 152 = .bool true) ∧
                  (done 12 = true → σ 153 = .agg (ucs r)) ∧
                  (done 13 = true → σ 154 = .slice (some ⟨b0, o0, none⟩) n c) ∧
                  (done 14 = true → σ 155 = .agg (ucs r)) ∧
                  (done 15 = true → σ 156 = .bool true) ∧
                  (done 16 = true → σ 157 = .bool true) ∧
                  (done 17 = true → σ 158 = .bool true) ∧
                  (done 18 = true → σ 159 = .pointer (some ⟨g, 0, none⟩)) ∧
                  (done 19 = true → σ 160 = .int .i64 (n : Int)) ∧
                  (done 20 = true → σ 161 = .slice (some ⟨b0, o0, none⟩) n c) ∧
                  (done 21 = true → σ 162 = .int .i64 (n : Int)) ∧
                  (done 22 = true → σ 163 = .bool true) ∧
                  (done 23 = true → σ 164 = .bool true) ∧
                  (done 24 = true → σ 165 = .bool true) ∧
                  (done 25 = true → σ 166 = .bool true) ∧
                  (done 26 = true → σ 167 = .bool true) ∧
                  (done 27 = true → StoR w.heap.size wk w')) (by kernel_rfl) (by kernel_rfl) ?_ ?_ ?_
                · simp
                  exact Below.drew (Below.refl _ _)
                · refine ⟨fun done σ w' a hi hA hC ha hσ ⟨hR, r0, r1, r2, r3, r4, r5, r6, r7, r8, r9, r10, r11, r12, r13, r14, r15, r16, r17, r18, r19, r20, r21, r22, r23, r24, r25, r26, r27⟩ => ?_, ?_⟩
                  · have e0 := hσ 5 (by simp)
                    simp only [List.getElem?_toArray] at e0
                    refine stepG_plain rfl fun K hK => ?_
                    go_simp
                    refine hK _ _ ?_
                    simp [mk, up]
                    exact ⟨hR, r1, r2, r3, r4, r5, r6, r7, r8, r9, r10, r11, r12, r13, r14, r15, r16, r17, r18, r19, r20, r21, r22, r23, r24, r25, r26, r27⟩
                  refine ⟨fun done σ w' a hi hA hC ha hσ ⟨hR, r0, r1, r2, r3, r4, r5, r6, r7, r8, r9, r10, r11, r12, r13, r14, r15, r16, r17, r18, r19, r20, r21, r22, r23, r24, r25, r26, r27⟩ => ?_, ?_⟩
                  · simp [After, Region.binds] at hA
                    have e0 := r0 (by first | exact hA | exact hA.1 | exact hA.2 | exact hA.2.1 | exact hA.2.2 | exact hA.2.2.1 | exact hA.2.2.2 | exact hA.2.2.2.1 | exact hA.2.2.2.2 | exact hA.2.2.2.2.1 | exact hA.2.2.2.2.2 | exact hA.2.2.2.2.2.1 | exact hA.2.2.2.2.2.2 | exact hA.2.2.2.2.2.2.1 | exact hA.2.2.2.2.2.2.2 | exact hA.2.2.2.2.2.2.2.1 | exact hA.2.2.2.2.2.2.2.2 | exact hA.2.2.2.2.2.2.2.2.1 | exact hA.2.2.2.2.2.2.2.2.2)
                    refine stepG_plain rfl fun K hK => ?_
                    go_simp
                    refine (num_any w' 0).mono ?_
                    rintro e w2 ⟨rfl, rfl⟩
                    refine hK _ _ ?_
                    simp [mk, up]
                    exact ⟨hR, r0, r2, r3, r4, r5, r6, r7, r8, r9, r10, r11, r12, r13, r14, r15, r16, r17, r18, r19, r20, r21, r22, r23, r24, r25, r26, r27⟩
                  refine ⟨fun done σ w' a hi hA hC ha hσ ⟨hR, r0, r1, r2, r3, r4, r5, r6, r7, r8, r9, r10, r11, r12, r13, r14, r15, r16, r17, r18, r19, r20, r21, r22, r23, r24, r25, r26, r27⟩ => ?_, ?_⟩
                  · have e0 := hσ 15 (by simp)
                    simp only [List.getElem?_toArray] at e0
                    refine stepG_plain rfl fun K hK => ?_
                    go_simp
                    refine hK _ _ ?_
                    simp [mk, up]
                    exact ⟨hR, r0, r1, r3, r4, r5, r6, r7, r8, r9, r10, r11, r12, r13, r14, r15, r16, r17, r18, r19, r20, r21, r22, r23, r24, r25, r26, r27⟩
                  refine ⟨fun done σ w' a hi hA hC ha hσ ⟨hR, r0, r1, r2, r3, r4, r5, r6, r7, r8, r9, r10, r11, r12, r13, r14, r15, r16, r17, r18, r19, r20, r21, r22, r23, r24, r25, r26, r27⟩ => ?_, ?_⟩
                  · simp [After, Region.binds] at hA
                    have e0 := r2 (by first | exact hA | exact hA.1 | exact hA.2 | exact hA.2.1 | exact hA.2.2 | exact hA.2.2.1 | exact hA.2.2.2 | exact hA.2.2.2.1 | exact hA.2.2.2.2 | exact hA.2.2.2.2.1 | exact hA.2.2.2.2.2 | exact hA.2.2.2.2.2.1 | exact hA.2.2.2.2.2.2 | exact hA.2.2.2.2.2.2.1 | exact hA.2.2.2.2.2.2.2 | exact hA.2.2.2.2.2.2.2.1 | exact hA.2.2.2.2.2.2.2.2 | exact hA.2.2.2.2.2.2.2.2.1 | exact hA.2.2.2.2.2.2.2.2.2)
                    refine stepG_plain rfl fun K hK => ?_
                    go_simp
                    refine (num_any w' 0).mono ?_
                    rintro e w2 ⟨rfl, rfl⟩
                    refine hK _ _ ?_
                    simp [mk, up]
                    exact ⟨hR, r0, r1, r2, r4, r5, r6, r7, r8, r9, r10, r11, r12, r13, r14, r15, r16, r17, r18, r19, r20, r21, r22, r23, r24, r25, r26, r27⟩
                  refine ⟨fun done σ w' a hi hA hC ha hσ ⟨hR, r0, r1, r2, r3, r4, r5, r6, r7, r8, r9, r10, r11, r12, r13, r14, r15, r16, r17, r18, r19, r20, r21, r22, r23, r24, r25, r26, r27⟩ => ?_, ?_⟩
                  · simp [After, Region.binds] at hA
                    have e0 := r1 (by first | exact hA | exact hA.1 | exact hA.2 | exact hA.2.1 | exact hA.2.2 | exact hA.2.2.1 | exact hA.2.2.2 | exact hA.2.2.2.1 | exact hA.2.2.2.2 | exact hA.2.2.2.2.1 | exact hA.2.2.2.2.2 | exact hA.2.2.2.2.2.1 | exact hA.2.2.2.2.2.2 | exact hA.2.2.2.2.2.2.1 | exact hA.2.2.2.2.2.2.2 | exact hA.2.2.2.2.2.2.2.1 | exact hA.2.2.2.2.2.2.2.2 | exact hA.2.2.2.2.2.2.2.2.1 | exact hA.2.2.2.2.2.2.2.2.2)
                    have e1 := r3 (by first | exact hA | exact hA.1 | exact hA.2 | exact hA.2.1 | exact hA.2.2 | exact hA.2.2.1 | exact hA.2.2.2 | exact hA.2.2.2.1 | exact hA.2.2.2.2 | exact hA.2.2.2.2.1 | exact hA.2.2.2.2.2 | exact hA.2.2.2.2.2.1 | exact hA.2.2.2.2.2.2 | exact hA.2.2.2.2.2.2.1 | exact hA.2.2.2.2.2.2.2 | exact hA.2.2.2.2.2.2.2.1 | exact hA.2.2.2.2.2.2.2.2 | exact hA.2.2.2.2.2.2.2.2.1 | exact hA.2.2.2.2.2.2.2.2.2)
                    refine stepG_plain rfl fun K hK => ?_
                    go_simp
                    refine hK _ _ ?_
                    simp [mk, up]
                    exact ⟨hR, r0, r1, r2, r3, r5, r6, r7, r8, r9, r10, r11, r12, r13, r14, r15, r16, r17, r18, r19, r20, r21, r22, r23, r24, r25, r26, r27⟩
                  refine ⟨fun done σ w' a hi hA hC ha hσ ⟨hR, r0, r1, r2, r3, r4, r5, r6, r7, r8, r9, r10, r11, r12, r13, r14, r15, r16, r17, r18, r19, r20, r21, r22, r23, r24, r25, r26, r27⟩ => ?_, ?_⟩
                  · simp [After, Region.binds] at hA
                    have e0 := r4 (by first | exact hA | exact hA.1 | exact hA.2 | exact hA.2.1 | exact hA.2.2 | exact hA.2.2.1 | exact hA.2.2.2 | exact hA.2.2.2.1 | exact hA.2.2.2.2 | exact hA.2.2.2.2.1 | exact hA.2.2.2.2.2 | exact hA.2.2.2.2.2.1 | exact hA.2.2.2.2.2.2 | exact hA.2.2.2.2.2.2.1 | exact hA.2.2.2.2.2.2.2 | exact hA.2.2.2.2.2.2.2.1 | exact hA.2.2.2.2.2.2.2.2 | exact hA.2.2.2.2.2.2.2.2.1 | exact hA.2.2.2.2.2.2.2.2.2)
                    refine stepG_plain rfl fun K hK => ?_
                    go_simp
                    refine hK _ _ ?_
                    simp [mk, up]
                    exact ⟨hR, r0, r1, r2, r3, r4, r6, r7, r8, r9, r10, r11, r12, r13, r14, r15, r16, r17, r18, r19, r20, r21, r22, r23, r24, r25, r26, r27⟩
                  refine ⟨fun done σ w' a hi hA hC ha hσ ⟨hR, r0, r1, r2, r3, r4, r5, r6, r7, r8, r9, r10, r11, r12, r13, r14, r15, r16, r17, r18, r19, r20, r21, r22, r23, r24, r25, r26, r27⟩ => ?_, ?_⟩
                  · simp [After, Region.binds] at hA
                    have e0 := r5 (by first | exact hA | exact hA.1 | exact hA.2 | exact hA.2.1 | exact hA.2.2 | exact hA.2.2.1 | exact hA.2.2.2 | exact hA.2.2.2.1 | exact hA.2.2.2.2 | exact hA.2.2.2.2.1 | exact hA.2.2.2.2.2 | exact hA.2.2.2.2.2.1 | exact hA.2.2.2.2.2.2 | exact hA.2.2.2.2.2.2.1 | exact hA.2.2.2.2.2.2.2 | exact hA.2.2.2.2.2.2.2.1 | exact hA.2.2.2.2.2.2.2.2 | exact hA.2.2.2.2.2.2.2.2.1 | exact hA.2.2.2.2.2.2.2.2.2)
                    refine stepG_plain rfl fun K hK => ?_
                    go_simp
                    refine hK _ _ ?_
                    simp [mk, up]
                    exact ⟨hR, r0, r1, r2, r3, r4, r5, r7, r8, r9, r10, r11, r12, r13, r14, r15, r16, r17, r18, r19, r20, r21, r22, r23, r24, r25, r26, r27⟩
                  refine ⟨fun done σ w' a hi hA hC ha hσ ⟨hR, r0, r1, r2, r3, r4, r5, r6, r7, r8, r9, r10, r11, r12, r13, r14, r15, r16, r17, r18, r19, r20, r21, r22, r23, r24, r25, r26, r27⟩ => ?_, ?_⟩
                  · simp [After, Region.binds] at hA
                    have e0 := hσ 20 (by simp)
                    simp only [List.getElem?_toArray] at e0
                    refine stepG_on 6 147 rfl rfl (r6 (by first | exact hA | exact hA.1 | exact hA.2 | exact hA.2.1 | exact hA.2.2 | exact hA.2.2.1 | exact hA.2.2.2 | exact hA.2.2.2.1 | exact hA.2.2.2.2 | exact hA.2.2.2.2.1 | exact hA.2.2.2.2.2 | exact hA.2.2.2.2.2.1 | exact hA.2.2.2.2.2.2 | exact hA.2.2.2.2.2.2.1 | exact hA.2.2.2.2.2.2.2 | exact hA.2.2.2.2.2.2.2.1 | exact hA.2.2.2.2.2.2.2.2 | exact hA.2.2.2.2.2.2.2.2.1 | exact hA.2.2.2.2.2.2.2.2.2)) ha fun K hK => ?_
                    go_simp
                    refine hK _ _ ?_
                    simp [mk, up]
                    exact ⟨hR, r0, r1, r2, r3, r4, r5, r6, r8, r9, r10, r11, r12, r13, r14, r15, r16, r17, r18, r19, r20, r21, r22, r23, r24, r25, r26, r27⟩
                  refine ⟨fun done σ w' a hi hA hC ha hσ ⟨hR, r0, r1, r2, r3, r4, r5, r6, r7, r8, r9, r10, r11, r12, r13, r14, r15, r16, r17, r18, r19, r20, r21, r22, r23, r24, r25, r26, r27⟩ => ?_, ?_⟩
                  · simp [After, Region.binds] at hA
                    have e0 := r7 (by first | exact hA | exact hA.1 | exact hA.2 | exact hA.2.1 | exact hA.2.2 | exact hA.2.2.1 | exact hA.2.2.2 | exact hA.2.2.2.1 | exact hA.2.2.2.2 | exact hA.2.2.2.2.1 | exact hA.2.2.2.2.2 | exact hA.2.2.2.2.2.1 | exact hA.2.2.2.2.2.2 | exact hA.2.2.2.2.2.2.1 | exact hA.2.2.2.2.2.2.2 | exact hA.2.2.2.2.2.2.2.1 | exact hA.2.2.2.2.2.2.2.2 | exact hA.2.2.2.2.2.2.2.2.1 | exact hA.2.2.2.2.2.2.2.2.2)
                    refine stepG_on 6 147 rfl rfl (r6 (by first | exact hA | exact hA.1 | exact hA.2 | exact hA.2.1 | exact hA.2.2 | exact hA.2.2.1 | exact hA.2.2.2 | exact hA.2.2.2.1 | exact hA.2.2.2.2 | exact hA.2.2.2.2.1 | exact hA.2.2.2.2.2 | exact hA.2.2.2.2.2.1 | exact hA.2.2.2.2.2.2 | exact hA.2.2.2.2.2.2.1 | exact hA.2.2.2.2.2.2.2 | exact hA.2.2.2.2.2.2.2.1 | exact hA.2.2.2.2.2.2.2.2 | exact hA.2.2.2.2.2.2.2.2.1 | exact hA.2.2.2.2.2.2.2.2.2)) ha fun K hK => ?_
                    go_simp
                    refine (num_any w' 4).mono ?_
                    rintro e w2 ⟨rfl, rfl⟩
                    refine hK _ _ ?_
                    simp [mk, up]
                    exact ⟨hR, r0, r1, r2, r3, r4, r5, r6, r7, r9, r10, r11, r12, r13, r14, r15, r16, r17, r18, r19, r20, r21, r22, r23, r24, r25, r26, r27⟩
                  refine ⟨fun done σ w' a hi hA hC ha hσ ⟨hR, r0, r1, r2, r3, r4, r5, r6, r7, r8, r9, r10, r11, r12, r13, r14, r15, r16, r17, r18, r19, r20, r21, r22, r23, r24, r25, r26, r27⟩ => ?_, ?_⟩
                  · simp [After, Region.binds] at hA
                    have e0 := r8 (by first | exact hA | exact hA.1 | exact hA.2 | exact hA.2.1 | exact hA.2.2 | exact hA.2.2.1 | exact hA.2.2.2 | exact hA.2.2.2.1 | exact hA.2.2.2.2 | exact hA.2.2.2.2.1 | exact hA.2.2.2.2.2 | exact hA.2.2.2.2.2.1 | exact hA.2.2.2.2.2.2 | exact hA.2.2.2.2.2.2.1 | exact hA.2.2.2.2.2.2.2 | exact hA.2.2.2.2.2.2.2.1 | exact hA.2.2.2.2.2.2.2.2 | exact hA.2.2.2.2.2.2.2.2.1 | exact hA.2.2.2.2.2.2.2.2.2)
                    refine stepG_on 6 147 rfl rfl (r6 (by first | exact hA | exact hA.1 | exact hA.2 | exact hA.2.1 | exact hA.2.2 | exact hA.2.2.1 | exact hA.2.2.2 | exact hA.2.2.2.1 | exact hA.2.2.2.2 | exact hA.2.2.2.2.1 | exact hA.2.2.2.2.2 | exact hA.2.2.2.2.2.1 | exact hA.2.2.2.2.2.2 | exact hA.2.2.2.2.2.2.1 | exact hA.2.2.2.2.2.2.2 | exact hA.2.2.2.2.2.2.2.1 | exact hA.2.2.2.2.2.2.2.2 | exact hA.2.2.2.2.2.2.2.2.1 | exact hA.2.2.2.2.2.2.2.2.2)) ha fun K hK => ?_
                    go_simp
                    refine hK _ _ ?_
                    simp [mk, up]
                    exact ⟨hR, r0, r1, r2, r3, r4, r5, r6, r7, r8, r10, r11, r12, r13, r14, r15, r16, r17, r18, r19, r20, r21, r22, r23, r24, r25, r26, r27⟩
                  refine ⟨fun done σ w' a hi hA hC ha hσ ⟨hR, r0, r1, r2, r3, r4, r5, r6, r7, r8, r9, r10, r11, r12, r13, r14, r15, r16, r17, r18, r19, r20, r21, r22, r23, r24, r25, r26, r27⟩ => ?_, ?_⟩
                  · simp [After, Region.binds] at hA
                    have e0 := r6 (by first | exact hA | exact hA.1 | exact hA.2 | exact hA.2.1 | exact hA.2.2 | exact hA.2.2.1 | exact hA.2.2.2 | exact hA.2.2.2.1 | exact hA.2.2.2.2 | exact hA.2.2.2.2.1 | exact hA.2.2.2.2.2 | exact hA.2.2.2.2.2.1 | exact hA.2.2.2.2.2.2 | exact hA.2.2.2.2.2.2.1 | exact hA.2.2.2.2.2.2.2 | exact hA.2.2.2.2.2.2.2.1 | exact hA.2.2.2.2.2.2.2.2 | exact hA.2.2.2.2.2.2.2.2.1 | exact hA.2.2.2.2.2.2.2.2.2)
                    have e1 := r9 (by first | exact hA | exact hA.1 | exact hA.2 | exact hA.2.1 | exact hA.2.2 | exact hA.2.2.1 | exact hA.2.2.2 | exact hA.2.2.2.1 | exact hA.2.2.2.2 | exact hA.2.2.2.2.1 | exact hA.2.2.2.2.2 | exact hA.2.2.2.2.2.1 | exact hA.2.2.2.2.2.2 | exact hA.2.2.2.2.2.2.1 | exact hA.2.2.2.2.2.2.2 | exact hA.2.2.2.2.2.2.2.1 | exact hA.2.2.2.2.2.2.2.2 | exact hA.2.2.2.2.2.2.2.2.1 | exact hA.2.2.2.2.2.2.2.2.2)
                    refine stepG_plain rfl fun K hK => ?_
                    go_simp
                    refine hK _ _ ?_
                    simp [mk, up]
                    exact ⟨hR, r0, r1, r2, r3, r4, r5, r6, r7, r8, r9, r11, r12, r13, r14, r15, r16, r17, r18, r19, r20, r21, r22, r23, r24, r25, r26, r27⟩
                  refine ⟨fun done σ w' a hi hA hC ha hσ ⟨hR, r0, r1, r2, r3, r4, r5, r6, r7, r8, r9, r10, r11, r12, r13, r14, r15, r16, r17, r18, r19, r20, r21, r22, r23, r24, r25, r26, r27⟩ => ?_, ?_⟩
                  · simp [After, Region.binds] at hA
                    have e0 := r10 (by first | exact hA | exact hA.1 | exact hA.2 | exact hA.2.1 | exact hA.2.2 | exact hA.2.2.1 | exact hA.2.2.2 | exact hA.2.2.2.1 | exact hA.2.2.2.2 | exact hA.2.2.2.2.1 | exact hA.2.2.2.2.2 | exact hA.2.2.2.2.2.1 | exact hA.2.2.2.2.2.2 | exact hA.2.2.2.2.2.2.1 | exact hA.2.2.2.2.2.2.2 | exact hA.2.2.2.2.2.2.2.1 | exact hA.2.2.2.2.2.2.2.2 | exact hA.2.2.2.2.2.2.2.2.1 | exact hA.2.2.2.2.2.2.2.2.2)
                    refine stepG_plain rfl fun K hK => ?_
                    go_simp
                    refine hK _ _ ?_
                    simp [mk, up]
                    exact ⟨hR, r0, r1, r2, r3, r4, r5, r6, r7, r8, r9, r10, r12, r13, r14, r15, r16, r17, r18, r19, r20, r21, r22, r23, r24, r25, r26, r27⟩
                  refine ⟨fun done σ w' a hi hA hC ha hσ ⟨hR, r0, r1, r2, r3, r4, r5, r6, r7, r8, r9, r10, r11, r12, r13, r14, r15, r16, r17, r18, r19, r20, r21, r22, r23, r24, r25, r26, r27⟩ => ?_, ?_⟩
                  · simp [After, Region.binds] at hA
                    have e0 := hσ 14 (by simp)
                    simp only [List.getElem?_toArray] at e0
                    have d27 := hC.at 12 27 _ rfl hi rfl
                    have e9 := (sub_of_heap ((hR d27).block _ t1)).trans hx1
                    refine stepG_on 11 152 rfl rfl (r11 (by first | exact hA | exact hA.1 | exact hA.2 | exact hA.2.1 | exact hA.2.2 | exact hA.2.2.1 | exact hA.2.2.2 | exact hA.2.2.2.1 | exact hA.2.2.2.2 | exact hA.2.2.2.2.1 | exact hA.2.2.2.2.2 | exact hA.2.2.2.2.2.1 | exact hA.2.2.2.2.2.2 | exact hA.2.2.2.2.2.2.1 | exact hA.2.2.2.2.2.2.2 | exact hA.2.2.2.2.2.2.2.1 | exact hA.2.2.2.2.2.2.2.2 | exact hA.2.2.2.2.2.2.2.2.1 | exact hA.2.2.2.2.2.2.2.2.2)) ha fun K hK => ?_
                    go_simp
                    refine hK _ _ ?_
                    simp [mk, up]
                    exact ⟨hR, r0, r1, r2, r3, r4, r5, r6, r7, r8, r9, r10, r11, r13, r14, r15, r16, r17, r18, r19, r20, r21, r22, r23, r24, r25, r26, r27⟩
                  refine ⟨fun done σ w' a hi hA hC ha hσ ⟨hR, r0, r1, r2, r3, r4, r5, r6, r7, r8, r9, r10, r11, r12, r13, r14, r15, r16, r17, r18, r19, r20, r21, r22, r23, r24, r25, r26, r27⟩ => ?_, ?_⟩
                  · simp [After, Region.binds] at hA
                    have e0 := hσ 0 (by simp)
                    simp only [List.getElem?_toArray] at e0
                    refine stepG_on 11 152 rfl rfl (r11 (by first | exact hA | exact hA.1 | exact hA.2 | exact hA.2.1 | exact hA.2.2 | exact hA.2.2.1 | exact hA.2.2.2 | exact hA.2.2.2.1 | exact hA.2.2.2.2 | exact hA.2.2.2.2.1 | exact hA.2.2.2.2.2 | exact hA.2.2.2.2.2.1 | exact hA.2.2.2.2.2.2 | exact hA.2.2.2.2.2.2.1 | exact hA.2.2.2.2.2.2.2 | exact hA.2.2.2.2.2.2.2.1 | exact hA.2.2.2.2.2.2.2.2 | exact hA.2.2.2.2.2.2.2.2.1 | exact hA.2.2.2.2.2.2.2.2.2)) ha fun K hK => ?_
                    go_simp
                    refine hK _ _ ?_
                    simp [mk, up]
                    exact ⟨hR, r0, r1, r2, r3, r4, r5, r6, r7, r8, r9, r10, r11, r12, r14, r15, r16, r17, r18, r19, r20, r21, r22, r23, r24, r25, r26, r27⟩
                  refine ⟨fun done σ w' a hi hA hC ha hσ ⟨hR, r0, r1, r2, r3, r4, r5, r6, r7, r8, r9, r10, r11, r12, r13, r14, r15, r16, r17, r18, r19, r20, r21, r22, r23, r24, r25, r26, r27⟩ => ?_, ?_⟩
                  · simp [After, Region.binds] at hA
                    have e0 := r13 (by first | exact hA | exact hA.1 | exact hA.2 | exact hA.2.1 | exact hA.2.2 | exact hA.2.2.1 | exact hA.2.2.2 | exact hA.2.2.2.1 | exact hA.2.2.2.2 | exact hA.2.2.2.2.1 | exact hA.2.2.2.2.2 | exact hA.2.2.2.2.2.1 | exact hA.2.2.2.2.2.2 | exact hA.2.2.2.2.2.2.1 | exact hA.2.2.2.2.2.2.2 | exact hA.2.2.2.2.2.2.2.1 | exact hA.2.2.2.2.2.2.2.2 | exact hA.2.2.2.2.2.2.2.2.1 | exact hA.2.2.2.2.2.2.2.2.2)
                    have d27 := hC.at 14 27 _ rfl hi rfl
                    refine stepG_on 11 152 rfl rfl (r11 (by first | exact hA | exact hA.1 | exact hA.2 | exact hA.2.1 | exact hA.2.2 | exact hA.2.2.1 | exact hA.2.2.2 | exact hA.2.2.2.1 | exact hA.2.2.2.2 | exact hA.2.2.2.2.1 | exact hA.2.2.2.2.2 | exact hA.2.2.2.2.2.1 | exact hA.2.2.2.2.2.2 | exact hA.2.2.2.2.2.2.1 | exact hA.2.2.2.2.2.2.2 | exact hA.2.2.2.2.2.2.2.1 | exact hA.2.2.2.2.2.2.2.2 | exact hA.2.2.2.2.2.2.2.2.1 | exact hA.2.2.2.2.2.2.2.2.2)) ha fun K hK => ?_
                    go_simp
                    refine (HRR.out w' (HBK.out.trans ((hR d27).mono HBK.out.size))).mono ?_
                    rintro e w2 ⟨rfl, hb2⟩
                    refine hK _ _ ?_
                    simp [mk, up]
                    exact ⟨fun h => (hR h).trans (hb2.mono (hR h).size), r0, r1, r2, r3, r4, r5, r6, r7, r8, r9, r10, r11, r12, r13, r15, r16, r17, r18, r19, r20, r21, r22, r23, r24, r25, r26, (fun h => by rw [d27] at h; cases h)⟩
                  refine ⟨fun done σ w' a hi hA hC ha hσ ⟨hR, r0, r1, r2, r3, r4, r5, r6, r7, r8, r9, r10, r11, r12, r13, r14, r15, r16, r17, r18, r19, r20, r21, r22, r23, r24, r25, r26, r27⟩ => ?_, ?_⟩
                  · simp [After, Region.binds] at hA
                    have e0 := r12 (by first | exact hA | exact hA.1 | exact hA.2 | exact hA.2.1 | exact hA.2.2 | exact hA.2.2.1 | exact hA.2.2.2 | exact hA.2.2.2.1 | exact hA.2.2.2.2 | exact hA.2.2.2.2.1 | exact hA.2.2.2.2.2 | exact hA.2.2.2.2.2.1 | exact hA.2.2.2.2.2.2 | exact hA.2.2.2.2.2.2.1 | exact hA.2.2.2.2.2.2.2 | exact hA.2.2.2.2.2.2.2.1 | exact hA.2.2.2.2.2.2.2.2 | exact hA.2.2.2.2.2.2.2.2.1 | exact hA.2.2.2.2.2.2.2.2.2)
                    have e1 := r14 (by first | exact hA | exact hA.1 | exact hA.2 | exact hA.2.1 | exact hA.2.2 | exact hA.2.2.1 | exact hA.2.2.2 | exact hA.2.2.2.1 | exact hA.2.2.2.2 | exact hA.2.2.2.2.1 | exact hA.2.2.2.2.2 | exact hA.2.2.2.2.2.1 | exact hA.2.2.2.2.2.2 | exact hA.2.2.2.2.2.2.1 | exact hA.2.2.2.2.2.2.2 | exact hA.2.2.2.2.2.2.2.1 | exact hA.2.2.2.2.2.2.2.2 | exact hA.2.2.2.2.2.2.2.2.1 | exact hA.2.2.2.2.2.2.2.2.2)
                    have e9 := HQ.out w'
                    refine stepG_on 11 152 rfl rfl (r11 (by first | exact hA | exact hA.1 | exact hA.2 | exact hA.2.1 | exact hA.2.2 | exact hA.2.2.1 | exact hA.2.2.2 | exact hA.2.2.2.1 | exact hA.2.2.2.2 | exact hA.2.2.2.2.1 | exact hA.2.2.2.2.2 | exact hA.2.2.2.2.2.1 | exact hA.2.2.2.2.2.2 | exact hA.2.2.2.2.2.2.1 | exact hA.2.2.2.2.2.2.2 | exact hA.2.2.2.2.2.2.2.1 | exact hA.2.2.2.2.2.2.2.2 | exact hA.2.2.2.2.2.2.2.2.1 | exact hA.2.2.2.2.2.2.2.2.2)) ha fun K hK => ?_
                    go_simp
                    refine hK _ _ ?_
                    simp [mk, up]
                    exact ⟨hR, r0, r1, r2, r3, r4, r5, r6, r7, r8, r9, r10, r11, r12, r13, r14, r16, r17, r18, r19, r20, r21, r22, r23, r24, r25, r26, r27⟩
                  refine ⟨fun done σ w' a hi hA hC ha hσ ⟨hR, r0, r1, r2, r3, r4, r5, r6, r7, r8, r9, r10, r11, r12, r13, r14, r15, r16, r17, r18, r19, r20, r21, r22, r23, r24, r25, r26, r27⟩ => ?_, ?_⟩
                  · simp [After, Region.binds] at hA
                    have e0 := r11 (by first | exact hA | exact hA.1 | exact hA.2 | exact hA.2.1 | exact hA.2.2 | exact hA.2.2.1 | exact hA.2.2.2 | exact hA.2.2.2.1 | exact hA.2.2.2.2 | exact hA.2.2.2.2.1 | exact hA.2.2.2.2.2 | exact hA.2.2.2.2.2.1 | exact hA.2.2.2.2.2.2 | exact hA.2.2.2.2.2.2.1 | exact hA.2.2.2.2.2.2.2 | exact hA.2.2.2.2.2.2.2.1 | exact hA.2.2.2.2.2.2.2.2 | exact hA.2.2.2.2.2.2.2.2.1 | exact hA.2.2.2.2.2.2.2.2.2)
                    have e1 := r15 (by first | exact hA | exact hA.1 | exact hA.2 | exact hA.2.1 | exact hA.2.2 | exact hA.2.2.1 | exact hA.2.2.2 | exact hA.2.2.2.1 | exact hA.2.2.2.2 | exact hA.2.2.2.2.1 | exact hA.2.2.2.2.2 | exact hA.2.2.2.2.2.1 | exact hA.2.2.2.2.2.2 | exact hA.2.2.2.2.2.2.1 | exact hA.2.2.2.2.2.2.2 | exact hA.2.2.2.2.2.2.2.1 | exact hA.2.2.2.2.2.2.2.2 | exact hA.2.2.2.2.2.2.2.2.1 | exact hA.2.2.2.2.2.2.2.2.2)
                    refine stepG_plain rfl fun K hK => ?_
                    go_simp
                    refine hK _ _ ?_
                    simp [mk, up]
                    exact ⟨hR, r0, r1, r2, r3, r4, r5, r6, r7, r8, r9, r10, r11, r12, r13, r14, r15, r17, r18, r19, r20, r21, r22, r23, r24, r25, r26, r27⟩
                  refine ⟨fun done σ w' a hi hA hC ha hσ ⟨hR, r0, r1, r2, r3, r4, r5, r6, r7, r8, r9, r10, r11, r12, r13, r14, r15, r16, r17, r18, r19, r20, r21, r22, r23, r24, r25, r26, r27⟩ => ?_, ?_⟩
                  · simp [After, Region.binds] at hA
                    have e0 := r16 (by first | exact hA | exact hA.1 | exact hA.2 | exact hA.2.1 | exact hA.2.2 | exact hA.2.2.1 | exact hA.2.2.2 | exact hA.2.2.2.1 | exact hA.2.2.2.2 | exact hA.2.2.2.2.1 | exact hA.2.2.2.2.2 | exact hA.2.2.2.2.2.1 | exact hA.2.2.2.2.2.2 | exact hA.2.2.2.2.2.2.1 | exact hA.2.2.2.2.2.2.2 | exact hA.2.2.2.2.2.2.2.1 | exact hA.2.2.2.2.2.2.2.2 | exact hA.2.2.2.2.2.2.2.2.1 | exact hA.2.2.2.2.2.2.2.2.2)
                    refine stepG_plain rfl fun K hK => ?_
                    go_simp
                    refine hK _ _ ?_
                    simp [mk, up]
                    exact ⟨hR, r0, r1, r2, r3, r4, r5, r6, r7, r8, r9, r10, r11, r12, r13, r14, r15, r16, r18, r19, r20, r21, r22, r23, r24, r25, r26, r27⟩
                  refine ⟨fun done σ w' a hi hA hC ha hσ ⟨hR, r0, r1, r2, r3, r4, r5, r6, r7, r8, r9, r10, r11, r12, r13, r14, r15, r16, r17, r18, r19, r20, r21, r22, r23, r24, r25, r26, r27⟩ => ?_, ?_⟩
                  · simp [After, Region.binds] at hA
                    have e0 := hσ 4 (by simp)
                    simp only [List.getElem?_toArray] at e0
                    refine stepG_on 17 158 rfl rfl (r17 (by first | exact hA | exact hA.1 | exact hA.2 | exact hA.2.1 | exact hA.2.2 | exact hA.2.2.1 | exact hA.2.2.2 | exact hA.2.2.2.1 | exact hA.2.2.2.2 | exact hA.2.2.2.2.1 | exact hA.2.2.2.2.2 | exact hA.2.2.2.2.2.1 | exact hA.2.2.2.2.2.2 | exact hA.2.2.2.2.2.2.1 | exact hA.2.2.2.2.2.2.2 | exact hA.2.2.2.2.2.2.2.1 | exact hA.2.2.2.2.2.2.2.2 | exact hA.2.2.2.2.2.2.2.2.1 | exact hA.2.2.2.2.2.2.2.2.2)) ha fun K hK => ?_
                    go_simp
                    refine hK _ _ ?_
                    simp [mk, up]
                    exact ⟨hR, r0, r1, r2, r3, r4, r5, r6, r7, r8, r9, r10, r11, r12, r13, r14, r15, r16, r17, r19, r20, r21, r22, r23, r24, r25, r26, r27⟩
                  refine ⟨fun done σ w' a hi hA hC ha hσ ⟨hR, r0, r1, r2, r3, r4, r5, r6, r7, r8, r9, r10, r11, r12, r13, r14, r15, r16, r17, r18, r19, r20, r21, r22, r23, r24, r25, r26, r27⟩ => ?_, ?_⟩
                  · simp [After, Region.binds] at hA
                    have e0 := r18 (by first | exact hA | exact hA.1 | exact hA.2 | exact hA.2.1 | exact hA.2.2 | exact hA.2.2.1 | exact hA.2.2.2 | exact hA.2.2.2.1 | exact hA.2.2.2.2 | exact hA.2.2.2.2.1 | exact hA.2.2.2.2.2 | exact hA.2.2.2.2.2.1 | exact hA.2.2.2.2.2.2 | exact hA.2.2.2.2.2.2.1 | exact hA.2.2.2.2.2.2.2 | exact hA.2.2.2.2.2.2.2.1 | exact hA.2.2.2.2.2.2.2.2 | exact hA.2.2.2.2.2.2.2.2.1 | exact hA.2.2.2.2.2.2.2.2.2)
                    have d27 := hC.at 19 27 _ rfl hi rfl
                    refine stepG_on 17 158 rfl rfl (r17 (by first | exact hA | exact hA.1 | exact hA.2 | exact hA.2.1 | exact hA.2.2 | exact hA.2.2.1 | exact hA.2.2.2 | exact hA.2.2.2.1 | exact hA.2.2.2.2 | exact hA.2.2.2.2.1 | exact hA.2.2.2.2.2 | exact hA.2.2.2.2.2.1 | exact hA.2.2.2.2.2.2 | exact hA.2.2.2.2.2.2.1 | exact hA.2.2.2.2.2.2.2 | exact hA.2.2.2.2.2.2.2.1 | exact hA.2.2.2.2.2.2.2.2 | exact hA.2.2.2.2.2.2.2.2.1 | exact hA.2.2.2.2.2.2.2.2.2)) ha fun K hK => ?_
                    go_simp
                    refine (HLN.out w' (HBK.out.trans ((hR d27).mono HBK.out.size))).mono ?_
                    rintro e w2 ⟨rfl, rfl⟩
                    refine hK _ _ ?_
                    simp [mk, up]
                    exact ⟨hR, r0, r1, r2, r3, r4, r5, r6, r7, r8, r9, r10, r11, r12, r13, r14, r15, r16, r17, r18, r20, r21, r22, r23, r24, r25, r26, r27⟩
                  refine ⟨fun done σ w' a hi hA hC ha hσ ⟨hR, r0, r1, r2, r3, r4, r5, r6, r7, r8, r9, r10, r11, r12, r13, r14, r15, r16, r17, r18, r19, r20, r21, r22, r23, r24, r25, r26, r27⟩ => ?_, ?_⟩
                  · simp [After, Region.binds] at hA
                    have e0 := hσ 0 (by simp)
                    simp only [List.getElem?_toArray] at e0
                    refine stepG_on 17 158 rfl rfl (r17 (by first | exact hA | exact hA.1 | exact hA.2 | exact hA.2.1 | exact hA.2.2 | exact hA.2.2.1 | exact hA.2.2.2 | exact hA.2.2.2.1 | exact hA.2.2.2.2 | exact hA.2.2.2.2.1 | exact hA.2.2.2.2.2 | exact hA.2.2.2.2.2.1 | exact hA.2.2.2.2.2.2 | exact hA.2.2.2.2.2.2.1 | exact hA.2.2.2.2.2.2.2 | exact hA.2.2.2.2.2.2.2.1 | exact hA.2.2.2.2.2.2.2.2 | exact hA.2.2.2.2.2.2.2.2.1 | exact hA.2.2.2.2.2.2.2.2.2)) ha fun K hK => ?_
                    go_simp
                    refine hK _ _ ?_
                    simp [mk, up]
                    exact ⟨hR, r0, r1, r2, r3, r4, r5, r6, r7, r8, r9, r10, r11, r12, r13, r14, r15, r16, r17, r18, r19, r21, r22, r23, r24, r25, r26, r27⟩
                  refine ⟨fun done σ w' a hi hA hC ha hσ ⟨hR, r0, r1, r2, r3, r4, r5, r6, r7, r8, r9, r10, r11, r12, r13, r14, r15, r16, r17, r18, r19, r20, r21, r22, r23, r24, r25, r26, r27⟩ => ?_, ?_⟩
                  · simp [After, Region.binds] at hA
                    have e0 := r20 (by first | exact hA | exact hA.1 | exact hA.2 | exact hA.2.1 | exact hA.2.2 | exact hA.2.2.1 | exact hA.2.2.2 | exact hA.2.2.2.1 | exact hA.2.2.2.2 | exact hA.2.2.2.2.1 | exact hA.2.2.2.2.2 | exact hA.2.2.2.2.2.1 | exact hA.2.2.2.2.2.2 | exact hA.2.2.2.2.2.2.1 | exact hA.2.2.2.2.2.2.2 | exact hA.2.2.2.2.2.2.2.1 | exact hA.2.2.2.2.2.2.2.2 | exact hA.2.2.2.2.2.2.2.2.1 | exact hA.2.2.2.2.2.2.2.2.2)
                    refine stepG_on 17 158 rfl rfl (r17 (by first | exact hA | exact hA.1 | exact hA.2 | exact hA.2.1 | exact hA.2.2 | exact hA.2.2.1 | exact hA.2.2.2 | exact hA.2.2.2.1 | exact hA.2.2.2.2 | exact hA.2.2.2.2.1 | exact hA.2.2.2.2.2 | exact hA.2.2.2.2.2.1 | exact hA.2.2.2.2.2.2 | exact hA.2.2.2.2.2.2.1 | exact hA.2.2.2.2.2.2.2 | exact hA.2.2.2.2.2.2.2.1 | exact hA.2.2.2.2.2.2.2.2 | exact hA.2.2.2.2.2.2.2.2.1 | exact hA.2.2.2.2.2.2.2.2.2)) ha fun K hK => ?_
                    go_simp
                    refine hK _ _ ?_
                    simp [mk, up]
                    exact ⟨hR, r0, r1, r2, r3, r4, r5, r6, r7, r8, r9, r10, r11, r12, r13, r14, r15, r16, r17, r18, r19, r20, r22, r23, r24, r25, r26, r27⟩
                  refine ⟨fun done σ w' a hi hA hC ha hσ ⟨hR, r0, r1, r2, r3, r4, r5, r6, r7, r8, r9, r10, r11, r12, r13, r14, r15, r16, r17, r18, r19, r20, r21, r22, r23, r24, r25, r26, r27⟩ => ?_, ?_⟩
                  · simp [After, Region.binds] at hA
                    have e0 := r19 (by first | exact hA | exact hA.1 | exact hA.2 | exact hA.2.1 | exact hA.2.2 | exact hA.2.2.1 | exact hA.2.2.2 | exact hA.2.2.2.1 | exact hA.2.2.2.2 | exact hA.2.2.2.2.1 | exact hA.2.2.2.2.2 | exact hA.2.2.2.2.2.1 | exact hA.2.2.2.2.2.2 | exact hA.2.2.2.2.2.2.1 | exact hA.2.2.2.2.2.2.2 | exact hA.2.2.2.2.2.2.2.1 | exact hA.2.2.2.2.2.2.2.2 | exact hA.2.2.2.2.2.2.2.2.1 | exact hA.2.2.2.2.2.2.2.2.2)
                    have e1 := r21 (by first | exact hA | exact hA.1 | exact hA.2 | exact hA.2.1 | exact hA.2.2 | exact hA.2.2.1 | exact hA.2.2.2 | exact hA.2.2.2.1 | exact hA.2.2.2.2 | exact hA.2.2.2.2.1 | exact hA.2.2.2.2.2 | exact hA.2.2.2.2.2.1 | exact hA.2.2.2.2.2.2 | exact hA.2.2.2.2.2.2.1 | exact hA.2.2.2.2.2.2.2 | exact hA.2.2.2.2.2.2.2.1 | exact hA.2.2.2.2.2.2.2.2 | exact hA.2.2.2.2.2.2.2.2.1 | exact hA.2.2.2.2.2.2.2.2.2)
                    refine stepG_on 17 158 rfl rfl (r17 (by first | exact hA | exact hA.1 | exact hA.2 | exact hA.2.1 | exact hA.2.2 | exact hA.2.2.1 | exact hA.2.2.2 | exact hA.2.2.2.1 | exact hA.2.2.2.2 | exact hA.2.2.2.2.1 | exact hA.2.2.2.2.2 | exact hA.2.2.2.2.2.1 | exact hA.2.2.2.2.2.2 | exact hA.2.2.2.2.2.2.1 | exact hA.2.2.2.2.2.2.2 | exact hA.2.2.2.2.2.2.2.1 | exact hA.2.2.2.2.2.2.2.2 | exact hA.2.2.2.2.2.2.2.2.1 | exact hA.2.2.2.2.2.2.2.2.2)) ha fun K hK => ?_
                    go_simp
                    refine hK _ _ ?_
                    simp [mk, up]
                    exact ⟨hR, r0, r1, r2, r3, r4, r5, r6, r7, r8, r9, r10, r11, r12, r13, r14, r15, r16, r17, r18, r19, r20, r21, r23, r24, r25, r26, r27⟩
                  refine ⟨fun done σ w' a hi hA hC ha hσ ⟨hR, r0, r1, r2, r3, r4, r5, r6, r7, r8, r9, r10, r11, r12, r13, r14, r15, r16, r17, r18, r19, r20, r21, r22, r23, r24, r25, r26, r27⟩ => ?_, ?_⟩
                  · simp [After, Region.binds] at hA
                    have e0 := r17 (by first | exact hA | exact hA.1 | exact hA.2 | exact hA.2.1 | exact hA.2.2 | exact hA.2.2.1 | exact hA.2.2.2 | exact hA.2.2.2.1 | exact hA.2.2.2.2 | exact hA.2.2.2.2.1 | exact hA.2.2.2.2.2 | exact hA.2.2.2.2.2.1 | exact hA.2.2.2.2.2.2 | exact hA.2.2.2.2.2.2.1 | exact hA.2.2.2.2.2.2.2 | exact hA.2.2.2.2.2.2.2.1 | exact hA.2.2.2.2.2.2.2.2 | exact hA.2.2.2.2.2.2.2.2.1 | exact hA.2.2.2.2.2.2.2.2.2)
                    have e1 := r22 (by first | exact hA | exact hA.1 | exact hA.2 | exact hA.2.1 | exact hA.2.2 | exact hA.2.2.1 | exact hA.2.2.2 | exact hA.2.2.2.1 | exact hA.2.2.2.2 | exact hA.2.2.2.2.1 | exact hA.2.2.2.2.2 | exact hA.2.2.2.2.2.1 | exact hA.2.2.2.2.2.2 | exact hA.2.2.2.2.2.2.1 | exact hA.2.2.2.2.2.2.2 | exact hA.2.2.2.2.2.2.2.1 | exact hA.2.2.2.2.2.2.2.2 | exact hA.2.2.2.2.2.2.2.2.1 | exact hA.2.2.2.2.2.2.2.2.2)
                    refine stepG_plain rfl fun K hK => ?_
                    go_simp
                    refine hK _ _ ?_
                    simp [mk, up]
                    exact ⟨hR, r0, r1, r2, r3, r4, r5, r6, r7, r8, r9, r10, r11, r12, r13, r14, r15, r16, r17, r18, r19, r20, r21, r22, r24, r25, r26, r27⟩
                  refine ⟨fun done σ w' a hi hA hC ha hσ ⟨hR, r0, r1, r2, r3, r4, r5, r6, r7, r8, r9, r10, r11, r12, r13, r14, r15, r16, r17, r18, r19, r20, r21, r22, r23, r24, r25, r26, r27⟩ => ?_, ?_⟩
                  · simp [After, Region.binds] at hA
                    have e0 := r23 (by first | exact hA | exact hA.1 | exact hA.2 | exact hA.2.1 | exact hA.2.2 | exact hA.2.2.1 | exact hA.2.2.2 | exact hA.2.2.2.1 | exact hA.2.2.2.2 | exact hA.2.2.2.2.1 | exact hA.2.2.2.2.2 | exact hA.2.2.2.2.2.1 | exact hA.2.2.2.2.2.2 | exact hA.2.2.2.2.2.2.1 | exact hA.2.2.2.2.2.2.2 | exact hA.2.2.2.2.2.2.2.1 | exact hA.2.2.2.2.2.2.2.2 | exact hA.2.2.2.2.2.2.2.2.1 | exact hA.2.2.2.2.2.2.2.2.2)
                    refine stepG_plain rfl fun K hK => ?_
                    go_simp
                    refine hK _ _ ?_
                    simp [mk, up]
                    exact ⟨hR, r0, r1, r2, r3, r4, r5, r6, r7, r8, r9, r10, r11, r12, r13, r14, r15, r16, r17, r18, r19, r20, r21, r22, r23, r25, r26, r27⟩
                  refine ⟨fun done σ w' a hi hA hC ha hσ ⟨hR, r0, r1, r2, r3, r4, r5, r6, r7, r8, r9, r10, r11, r12, r13, r14, r15, r16, r17, r18, r19, r20, r21, r22, r23, r24, r25, r26, r27⟩ => ?_, ?_⟩
                  · simp [After, Region.binds] at hA
                    have d27 := hC.at 25 27 _ rfl hi rfl
                    refine stepG_on 24 165 rfl rfl (r24 (by first | exact hA | exact hA.1 | exact hA.2 | exact hA.2.1 | exact hA.2.2 | exact hA.2.2.1 | exact hA.2.2.2 | exact hA.2.2.2.1 | exact hA.2.2.2.2 | exact hA.2.2.2.2.1 | exact hA.2.2.2.2.2 | exact hA.2.2.2.2.2.1 | exact hA.2.2.2.2.2.2 | exact hA.2.2.2.2.2.2.1 | exact hA.2.2.2.2.2.2.2 | exact hA.2.2.2.2.2.2.2.1 | exact hA.2.2.2.2.2.2.2.2 | exact hA.2.2.2.2.2.2.2.2.1 | exact hA.2.2.2.2.2.2.2.2.2)) ha fun K hK => ?_
                    go_simp
                    refine (works_any w').mono ?_
                    rintro e w2 ⟨rfl, hb2⟩
                    refine hK _ _ ?_
                    simp [mk, up]
                    exact ⟨fun h => (hR h).trans (hb2.mono (hR h).size), r0, r1, r2, r3, r4, r5, r6, r7, r8, r9, r10, r11, r12, r13, r14, r15, r16, r17, r18, r19, r20, r21, r22, r23, r24, r26, (fun h => by rw [d27] at h; cases h)⟩
                  refine ⟨fun done σ w' a hi hA hC ha hσ ⟨hR, r0, r1, r2, r3, r4, r5, r6, r7, r8, r9, r10, r11, r12, r13, r14, r15, r16, r17, r18, r19, r20, r21, r22, r23, r24, r25, r26, r27⟩ => ?_, ?_⟩
                  · simp [After, Region.binds] at hA
                    have e0 := r24 (by first | exact hA | exact hA.1 | exact hA.2 | exact hA.2.1 | exact hA.2.2 | exact hA.2.2.1 | exact hA.2.2.2 | exact hA.2.2.2.1 | exact hA.2.2.2.2 | exact hA.2.2.2.2.1 | exact hA.2.2.2.2.2 | exact hA.2.2.2.2.2.1 | exact hA.2.2.2.2.2.2 | exact hA.2.2.2.2.2.2.1 | exact hA.2.2.2.2.2.2.2 | exact hA.2.2.2.2.2.2.2.1 | exact hA.2.2.2.2.2.2.2.2 | exact hA.2.2.2.2.2.2.2.2.1 | exact hA.2.2.2.2.2.2.2.2.2)
                    have e1 := r25 (by first | exact hA | exact hA.1 | exact hA.2 | exact hA.2.1 | exact hA.2.2 | exact hA.2.2.1 | exact hA.2.2.2 | exact hA.2.2.2.1 | exact hA.2.2.2.2 | exact hA.2.2.2.2.1 | exact hA.2.2.2.2.2 | exact hA.2.2.2.2.2.1 | exact hA.2.2.2.2.2.2 | exact hA.2.2.2.2.2.2.1 | exact hA.2.2.2.2.2.2.2 | exact hA.2.2.2.2.2.2.2.1 | exact hA.2.2.2.2.2.2.2.2 | exact hA.2.2.2.2.2.2.2.2.1 | exact hA.2.2.2.2.2.2.2.2.2)
                    refine stepG_plain rfl fun K hK => ?_
                    go_simp
                    refine hK _ _ ?_
                    simp [mk, up]
                    exact ⟨hR, r0, r1, r2, r3, r4, r5, r6, r7, r8, r9, r10, r11, r12, r13, r14, r15, r16, r17, r18, r19, r20, r21, r22, r23, r24, r25, r27⟩
                  refine ⟨fun done σ w' a hi hA hC ha hσ ⟨hR, r0, r1, r2, r3, r4, r5, r6, r7, r8, r9, r10, r11, r12, r13, r14, r15, r16, r17, r18, r19, r20, r21, r22, r23, r24, r25, r26, r27⟩ => ?_, trivial⟩
                  · simp [After, Region.binds] at hA
                    have e0 := hσ 2 (by simp)
                    simp only [List.getElem?_toArray] at e0
                    have e1 := r26 (by first | exact hA | exact hA.1 | exact hA.2 | exact hA.2.1 | exact hA.2.2 | exact hA.2.2.1 | exact hA.2.2.2 | exact hA.2.2.2.1 | exact hA.2.2.2.2 | exact hA.2.2.2.2.1 | exact hA.2.2.2.2.2 | exact hA.2.2.2.2.2.1 | exact hA.2.2.2.2.2.2 | exact hA.2.2.2.2.2.2.1 | exact hA.2.2.2.2.2.2.2 | exact hA.2.2.2.2.2.2.2.1 | exact hA.2.2.2.2.2.2.2.2 | exact hA.2.2.2.2.2.2.2.2.1 | exact hA.2.2.2.2.2.2.2.2.2)
                    have e8 := ((hR hi).cell (p := ⟨w.heap.size, 0, none⟩) hlk).trans hck
                    have e9 := ((hR hi).frozen (p := ⟨w.heap.size, 0, none⟩) hlk).trans hfk
                    refine stepG_plain rfl fun K hK => ?_
                    go_simp
                    refine hK undef _ ?_
                    simp [mk, up_none]
                    exact ⟨r0, r1, r2, r3, r4, r5, r6, r7, r8, r9, r10, r11, r12, r13, r14, r15, r16, r17, r18, r19, r20, r21, r22, r23, r24, r25, r26, ⟨w', hR hi, rfl⟩⟩
                · rintro done σ w' hall hσ ⟨hR, r0, r1, r2, r3, r4, r5, r6, r7, r8, r9, r10, r11, r12, r13, r14, r15, r16, r17, r18, r19, r20, r21, r22, r23, r24, r25, r26, r27⟩
                  obtain ⟨w9, hb9, rfl⟩ := r27 (hall 27 (by simp))
                  simp only [putF, List.foldl_cons, List.foldl_nil, Act.put, List.setIfInBounds_toArray, List.set_cons_succ, List.set_cons_zero]
                  clear hσ r0 r1 r2 r3 r4 r5 r6 r7 r8 r9 r10 r11 r12 r13 r14 r15 r16 r17 r18 r19 r20 r21 r22 r23 r24 r25 r26 r27 hall hR
                  have HB9 := hd (HBK.out.trans (hb9.mono HBK.out.size))
                  clear hb9
                  go_wp2_with fail
                  obtain ⟨k1, k2, k3⟩ := fin_cell HBW.out HXW.out HK.out HB9.out (show w.heap.size < D by omega)
                  refine ⟨by simp, .inl ⟨_, _, rfl, run_takeDeferred k1, ?_⟩⟩
                  exact ⟨_, ret_cell rfl (by kernel_rfl) _ _ w.heap.size (.bool true) rfl k2, rfl, k3⟩

theorem lroots_any (w : World) (A : Option Addr) (n c : Nat) (ds : List Dg) (hs : SlD w (.slice A n c) ds n) :
    Calls Try.prog 12 #[.slice A n c] w fun e w' => e = .returned (.bool true) ∧ Below w.heap.size w w' := by
  by_cases h : 40 < n
  · exact lroots_long w A n c h
  · exact lroots_main w A n c ds hs (by omega)

end Go.Proofs.Ytjfplkndngmgdaa
