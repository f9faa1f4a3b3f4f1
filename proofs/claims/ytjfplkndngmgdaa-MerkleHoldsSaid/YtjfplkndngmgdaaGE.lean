/- The document's Rows. The document's Root and Same. The document's Path. The document's Up. The laws' num and works. How a digest that came in is opened; two facts on the program. How digests that came in are opened. A byte of a digest in a slice of one's own is stored. -/
import Derived.Test.YtjfplkndngmgdaaGD
import Derived.Deep.QuietTactic
import Derived.BigQuiet
import Derived.Test.YtjfplkndngmgdaaGA
import Derived.WalkKit
import Derived.ProofKit
import Derived.OpenShut
import Derived.ShutString
import Derived.ChangeOld
import Derived.WideKeyArr2
import Derived.Deep.Matrix
import Derived.Test.YtjfplkndngmgdaaGC
namespace Go.Proofs.Ytjfplkndngmgdaa
set_option maxRecDepth 20000
open Go.RowKit Go.Shelf Sp

attribute [local go_sem ↓] ldD stD
attribute [local go_sem] run_ldA run_stA arrD loadX_at loadY_some storeX_at storeY_true ucs_size ones_ucs sha_length
attribute [local go_sem] fold_fill

theorem infoS : (Try.prog.info? 30).map (fun i => (i.zero, i.size, i.bytes)) = some (some (.slice none 0 0), 1, 24) := by kernel_rfl
/-- Rows in the making. -/
def RInv (w : World) (B : Nat) (rv : Value) (ps : List (Value × List Dg)) : Prop :=
  w.ownsRow B 30 1 rv ps.length (ps.map (·.1)) ∧ ∀ p ∈ ps, SlD w p.1 p.2 p.2.length ∧ ∀ k, p.1.ownBlock = some k → B ≤ k ∧ k < w.heap.size ∧ rv.ownBlock ≠ some k
theorem RInv.below {w w' : World} {B : Nat} {rv : Value} {ps : List (Value × List Dg)} (h : RInv w B rv ps) (hb : Below w.heap.size w w') : RInv w' B rv ps :=
  ⟨own_below h.1 hb, fun p hp => ⟨(h.2 p hp).1.below hb, fun k hk => ⟨((h.2 p hp).2 k hk).1, Nat.lt_of_lt_of_le ((h.2 p hp).2 k hk).2.1 hb.size, ((h.2 p hp).2 k hk).2.2⟩⟩⟩
theorem RInv.snoc {w w' : World} {B : Nat} {rv rv' v : Value} {ps : List (Value × List Dg)} {l : List Dg} (h : RInv w B rv ps) (hl : SlD w v l l.length) (hv : ∀ k, v.ownBlock = some k → B ≤ k ∧ k < w.heap.size ∧ rv.ownBlock ≠ some k)
    (ho : w'.ownsRow B 30 1 rv' (ps.length + 1) (ps.map (·.1) ++ [v])) (hg : w.grownBy w' rv.ownBlock) (hn : rv'.ownBlock = rv.ownBlock ∨ rv'.ownBlock = some w.heap.size) : RInv w' B rv' (ps ++ [(v, l)]) := by
  refine ⟨by simpa using ho, fun p hp => ?_⟩
  have key : ∀ q : Value × List Dg, SlD w q.1 q.2 q.2.length → (∀ k, q.1.ownBlock = some k → B ≤ k ∧ k < w.heap.size ∧ rv.ownBlock ≠ some k) → SlD w' q.1 q.2 q.2.length ∧ ∀ k, q.1.ownBlock = some k → B ≤ k ∧ k < w'.heap.size ∧ rv'.ownBlock ≠ some k := fun q h1 h2 =>
    ⟨h1.keep fun k hk hlt => hg.block k hlt (fun e => (h2 k hk).2.2 e.symm), fun k hk => ⟨(h2 k hk).1, Nat.lt_of_lt_of_le (h2 k hk).2.1 hg.size, by
      rcases hn with e | e
      · rw [e]; exact (h2 k hk).2.2
      · rw [e]; intro e'; have := (h2 k hk).2.1; cases e'; omega⟩⟩
  rcases List.mem_append.1 hp with hp | hp
  · exact key p (h.2 p hp).1 (h.2 p hp).2
  · obtain rfl := List.mem_singleton.1 hp
    exact key _ hl hv
/-- The document's rows, in blocks from B on and below T. -/
def RowsAt (w : World) (B T : Nat) (rv : Value) (ds : List Dg) : Prop :=
  ∃ ps : List (Value × List Dg), w.ownsRow B 30 1 rv ps.length (ps.map (·.1)) ∧ (∀ k, rv.ownBlock = some k → k < T) ∧ ps.map (·.2) = rows ds ∧ ∀ p ∈ ps, SlD w p.1 p.2 p.2.length ∧ ∀ k, p.1.ownBlock = some k → B ≤ k ∧ k < T
theorem RowsAt.keep {w w' : World} {B T : Nat} {rv : Value} {ds : List Dg} (h : RowsAt w B T rv ds) (hk : ∀ k, B ≤ k → k < T → w'.heap[k]? = w.heap[k]?) : RowsAt w' B T rv ds := by
  obtain ⟨ps, h6, h7, h8, h9⟩ := h
  exact ⟨ps, own_keep h6 fun k hb _ e => hk k hb (h7 k e), h7, h8, fun p hp => ⟨(h9 p hp).1.keep fun k e _ => hk k ((h9 p hp).2 k e).1 ((h9 p hp).2 k e).2, (h9 p hp).2⟩⟩
theorem RowsAt.open {w : World} {B T : Nat} {rv : Value} {ds : List Dg} (h : RowsAt w B T rv ds) (h0 : 0 < ds.length) :
    ∃ rb rc, rv = .slice (some ⟨rb, 0, none⟩) (rows ds).length rc ∧ rb < w.heap.size ∧ B ≤ rb ∧ (rows ds).length ≤ rc ∧
      ∀ j r, (rows ds)[j]? = some r → 0 < r.length ∧ ∃ b' o' c', w.cell? ⟨rb, j, none⟩ = some (.slice (some ⟨b', o', none⟩) r.length c') ∧ SlD w (.slice (some ⟨b', o', none⟩) r.length c') r r.length ∧ B ≤ b' ∧ b' < w.heap.size := by
  obtain ⟨ps, h6, h7, h8, h9⟩ := h
  have hlen : ps.length = (rows ds).length := by rw [← h8, List.length_map]
  obtain ⟨Ar, rc, rfl, hrn, _, hcl, hrb, hr0⟩ := own_cl h6
  cases Ar with
  | none => have := (hr0 rfl).1; have := rows_ne ds; omega
  | some ar =>
    have h6' := h6.2
    rcases h6' with ⟨e, _⟩ | ⟨rb, cap, cur, e, _⟩
    · cases e
    · cases e
      refine ⟨rb, rc, by rw [hlen], (hrb _ rfl).2, (hrb _ rfl).1, by omega, fun j r hj => ?_⟩
      rw [← h8, List.getElem?_map] at hj
      cases hp : ps[j]? with
      | none => rw [hp] at hj; cases hj
      | some p =>
        rw [hp] at hj
        simp only [Option.map_some, Option.some.injEq] at hj
        subst hj
        have hs := (h9 p (List.mem_of_getElem? hp)).1
        have hB := (h9 p (List.mem_of_getElem? hp)).2
        obtain ⟨A', c', e, _⟩ := hs.val
        have hr : 0 < p.2.length := rowsUp_nonempty ds.length (ds.map mrk) (by simpa using h0) p.2 (by
          have := List.mem_of_getElem? (show (ps.map (·.2))[j]? = some p.2 by rw [List.getElem?_map, hp]; rfl)
          rw [h8] at this
          exact this)
        rw [e] at hs
        obtain ⟨b', o', rfl, hb'⟩ := hs.at hr
        refine ⟨hr, b', o', c', ?_, hs, (hB b' (by rw [e]; rfl)).1, hb'⟩
        obtain ⟨a, ha, hc⟩ := hcl j p.1 (by rw [List.getElem?_map, hp]; rfl)
        cases ha
        rw [add_lit, Nat.zero_add] at hc
        rw [hc, e]

theorem take_snocD (L : List Dg) (q : Nat) (h : q < L.length) : L.take (q + 1) = L.take q ++ [L.getD q []] := by
  rw [List.take_add_one, List.getElem?_eq_getElem h, List.getD_eq_getElem?_getD, List.getElem?_eq_getElem h]; rfl

set_option maxHeartbeats 4000000 in
set_option maxRecDepth 100000 in
theorem rrows_any (w : World) (A : Option Addr) (n c : Nat) (ds : List Dg) (hs : SlD w (.slice A n c) ds n) (h0 : 0 < n) (h16 : n ≤ 16) :
    Calls Try.prog 28 #[.slice A n c] w fun e w' => ∃ v, e = .returned v ∧ RowsAt w' w.heap.size w'.heap.size v ds ∧ Below w.heap.size w w' := by
  have hlen := hs.len
  obtain ⟨b, o, rfl, hb⟩ := hs.at h0
  have HS := hd hs
  clear hs
  go_enter Try.func28, Try.ntmps28
  go_upto_block 0 with (fail)
  go_cut [3] from 3 to 21 (fun v3 wx => ∃ A3 c3, v3 = .slice A3 n c3 ∧ wx.ownsRow w.heap.size 35 32 (.slice A3 n c3) n (dcs (ds.map mrk)) ∧ Below w.heap.size w wx)
  case first =>
    go_wp2_with fail
    go_loopw [3, 4] (fun x i wr => ∃ (k : Nat) (A3 : Option Addr) (c3 : Nat), i = .int .i64 (k : Int) ∧ k ≤ n ∧ x = .slice A3 k c3 ∧ wr.ownsRow w.heap.size 35 32 (.slice A3 k c3) k (dcs ((ds.take k).map mrk)) ∧ Below w.heap.size w wr) (fun _ i _ => n - (intOf i).toNat)
    case atStart => exact ⟨0, none, 0, rfl, Nat.zero_le _, rfl, World.ownsRow_nil _ _ _ _, Below.refl _ _⟩
    case round =>
      obtain ⟨k, A3, c3, rfl, hk, rfl, hown, hB⟩ := hrel
      by_cases hlt : k < n
      · have hltI : (k : Int) < (n : Int) := by omega
        have hk0 : (0 : Int) ≤ (k : Int) := by omega
        obtain ⟨d, hdk⟩ : ∃ d, ds[k]? = some d := ⟨ds[k]'(by omega), List.getElem?_eq_getElem (by omega)⟩
        have hds := HS.out.below hB
        have hsub := hds.sub k hdk
        have h32 := hds.all.get hdk
        have htk : (ds.take (k + 1)).map mrk = (ds.take k).map mrk ++ [mrk d] := by
          rw [List.take_add_one, hdk]; simp
        have HTK := hd htk
        have HOWN := hd hown
        have HB := hd hB
        have hsz := hB.size
        clear hds htk hown hB hdk
        go_wp2_with (first
          | (go_at_call 41; refine (rmark_any _ d h32).mono ?_; rintro e w5 ⟨rfl, hb5⟩; have HB5 := hd hb5; have HO5 := hd (own_below HOWN.out (hb5.trans ((Below.refl w5.heap.size w5).alloc (Nat.le_refl _) (.cells (ucs (sha (0 :: d))) 35) |>.mono hb5.size))); have hs5 := hb5.size; clear hb5)
          | (at_builtin; refine wpList_app rfl (.tmp 14) (.tmp 20) 30 rfl w.heap.size 35 (.agg (ucs (List.replicate 32 0))) 32 32 (by kernel_rfl) infoD rfl (by decide) (.slice A3 k c3) k _ rfl HO5.out (some ⟨w5.heap.size, 0, none⟩) 1 1 (dcs [mrk d]) rfl (by rw [dcs_single, bcs_length, mrk_length]) (fun e => nomatch e) (by rw [dcs_single]; exact row_cl (heap_alloc_new w5 _)) (dcs_one _) (by unfold maxLen; omega) (by omega) (by simp; omega) ?_; intro v8 w8 ho8 hg8 _; rw [← dcs_append] at ho8; obtain ⟨A8, c8, rfl, _⟩ := own_cl ho8; have HO8 := hd ho8; have HG8 := hd hg8; clear ho8 hg8))
        go_roundw
        case rel =>
          refine ⟨k + 1, A8, c8, by go_num, by omega, rfl, by rw [HTK.out]; exact HO8.out, ?_⟩
          have h1 : Below w.heap.size w (w5.alloc (.cells (ucs (sha (0 :: d))) 35)) := (HB.out.trans (HB5.out.mono hsz)).alloc (by omega) _
          exact h1.grown HG8.out h1.size (fun j hj => by have := (HO5.out.lt j hj).1; omega)
        case measure => simp [intOf]; omega
      · obtain rfl : k = n := by omega
        have hge : ¬ (k : Int) < (k : Int) := by omega
        rw [List.take_of_length_le (by omega)] at hown
        have HOWN := hd hown
        have HB := hd hB
        clear hown hB
        go_wp2_with fail
        go_meet
        exact ⟨A3, c3, rfl, HOWN.out, HB.out⟩
  case rest =>
    obtain ⟨A3, c3, rfl, hown, hB⟩ := hcut
    have HOWN := hd hown
    have HB := hd hB
    have hszc := hB.size
    have hm32 := mrk32 ds
    have hA3 : ∀ k, (Value.slice A3 n c3).ownBlock = some k → w.heap.size ≤ k ∧ k < wc.heap.size := fun k hk => hown.lt k hk
    have HA3 := hd hA3
    have HM32 := hd hm32
    clear hown hB hA3 hm32
    go_upto_block 2 with (fail)
    obtain ⟨wz, hwz⟩ : ∃ wz, wc.alloc (.cells #[.slice A3 n c3] 30) = wz := ⟨_, rfl⟩
    rw [hwz]
    have hbz : Below wc.heap.size wc wz := by rw [← hwz]; exact (Below.refl _ _).alloc (Nat.le_refl _) _
    have hz1 : wz.heap.size = wc.heap.size + 1 := by rw [← hwz]; simp
    have HI : Hid (RInv wz w.heap.size (.slice (some ⟨wc.heap.size, 0, none⟩) 1 1) ([] ++ [(.slice A3 n c3, ds.map mrk)])) := hd (by
      refine ⟨?_, fun p hp => ?_⟩
      · have h9 := World.ownsRow_lit (base := w.heap.size) (e := 30) (size := 1) wc #[.slice A3 n c3] 1 hszc (by unfold maxLen; omega) rfl
        rw [hwz] at h9
        simpa using h9
      · obtain rfl := List.mem_singleton.1 hp
        have h8 := (own_sld HOWN.out HM32.out).below hbz
        refine ⟨by simpa [hlen] using h8, fun k hk => ⟨(HA3.out k hk).1, by have := (HA3.out k hk).2; omega, fun e => ?_⟩⟩
        have h7 := (HA3.out k hk).2
        have e' : wc.heap.size = k := by simpa [Value.ownBlock] using e
        omega)
    have HBz := hd (HB.out.trans (hbz.mono hszc))
    clear hwz hbz
    go_wp2_with fail
    go_loopw [3, 5] (fun x y wr => ∃ (m k5 : Nat) (A5 A7 : Option Addr) (c5 c7 : Nat) (ps0 : List (Value × List Dg)) (l : List Dg) (f : Nat), x = .slice A5 m c5 ∧ y = .slice A7 k5 c7 ∧ l.length = m ∧ RInv wr w.heap.size (.slice A7 k5 c7) (ps0 ++ [(.slice A5 m c5, l)]) ∧ rows ds = ps0.map (·.2) ++ rowsUp f l ∧ m ≤ f ∧ 0 < m ∧ m ≤ 16 ∧ Below w.heap.size w wr) (fun x _ _ => lenOf x)
    case atStart => exact ⟨n, 1, A3, _, c3, 1, [], ds.map mrk, ds.length, rfl, rfl, by simpa using hlen, HI.out, rfl, by omega, h0, h16, HBz.out⟩
    case round =>
      clear HI HBz hz1 HOWN HA3 HM32
      obtain ⟨m, k7, A5, A7, c5, c7, ps0, l, f, rfl, rfl, hm, hrows, hrw, hf, hl0, hl16, hBw⟩ := hrel
      have hvl := hrows.2 _ (List.mem_append_right ps0 (List.mem_singleton.2 rfl))
      simp only [hm] at hvl
      have hk7 : (ps0 ++ [(Value.slice A5 m c5, l)]).length = k7 := by
        obtain ⟨A', c', e, _⟩ := own_cl hrows.1
        cases e; rfl
      have hk17 : k7 ≤ 17 := by
        have h9 := congrArg List.length hrw
        rw [List.length_append, List.length_map] at h9
        have h8 := rowsUp_pos f l
        have h7 := rows_length ds
        rw [← hk7, List.length_append, List.length_singleton]
        omega
      obtain ⟨b5, o5, rfl, hb5⟩ := hvl.1.at hl0
      have hszw := hBw.size
      have HR := hd hrows
      have HRW := hd hrw
      have HBw := hd hBw
      have HV := hd hvl
      have HK7 := hd hk7
      clear hrows hrw hBw hvl hk7
      by_cases hlt : 1 < m
      · have hltI : (1 : Int) < (m : Int) := by omega
        obtain ⟨wo, rfl⟩ : ∃ wo : World, wo = wr := ⟨_, rfl⟩
        go_upto_block 4 with (fail)
        go_cut [6, 7] from 24 to 57 (fun v6 v7 wx => ∃ (A6 : Option Addr) (c6 : Nat), v6 = .slice A6 ((m + 1) / 2) c6 ∧ wx.ownsRow wo.heap.size 35 32 (.slice A6 ((m + 1) / 2) c6) ((m + 1) / 2) (dcs (upw l)) ∧ Below wo.heap.size wo wx)
        case first =>
          go_wp2_with fail
          go_loopw [6, 7] (fun x y wr => ∃ (q j : Nat) (A6 : Option Addr) (c6 : Nat), x = .slice A6 q c6 ∧ y = .int .i64 (j : Int) ∧ j = 2 * q ∧ j ≤ m + 1 ∧ wr.ownsRow wo.heap.size 35 32 (.slice A6 q c6) q (dcs ((upw l).take q)) ∧ Below wo.heap.size wo wr) (fun _ y _ => m + 2 - (intOf y).toNat)
          case atStart => exact ⟨0, 0, none, 0, rfl, rfl, rfl, by omega, World.ownsRow_nil _ _ _ _, Below.refl _ _⟩
          case round =>
            obtain ⟨q, j, A6, c6, rfl, rfl, hjq, hjm, hown, hB⟩ := hrel
            have hsz := hB.size
            have hu := upw_length l
            by_cases hjl : j < m
            · have hjlI : (j : Int) < (m : Int) := by omega
              have hj0 : (0 : Int) ≤ (j : Int) := by omega
              have hj1 : (0 : Int) ≤ (j : Int) + 1 := by omega
              have hgt := upw_get l j (by omega)
              have htk := take_snocD (upw l) q (by omega)
              rw [show q = j / 2 by omega] at htk
              rw [hgt, if_pos (by omega)] at htk
              rw [show j / 2 = q by omega] at htk
              obtain ⟨d, hdk⟩ : ∃ d, l[j]? = some d := ⟨l[j]'(by omega), List.getElem?_eq_getElem (by omega)⟩
              have hds := HV.out.1.below hB
              have hsub0 := hds.sub j hdk
              have h32 := hds.all.get hdk
              rw [getD_of hdk] at htk
              have hb5 : b5 < wr.heap.size := Nat.lt_of_lt_of_le hb5 hsz
              have hlm : l.length = m := hm
              rw [hlm] at htk
              by_cases hj2 : j + 1 < m
              · have hj2I : (j : Int) + 1 < (m : Int) := by omega
                obtain ⟨d', hdk'⟩ : ∃ d, l[j + 1]? = some d := ⟨l[j + 1]'(by omega), List.getElem?_eq_getElem (by omega)⟩
                have hsub1 := hds.sub (j + 1) hdk'
                have h32' := hds.all.get hdk'
                rw [if_pos hj2, getD_of hdk'] at htk
                obtain ⟨nw, hnw⟩ : ∃ nw, bth d d' = nw := ⟨_, rfl⟩
                have hnl : nw.length = 32 := by rw [← hnw]; exact bth_length _ _
                have HBOTH := hd (fun W' : World => show Calls Try.prog 42 #[.agg (ucs d), .agg (ucs d')] W' fun e w' => e = .returned (.agg (ucs nw)) ∧ Below W'.heap.size W' w' from by
                  rw [← hnw]; exact rboth_any W' d d' h32 h32')
                rw [hnw] at htk
                obtain ⟨P, hP⟩ : ∃ P, (upw l).take q = P := ⟨_, rfl⟩
                rw [hP] at htk hown
                have HO6 := hd hown
                have HB := hd hB
                have HTK := hd htk
                have HJQ := hd hjq
                have hq16 : q ≤ 16 := by omega
                clear hown hB htk hjq hgt hdk hdk' hds hnw hP hu hlm hm
                have wj : IntKind.i64.wrap ((j : Int) + 1) = (j : Int) + 1 := IntWalk.i64_in _ (by omega)
                go_wp2_with fail
                refine wp_region_inv [38, 39, 40, 41, 42, 43, 44, 45, 46, 47, 48, 49, 50, 6] (fun done σ w' => (done 12 = false → Below wr.heap.size wr w') ∧
                  (done 13 = false → σ 6 = .slice A6 q c6) ∧
                  (done 0 = true → σ 38 = .slice A6 q c6) ∧
                  (done 1 = true → σ 39 = .slice (some ⟨b5, o5, none⟩) m c5) ∧
                  (done 2 = true → σ 40 = .int .i64 ((j : Int))) ∧
                  (done 3 = true → σ 41 = .pointer (some ⟨b5, o5 + j * 32, none⟩)) ∧
                  (done 4 = true → σ 42 = .agg (ucs d)) ∧
                  (done 5 = true → σ 43 = .slice (some ⟨b5, o5, none⟩) m c5) ∧
                  (done 6 = true → σ 44 = .int .i64 ((j : Int))) ∧
                  (done 7 = true → σ 45 = .int .i64 ((j : Int) + 1)) ∧
                  (done 8 = true → σ 46 = .pointer (some ⟨b5, o5 + (j + 1) * 32, none⟩)) ∧
                  (done 9 = true → σ 47 = .agg (ucs d')) ∧
                  (done 10 = true → σ 48 = .agg (ucs nw)) ∧
                  (done 11 = true → done 12 = false → ∃ g', σ 49 = .slice (some ⟨g', 0, none⟩) 1 1 ∧ Cl w' (some ⟨g', 0, none⟩) (dcs [nw])) ∧
                  (done 12 = true → ∃ w5, Below wr.heap.size wr w5 ∧ w5.grownBy w' (Value.slice A6 q c6).ownBlock ∧ w'.ownsRow wo.heap.size 35 32 (σ 50) (q + 1) (dcs (P ++ [nw]))) ∧
                  (done 13 = true → σ 6 = σ 50)) (by kernel_rfl) (by kernel_rfl) ?_ ?_ ?_
                · simp
                  exact Below.drew (Below.refl _ _)
                · refine ⟨fun done σ w' a hi hA hC ha hσ ⟨hR, r0, r1, r2, r3, r4, r5, r6, r7, r8, r9, r10, r11, r12, r13, r14⟩ => ?_, ?_⟩
                  · have d13 := hC.at 0 13 _ rfl hi rfl
                    have e0 := r0 d13
                    refine stepG_plain rfl fun K hK => ?_
                    go_simp
                    refine hK _ _ ?_
                    simp [mk, up]
                    exact ⟨hR, r0, r2, r3, r4, r5, r6, r7, r8, r9, r10, r11, r12, r13, r14⟩
                  refine ⟨fun done σ w' a hi hA hC ha hσ ⟨hR, r0, r1, r2, r3, r4, r5, r6, r7, r8, r9, r10, r11, r12, r13, r14⟩ => ?_, ?_⟩
                  · have e0 := hσ 3 (by simp)
                    simp only [List.getElem?_toArray] at e0
                    refine stepG_plain rfl fun K hK => ?_
                    go_simp
                    refine hK _ _ ?_
                    simp [mk, up]
                    exact ⟨hR, r0, r1, r3, r4, r5, r6, r7, r8, r9, r10, r11, r12, r13, r14⟩
                  refine ⟨fun done σ w' a hi hA hC ha hσ ⟨hR, r0, r1, r2, r3, r4, r5, r6, r7, r8, r9, r10, r11, r12, r13, r14⟩ => ?_, ?_⟩
                  · have e0 := hσ 7 (by simp)
                    simp only [List.getElem?_toArray] at e0
                    refine stepG_plain rfl fun K hK => ?_
                    go_simp
                    refine hK _ _ ?_
                    simp [mk, up]
                    exact ⟨hR, r0, r1, r2, r4, r5, r6, r7, r8, r9, r10, r11, r12, r13, r14⟩
                  refine ⟨fun done σ w' a hi hA hC ha hσ ⟨hR, r0, r1, r2, r3, r4, r5, r6, r7, r8, r9, r10, r11, r12, r13, r14⟩ => ?_, ?_⟩
                  · simp [After, Region.binds] at hA
                    have e0 := r2 (by first | exact hA | exact hA.1 | exact hA.2 | exact hA.2.1 | exact hA.2.2 | exact hA.2.2.1 | exact hA.2.2.2 | exact hA.2.2.2.1 | exact hA.2.2.2.2 | exact hA.2.2.2.2.1 | exact hA.2.2.2.2.2 | exact hA.2.2.2.2.2.1 | exact hA.2.2.2.2.2.2 | exact hA.2.2.2.2.2.2.1 | exact hA.2.2.2.2.2.2.2 | exact hA.2.2.2.2.2.2.2.1 | exact hA.2.2.2.2.2.2.2.2 | exact hA.2.2.2.2.2.2.2.2.1 | exact hA.2.2.2.2.2.2.2.2.2)
                    have e1 := r3 (by first | exact hA | exact hA.1 | exact hA.2 | exact hA.2.1 | exact hA.2.2 | exact hA.2.2.1 | exact hA.2.2.2 | exact hA.2.2.2.1 | exact hA.2.2.2.2 | exact hA.2.2.2.2.1 | exact hA.2.2.2.2.2 | exact hA.2.2.2.2.2.1 | exact hA.2.2.2.2.2.2 | exact hA.2.2.2.2.2.2.1 | exact hA.2.2.2.2.2.2.2 | exact hA.2.2.2.2.2.2.2.1 | exact hA.2.2.2.2.2.2.2.2 | exact hA.2.2.2.2.2.2.2.2.1 | exact hA.2.2.2.2.2.2.2.2.2)
                    refine stepG_plain rfl fun K hK => ?_
                    go_simp
                    refine hK _ _ ?_
                    simp [mk, up]
                    exact ⟨hR, r0, r1, r2, r3, r5, r6, r7, r8, r9, r10, r11, r12, r13, r14⟩
                  refine ⟨fun done σ w' a hi hA hC ha hσ ⟨hR, r0, r1, r2, r3, r4, r5, r6, r7, r8, r9, r10, r11, r12, r13, r14⟩ => ?_, ?_⟩
                  · simp [After, Region.binds] at hA
                    have e0 := r4 (by first | exact hA | exact hA.1 | exact hA.2 | exact hA.2.1 | exact hA.2.2 | exact hA.2.2.1 | exact hA.2.2.2 | exact hA.2.2.2.1 | exact hA.2.2.2.2 | exact hA.2.2.2.2.1 | exact hA.2.2.2.2.2 | exact hA.2.2.2.2.2.1 | exact hA.2.2.2.2.2.2 | exact hA.2.2.2.2.2.2.1 | exact hA.2.2.2.2.2.2.2 | exact hA.2.2.2.2.2.2.2.1 | exact hA.2.2.2.2.2.2.2.2 | exact hA.2.2.2.2.2.2.2.2.1 | exact hA.2.2.2.2.2.2.2.2.2)
                    have d10 := hC.at 4 10 _ rfl hi rfl
                    have d12 := hC.at 10 12 _ rfl d10 rfl
                    have e9 := (sub_of_heap ((hR d12).block b5 hb5)).trans hsub0
                    refine stepG_plain rfl fun K hK => ?_
                    go_simp
                    refine hK _ _ ?_
                    simp [mk, up]
                    exact ⟨hR, r0, r1, r2, r3, r4, r6, r7, r8, r9, r10, r11, r12, r13, r14⟩
                  refine ⟨fun done σ w' a hi hA hC ha hσ ⟨hR, r0, r1, r2, r3, r4, r5, r6, r7, r8, r9, r10, r11, r12, r13, r14⟩ => ?_, ?_⟩
                  · have e0 := hσ 3 (by simp)
                    simp only [List.getElem?_toArray] at e0
                    refine stepG_plain rfl fun K hK => ?_
                    go_simp
                    refine hK _ _ ?_
                    simp [mk, up]
                    exact ⟨hR, r0, r1, r2, r3, r4, r5, r7, r8, r9, r10, r11, r12, r13, r14⟩
                  refine ⟨fun done σ w' a hi hA hC ha hσ ⟨hR, r0, r1, r2, r3, r4, r5, r6, r7, r8, r9, r10, r11, r12, r13, r14⟩ => ?_, ?_⟩
                  · have e0 := hσ 7 (by simp)
                    simp only [List.getElem?_toArray] at e0
                    refine stepG_plain rfl fun K hK => ?_
                    go_simp
                    refine hK _ _ ?_
                    simp [mk, up]
                    exact ⟨hR, r0, r1, r2, r3, r4, r5, r6, r8, r9, r10, r11, r12, r13, r14⟩
                  refine ⟨fun done σ w' a hi hA hC ha hσ ⟨hR, r0, r1, r2, r3, r4, r5, r6, r7, r8, r9, r10, r11, r12, r13, r14⟩ => ?_, ?_⟩
                  · simp [After, Region.binds] at hA
                    have e0 := r7 (by first | exact hA | exact hA.1 | exact hA.2 | exact hA.2.1 | exact hA.2.2 | exact hA.2.2.1 | exact hA.2.2.2 | exact hA.2.2.2.1 | exact hA.2.2.2.2 | exact hA.2.2.2.2.1 | exact hA.2.2.2.2.2 | exact hA.2.2.2.2.2.1 | exact hA.2.2.2.2.2.2 | exact hA.2.2.2.2.2.2.1 | exact hA.2.2.2.2.2.2.2 | exact hA.2.2.2.2.2.2.2.1 | exact hA.2.2.2.2.2.2.2.2 | exact hA.2.2.2.2.2.2.2.2.1 | exact hA.2.2.2.2.2.2.2.2.2)
                    refine stepG_plain rfl fun K hK => ?_
                    go_simp
                    refine hK _ _ ?_
                    simp [mk, up]
                    exact ⟨hR, r0, r1, r2, r3, r4, r5, r6, r7, r9, r10, r11, r12, r13, r14⟩
                  refine ⟨fun done σ w' a hi hA hC ha hσ ⟨hR, r0, r1, r2, r3, r4, r5, r6, r7, r8, r9, r10, r11, r12, r13, r14⟩ => ?_, ?_⟩
                  · simp [After, Region.binds] at hA
                    have e0 := r6 (by first | exact hA | exact hA.1 | exact hA.2 | exact hA.2.1 | exact hA.2.2 | exact hA.2.2.1 | exact hA.2.2.2 | exact hA.2.2.2.1 | exact hA.2.2.2.2 | exact hA.2.2.2.2.1 | exact hA.2.2.2.2.2 | exact hA.2.2.2.2.2.1 | exact hA.2.2.2.2.2.2 | exact hA.2.2.2.2.2.2.1 | exact hA.2.2.2.2.2.2.2 | exact hA.2.2.2.2.2.2.2.1 | exact hA.2.2.2.2.2.2.2.2 | exact hA.2.2.2.2.2.2.2.2.1 | exact hA.2.2.2.2.2.2.2.2.2)
                    have e1 := r8 (by first | exact hA | exact hA.1 | exact hA.2 | exact hA.2.1 | exact hA.2.2 | exact hA.2.2.1 | exact hA.2.2.2 | exact hA.2.2.2.1 | exact hA.2.2.2.2 | exact hA.2.2.2.2.1 | exact hA.2.2.2.2.2 | exact hA.2.2.2.2.2.1 | exact hA.2.2.2.2.2.2 | exact hA.2.2.2.2.2.2.1 | exact hA.2.2.2.2.2.2.2 | exact hA.2.2.2.2.2.2.2.1 | exact hA.2.2.2.2.2.2.2.2 | exact hA.2.2.2.2.2.2.2.2.1 | exact hA.2.2.2.2.2.2.2.2.2)
                    refine stepG_plain rfl fun K hK => ?_
                    go_simp
                    refine hK _ _ ?_
                    simp [mk, up]
                    exact ⟨hR, r0, r1, r2, r3, r4, r5, r6, r7, r8, r10, r11, r12, r13, r14⟩
                  refine ⟨fun done σ w' a hi hA hC ha hσ ⟨hR, r0, r1, r2, r3, r4, r5, r6, r7, r8, r9, r10, r11, r12, r13, r14⟩ => ?_, ?_⟩
                  · simp [After, Region.binds] at hA
                    have e0 := r9 (by first | exact hA | exact hA.1 | exact hA.2 | exact hA.2.1 | exact hA.2.2 | exact hA.2.2.1 | exact hA.2.2.2 | exact hA.2.2.2.1 | exact hA.2.2.2.2 | exact hA.2.2.2.2.1 | exact hA.2.2.2.2.2 | exact hA.2.2.2.2.2.1 | exact hA.2.2.2.2.2.2 | exact hA.2.2.2.2.2.2.1 | exact hA.2.2.2.2.2.2.2 | exact hA.2.2.2.2.2.2.2.1 | exact hA.2.2.2.2.2.2.2.2 | exact hA.2.2.2.2.2.2.2.2.1 | exact hA.2.2.2.2.2.2.2.2.2)
                    have d10 := hC.at 9 10 _ rfl hi rfl
                    have d12 := hC.at 10 12 _ rfl d10 rfl
                    have e9 := (sub_of_heap ((hR d12).block b5 hb5)).trans hsub1
                    refine stepG_plain rfl fun K hK => ?_
                    go_simp
                    refine hK _ _ ?_
                    simp [mk, up]
                    exact ⟨hR, r0, r1, r2, r3, r4, r5, r6, r7, r8, r9, r11, r12, r13, r14⟩
                  refine ⟨fun done σ w' a hi hA hC ha hσ ⟨hR, r0, r1, r2, r3, r4, r5, r6, r7, r8, r9, r10, r11, r12, r13, r14⟩ => ?_, ?_⟩
                  · simp [After, Region.binds] at hA
                    have e0 := r5 (by first | exact hA | exact hA.1 | exact hA.2 | exact hA.2.1 | exact hA.2.2 | exact hA.2.2.1 | exact hA.2.2.2 | exact hA.2.2.2.1 | exact hA.2.2.2.2 | exact hA.2.2.2.2.1 | exact hA.2.2.2.2.2 | exact hA.2.2.2.2.2.1 | exact hA.2.2.2.2.2.2 | exact hA.2.2.2.2.2.2.1 | exact hA.2.2.2.2.2.2.2 | exact hA.2.2.2.2.2.2.2.1 | exact hA.2.2.2.2.2.2.2.2 | exact hA.2.2.2.2.2.2.2.2.1 | exact hA.2.2.2.2.2.2.2.2.2)
                    have e1 := r10 (by first | exact hA | exact hA.1 | exact hA.2 | exact hA.2.1 | exact hA.2.2 | exact hA.2.2.1 | exact hA.2.2.2 | exact hA.2.2.2.1 | exact hA.2.2.2.2 | exact hA.2.2.2.2.1 | exact hA.2.2.2.2.2 | exact hA.2.2.2.2.2.1 | exact hA.2.2.2.2.2.2 | exact hA.2.2.2.2.2.2.1 | exact hA.2.2.2.2.2.2.2 | exact hA.2.2.2.2.2.2.2.1 | exact hA.2.2.2.2.2.2.2.2 | exact hA.2.2.2.2.2.2.2.2.1 | exact hA.2.2.2.2.2.2.2.2.2)
                    have d12 := hC.at 10 12 _ rfl hi rfl
                    have d11 := hC.at 10 11 _ rfl hi rfl
                    refine stepG_plain rfl fun K hK => ?_
                    go_simp
                    refine (HBOTH.out w').mono ?_
                    rintro e w2 ⟨rfl, hb2⟩
                    refine hK _ _ ?_
                    simp [mk, up]
                    exact ⟨fun h => (hR h).trans (hb2.mono (hR h).size), r0, r1, r2, r3, r4, r5, r6, r7, r8, r9, r10, (fun h => by rw [d11] at h; cases h), (fun h => by rw [d12] at h; cases h), r14⟩
                  refine ⟨fun done σ w' a hi hA hC ha hσ ⟨hR, r0, r1, r2, r3, r4, r5, r6, r7, r8, r9, r10, r11, r12, r13, r14⟩ => ?_, ?_⟩
                  · simp [After, Region.binds] at hA
                    have e0 := r11 (by first | exact hA | exact hA.1 | exact hA.2 | exact hA.2.1 | exact hA.2.2 | exact hA.2.2.1 | exact hA.2.2.2 | exact hA.2.2.2.1 | exact hA.2.2.2.2 | exact hA.2.2.2.2.1 | exact hA.2.2.2.2.2 | exact hA.2.2.2.2.2.1 | exact hA.2.2.2.2.2.2 | exact hA.2.2.2.2.2.2.1 | exact hA.2.2.2.2.2.2.2 | exact hA.2.2.2.2.2.2.2.1 | exact hA.2.2.2.2.2.2.2.2 | exact hA.2.2.2.2.2.2.2.2.1 | exact hA.2.2.2.2.2.2.2.2.2)
                    have d12 := hC.at 11 12 _ rfl hi rfl
                    refine stepG_plain rfl fun K hK => ?_
                    go_simp
                    refine hK _ _ ?_
                    simp [mk, up]
                    exact ⟨fun h => (hR h).alloc (hR h).size _, r0, r1, r2, r3, r4, r5, r6, r7, r8, r9, r10, r11, fun _ => by rw [dcs_single]; exact row_cl (heap_alloc_new w' _), (fun h => by rw [d12] at h; cases h), r14⟩
                  refine ⟨fun done σ w' a hi hA hC ha hσ ⟨hR, r0, r1, r2, r3, r4, r5, r6, r7, r8, r9, r10, r11, r12, r13, r14⟩ => ?_, ?_⟩
                  · simp [After, Region.binds] at hA
                    have d13 := hC.at 12 13 _ rfl hi rfl
                    have e0 := r1 (by first | exact hA | exact hA.1 | exact hA.2 | exact hA.2.1 | exact hA.2.2 | exact hA.2.2.1 | exact hA.2.2.2 | exact hA.2.2.2.1 | exact hA.2.2.2.2 | exact hA.2.2.2.2.1 | exact hA.2.2.2.2.2 | exact hA.2.2.2.2.2.1 | exact hA.2.2.2.2.2.2 | exact hA.2.2.2.2.2.2.1 | exact hA.2.2.2.2.2.2.2 | exact hA.2.2.2.2.2.2.2.1 | exact hA.2.2.2.2.2.2.2.2 | exact hA.2.2.2.2.2.2.2.2.1 | exact hA.2.2.2.2.2.2.2.2.2)
                    obtain ⟨g', e1, hcl⟩ := r12 (by first | exact hA | exact hA.1 | exact hA.2 | exact hA.2.1 | exact hA.2.2 | exact hA.2.2.1 | exact hA.2.2.2 | exact hA.2.2.2.1 | exact hA.2.2.2.2 | exact hA.2.2.2.2.1 | exact hA.2.2.2.2.2 | exact hA.2.2.2.2.2.1 | exact hA.2.2.2.2.2.2 | exact hA.2.2.2.2.2.2.1 | exact hA.2.2.2.2.2.2.2 | exact hA.2.2.2.2.2.2.2.1 | exact hA.2.2.2.2.2.2.2.2 | exact hA.2.2.2.2.2.2.2.2.1 | exact hA.2.2.2.2.2.2.2.2.2) hi
                    have HO := own_below HO6.out (hR hi)
                    refine stepG_plain rfl fun K hK => ?_
                    refine wp_app (.tmp 38) (.tmp 49) 30 rfl wo.heap.size 35 (.agg (ucs (List.replicate 32 0))) 32 32 (by kernel_rfl) infoD rfl (by decide) (.slice A6 q c6) q _ ((ev_tmp ha).trans e0) HO (some ⟨g', 0, none⟩) 1 1 (dcs [nw]) ((ev_tmp ha).trans e1) (by rw [dcs_single, bcs_length, hnl]) (fun e => nomatch e) hcl (dcs_one _) (by unfold maxLen; omega) (by omega) (Nat.le_trans hsz (hR hi).size) ?_
                    intro v' w2 ho2 hg2 _
                    refine hK _ _ ?_
                    simp [mk, up]
                    exact ⟨r0, r1, r2, r3, r4, r5, r6, r7, r8, r9, r10, r11, ⟨w', hR hi, hg2, by rw [← dcs_append] at ho2; exact ho2⟩, (fun h => by rw [d13] at h; cases h)⟩
                  refine ⟨fun done σ w' a hi hA hC ha hσ ⟨hR, r0, r1, r2, r3, r4, r5, r6, r7, r8, r9, r10, r11, r12, r13, r14⟩ => ?_, trivial⟩
                  · simp [After, Region.binds] at hA
                    refine stepG_plain rfl fun K hK => ?_
                    go_simp
                    refine hK _ _ ?_
                    simp [mk, up]
                    exact ⟨hR, r1, r2, r3, r4, r5, r6, r7, r8, r9, r10, r11, r12, r13⟩
                · rintro done σ w' hall hσ ⟨hR, r0, r1, r2, r3, r4, r5, r6, r7, r8, r9, r10, r11, r12, r13, r14⟩
                  obtain ⟨w5, hb5', hg5, ho5⟩ := r13 (hall 12 (by simp))
                  have h14 := r14 (hall 13 (by simp))
                  simp only [putF, List.foldl_cons, List.foldl_nil, Act.put, List.setIfInBounds_toArray, List.set_cons_succ, List.set_cons_zero]
                  obtain ⟨A8, c8, e8, _⟩ := own_cl ho5
                  rw [e8] at ho5
                  rw [h14, e8]
                  clear hσ r0 r1 r2 r3 r4 r5 r6 r7 r8 r9 r10 r11 r12 r13 r14 hall hR h14 e8
                  have HO5 := hd ho5
                  have HG5 := hd hg5
                  have HB5 := hd hb5'
                  clear ho5 hg5 hb5' hsub0 hsub1
                  go_wp2_with fail
                  go_roundw
                  case rel =>
                    refine ⟨q + 1, j + 2, A8, c8, rfl, by go_num, by have := HJQ.out; omega, by omega, by rw [HTK.out]; exact HO5.out, ?_⟩
                    exact (HB.out.trans (HB5.out.mono hsz)).grown HG5.out (Nat.le_trans hsz HB5.out.size) (fun i hi => (HO6.out.lt i hi).1)
                  case measure => simp [intOf]; omega
              · have hj2I : ¬ (j : Int) + 1 < (m : Int) := by omega
                rw [if_neg hj2] at htk
                obtain ⟨P, hP⟩ : ∃ P, (upw l).take q = P := ⟨_, rfl⟩
                rw [hP] at htk hown
                have HO6 := hd hown
                have HB := hd hB
                have HTK := hd htk
                have HJQ := hd hjq
                have hq16 : q ≤ 16 := by omega
                have HO7 := hd (own_below hown ((Below.refl wr.heap.size wr).alloc (Nat.le_refl _) (.cells (ucs d) 35)))
                clear hown hB htk hjq hgt hdk hds hP hu hlm hm hj2
                go_wp2_with (at_builtin; refine wpList_app rfl (.tmp 51) (.tmp 56) 30 rfl wo.heap.size 35 (.agg (ucs (List.replicate 32 0))) 32 32 (by kernel_rfl) infoD rfl (by decide) (.slice A6 q c6) q _ rfl HO7.out (some ⟨wr.heap.size, 0, none⟩) 1 1 (dcs [d]) rfl (by rw [dcs_single, bcs_length, h32]) (fun e => nomatch e) (by rw [dcs_single]; exact row_cl (heap_alloc_new wr _)) (dcs_one _) (by unfold maxLen; omega) (by omega) (by simp; omega) ?_; intro v8 w8 ho8 hg8 _; rw [← dcs_append] at ho8; obtain ⟨A8, c8, rfl, _⟩ := own_cl ho8; have HO8 := hd ho8; have HG8 := hd hg8; clear ho8 hg8)
                go_roundw
                case rel =>
                  refine ⟨q + 1, j + 2, A8, c8, rfl, by go_num, by have := HJQ.out; omega, by omega, by rw [HTK.out]; exact HO8.out, ?_⟩
                  have h1 : Below wo.heap.size wo (wr.alloc (.cells (ucs d) 35)) := HB.out.alloc hsz _
                  exact h1.grown HG8.out h1.size (fun i hi => (HO6.out.lt i hi).1)
                case measure => simp [intOf]; omega
            · have hjlI : ¬ (j : Int) < (m : Int) := by omega
              obtain rfl : q = (m + 1) / 2 := by omega
              rw [List.take_of_length_le (by omega)] at hown
              have HO6 := hd hown
              have HB := hd hB
              clear hown hB hu hjq
              go_wp2_with fail
              go_meet
              exact ⟨A6, c6, rfl, HO6.out, HB.out⟩
        case rest =>
          obtain ⟨A6, c6, rfl, ho6, hb6⟩ := hcut
          have HO6 := hd ho6
          have HB6 := hd hb6
          have hs6 := hb6.size
          have HR6 := hd (own_below HR.out.1 (hb6.trans ((Below.refl wc.heap.size wc).alloc (Nat.le_refl _) (.cells #[.slice A6 ((m + 1) / 2) c6] 30) |>.mono hs6)))
          have hk7' := HK7.out
          rw [hk7'] at HR6
          clear ho6 hb6 hk7'
          go_wp2_with (at_builtin; refine wpList_appAt rfl (.tmp 59) (.tmp 61) 57 rfl w.heap.size 30 (.slice none 0 0) 1 24 (by kernel_rfl) infoS rfl (by decide) (.slice A7 k7 c7) k7 _ rfl HR6.out (some ⟨wc.heap.size, 0, none⟩) 1 1 [.slice A6 ((m + 1) / 2) c6] rfl rfl (fun e => nomatch e) (new_cl wc 30 _) one_slice (by unfold maxLen; omega) (by omega) (by simp; omega) ?_; intro v8 w8 ho8 hg8 hn8; obtain ⟨A8, c8, rfl, _⟩ := own_cl ho8; have HO8 := hd ho8; have HG8 := hd hg8; have HN8 := hd hn8; clear ho8 hg8 hn8)
          go_roundw
          case rel =>
            obtain ⟨g, rfl, hg, hst⟩ := rowsUp_step f l (by omega) (by omega)
            have hb6a : Below wo.heap.size wo (wc.alloc (.cells #[.slice A6 ((m + 1) / 2) c6] 30)) := HB6.out.trans ((Below.refl wc.heap.size wc).alloc (Nat.le_refl _) _ |>.mono hs6)
            have hR6 := HR.out.below hb6a
            have h32 := up32 HV.out.1.all
            have hl6 : (upw l).length = (m + 1) / 2 := by rw [upw_length, hm]
            have hs6' : SlD (wc.alloc (.cells #[.slice A6 ((m + 1) / 2) c6] 30)) (.slice A6 ((m + 1) / 2) c6) (upw l) (upw l).length := by
              rw [hl6]
              exact (own_sld HO6.out h32).below ((Below.refl wc.heap.size wc).alloc (Nat.le_refl _) _)
            have hR8 := RInv.snoc (l := upw l) hR6 hs6' (fun k hk => by
              have h1 := HO6.out.lt k hk
              refine ⟨by omega, by simp; omega, fun e => ?_⟩
              have := (HR.out.1.lt k e).2
              omega) (by rw [HK7.out]; exact HO8.out) HG8.out HN8.out
            refine ⟨(m + 1) / 2, k7 + 1, A6, A8, c6, c8, ps0 ++ [(.slice (some ⟨b5, o5, none⟩) m c5, l)], upw l, g, rfl, rfl, hl6, hR8, ?_, by omega, by omega, by omega, ?_⟩
            · rw [HRW.out, hst]; simp
            · have h1 : Below w.heap.size w (wc.alloc (.cells #[.slice A6 ((m + 1) / 2) c6] 30)) := HBw.out.trans (hb6a.mono hszw)
              exact h1.grown HG8.out h1.size (fun j hj => (HR.out.1.lt j hj).1)
          case measure => simp [lenOf]; omega
      · have hltI : ¬ (1 : Int) < (m : Int) := by omega
        go_wp2_with fail
        go_ret
        refine ⟨_, rfl, ⟨_, HR.out.1, fun k hk => (HR.out.1.lt k hk).2, ?_, fun p hp => ⟨(HR.out.2 p hp).1, fun k hk => ⟨((HR.out.2 p hp).2 k hk).1, ((HR.out.2 p hp).2 k hk).2.1⟩⟩⟩, HBw.out⟩
        rw [HRW.out, rowsUp_one f l (by omega)]; simp

end Go.Proofs.Ytjfplkndngmgdaa

namespace Go.Proofs.Ytjfplkndngmgdaa
set_option maxRecDepth 20000
open Go.RowKit Go.Shelf Sp

attribute [local go_sem ↓] ldD stD
attribute [local go_sem] run_ldA run_stA arrD loadX_at loadY_some storeX_at storeY_true ucs_size ones_ucs sha_length

set_option maxHeartbeats 2000000 in
set_option maxRecDepth 100000 in
theorem rroot_any (w : World) (A : Option Addr) (n c : Nat) (ds : List Dg) (hs : SlD w (.slice A n c) ds n) (h0 : 0 < n) (h16 : n ≤ 16) :
    Calls Try.prog 26 #[.slice A n c] w fun e w' => e = .returned (.agg (ucs (rootOf ds))) ∧ Below w.heap.size w w' := by
  have hlen := hs.len
  have hpos := rows_ne ds
  obtain ⟨k, hk⟩ : ∃ k, (rows ds).length = k + 1 := ⟨(rows ds).length - 1, by omega⟩
  have hk16 : k ≤ 16 := by have := rows_length ds; omega
  have hlast := rows_last ds (by omega)
  rw [hk, Nat.add_sub_cancel] at hlast
  obtain ⟨r, hr⟩ : ∃ r, rootOf ds = r := ⟨_, rfl⟩
  rw [hr] at hlast ⊢
  have HLAST := hd hlast
  have HK := hd hk
  have HS := hd hs
  have HN := hd hlen
  clear hpos hlast hk hs hlen hr
  go_enter Try.func26, Try.ntmps26
  go_upto_region 0 with (fail)
  go_cut [2] from 2 to 2 (fun v1 wx => v1 = .pointer (some ⟨w.heap.size, 0, none⟩) ∧ wx.heap[w.heap.size]? = some (.cells (ucs (List.replicate 32 0)) 35 (0, 0)) ∧ wx.heap.size = w.heap.size + 1 ∧ Below w.heap.size w wx)
  case first =>
    go_wp2_with fail
    go_meet
    exact ⟨rfl, heap_alloc_new w _, by simp, (Below.refl _ _).alloc (Nat.le_refl _) _⟩
  case rest =>
    obtain ⟨rfl, hD, hz, hB⟩ := hcut
    have HD := hd hD
    have HB := hd hB
    have hlt : w.heap.size < wc.heap.size := by omega
    have HRR := hd (rrows_any wc A n c ds (HS.out.below hB) h0 h16)
    clear hD hB hz
    go_upto_region 2 with (go_at_call 28; refine HRR.out.mono ?_; rintro e w1 ⟨v1, rfl, hrow, hb1⟩; have HROW := hd hrow; have HB1 := hd hb1; clear hrow hb1)
    obtain ⟨rb, rc, rfl, hrb, hrB, hrc, hcells⟩ := HROW.out.open (by have := HN.out; omega)
    obtain ⟨_, b', o', c', h5, h6, _, hb'⟩ := hcells k [r] HLAST.out
    have hsub := h6.sub 0 rfl
    rw [Nat.zero_mul, Nat.add_zero] at hsub
    have h32 := h6.all.get (k := 0) rfl
    have hk' := HK.out
    rw [hk'] at hrc ⊢
    have hD1 := (HB1.out.block _ hlt).trans HD.out
    have hcan := can_row (o := 0) (n := 32) hD1 (by simp [ucs_size])
    have HD1 := hd hD1
    have wk : IntKind.i64.wrap (k : Int) = (k : Int) := IntWalk.i64_in _ (by omega)
    have ek : ((k + 1 : Nat) : Int) - 1 = (k : Int) := by omega
    have hL : [r].length = 1 := rfl
    rw [hL] at h5
    clear hcells h6 hk' hD1
    go_wp2_with fail
    have hrow := putSub_row (w := w1) (c := ucs r) HD1.out (by simp [ucs_size, h32])
    refine bodyPost_ret (ret_row rfl (n := 32) (by kernel_rfl) _ _ w.heap.size 0 (ucs r) rfl (sub_row hrow (by rw [ucs_size, h32]))) rfl ⟨rfl, Below.putSub (HB.out.trans (HB1.out.mono HB.out.size)) (Nat.le_refl _)⟩

set_option maxHeartbeats 2000000 in
set_option maxRecDepth 100000 in
theorem same_any (w : World) (A1 A2 : Option Addr) (n1 n2 c1 c2 : Nat) (d1 d2 : List Dg) (hs1 : SlD w (.slice A1 n1 c1) d1 n1) (hs2 : SlD w (.slice A2 n2 c2) d2 n2) (h16 : n1 ≤ 1000) :
    Calls Try.prog 23 #[.slice A1 n1 c1, .slice A2 n2 c2] w fun e w' => e = .returned (.bool (decide (d1 = d2))) ∧ Below w.heap.size w w' := by
  have hl1 := hs1.len
  have hl2 := hs2.len
  obtain ⟨R, hR⟩ : ∃ R, decide (d1 = d2) = R := ⟨_, rfl⟩
  rw [hR]
  have HR := hd hR
  have HS1 := hd hs1
  have HS2 := hd hs2
  clear hR hs1 hs2
  by_cases hn : n1 = n2
  · subst hn
    have hne : ((n1 : Int) != (n1 : Int)) = false := by simp
    go_enter Try.func23, Try.ntmps23
    go_wp2_with fail
    go_loopw [5] (fun x wr => ∃ k : Nat, x = .int .i64 (k : Int) ∧ k ≤ n1 ∧ d1.take k = d2.take k ∧ Below w.heap.size w wr) (fun x _ => n1 - (intOf x).toNat)
    case atStart => exact ⟨0, rfl, Nat.zero_le _, rfl, Below.refl _ _⟩
    case round =>
      obtain ⟨k, rfl, hk, htk, hB⟩ := hrel
      have HB := hd hB
      by_cases hlt : k < n1
      · have hltI : (k : Int) < (n1 : Int) := by omega
        have hk0 : (0 : Int) ≤ (k : Int) := by omega
        obtain ⟨e1, he1⟩ : ∃ d, d1[k]? = some d := ⟨d1[k]'(by omega), List.getElem?_eq_getElem (by omega)⟩
        obtain ⟨e2, he2⟩ : ∃ d, d2[k]? = some d := ⟨d2[k]'(by omega), List.getElem?_eq_getElem (by omega)⟩
        have hsd1 := HS1.out.below hB
        have hsd2 := HS2.out.below hB
        obtain ⟨b1, o1, rfl, _⟩ := hsd1.at (by omega)
        obtain ⟨b2, o2, rfl, _⟩ := hsd2.at (by omega)
        have hsub1 := hsd1.sub k he1
        have hsub2 := hsd2.sub k he2
        have h321 := hsd1.all.get he1
        have h322 := hsd2.all.get he2
        have htk1 : d1.take (k + 1) = d1.take k ++ [e1] := by rw [List.take_add_one, he1]; rfl
        have htk2 : d2.take (k + 1) = d2.take k ++ [e2] := by rw [List.take_add_one, he2]; rfl
        have hq := fun W : World => eq_dig e1 e2 h321 h322 W
        by_cases hee : e1 = e2
        · have htk' : d1.take (k + 1) = d2.take (k + 1) := by rw [htk1, htk2, htk, hee]
          rw [decide_eq_true hee] at hq
          have HTK := hd htk'
          clear htk' hee he1 he2 hsd1 hsd2 htk1 htk2 htk hB
          go_wp2_with fail
          go_quiet (fail)
          go_wp2_with fail
          go_roundw
          case rel => exact ⟨k + 1, by go_num, by omega, HTK.out, below_drewN HB.out _⟩
          case measure => simp [intOf]; omega
        · have hno : R = false := by
            rw [← HR.out, decide_eq_false_iff_not]
            intro e
            subst e
            rw [he1] at he2
            exact hee (by simpa using he2)
          rw [decide_eq_false hee] at hq
          have HNO := hd hno
          clear hno hee he1 he2 hsd1 hsd2 htk1 htk2 htk hB
          go_wp2_with fail
          go_quiet (fail)
          go_wp2_with fail
          go_ret
          exact ⟨by rw [HNO.out]; rfl, below_drewN HB.out _⟩
      · obtain rfl : k = n1 := by omega
        have hyes : R = true := by
          rw [← HR.out, decide_eq_true_eq]
          rwa [List.take_of_length_le (by omega), List.take_of_length_le (by omega)] at htk
        have hge : ¬ (k : Int) < (k : Int) := by omega
        have HYES := hd hyes
        clear hyes htk hB
        go_wp2_with fail
        go_ret
        exact ⟨by rw [HYES.out]; rfl, HB.out⟩
  · have hno : R = false := by
      rw [← HR.out, decide_eq_false_iff_not]
      intro e
      subst e
      omega
    have hne : ((n1 : Int) != (n2 : Int)) = true := by simp; omega
    have HNO := hd hno
    clear hno hn
    go_enter Try.func23, Try.ntmps23
    go_wp2_with fail
    go_ret
    exact ⟨by rw [HNO.out]; rfl, Below.refl _ _⟩

end Go.Proofs.Ytjfplkndngmgdaa

namespace Go.Proofs.Ytjfplkndngmgdaa
set_option maxRecDepth 20000
open Go.RowKit Go.Shelf Sp

attribute [local go_sem ↓] ldD stD
attribute [local go_sem] run_ldA run_stA arrD loadX_at loadY_some storeX_at storeY_true ucs_size ones_ucs sha_length
attribute [local go_sem] fold_fill

theorem rowsUp_oth : ∀ (f i : Nat) (l : List Dg), l.length ≤ f → (rowsUp f l).length = (oth f i l.length).length + 1
  | 0, i, l, h => by simp [rowsUp, oth]
  | f + 1, i, l, h => by
    by_cases h1 : l.length ≤ 1
    · rw [rowsUp_one _ _ h1, oth_done _ _ _ h1]; rfl
    · have hu := upw_length l
      have ih := rowsUp_oth f (i / 2) (upw l) (by omega)
      rw [hu] at ih
      rw [rowsUp, if_neg h1, oth, if_neg h1, List.length_cons, List.length_cons, ih]
theorem rows_oths (ds : List Dg) (i : Nat) : (rows ds).length = (oths i ds.length).length + 1 := by
  have h := rowsUp_oth ds.length i (ds.map mrk) (by simp)
  rwa [List.length_map] at h

set_option maxHeartbeats 2000000 in
set_option maxRecDepth 100000 in
theorem rpath_any (w : World) (A : Option Addr) (n c : Nat) (ds : List Dg) (hs : SlD w (.slice A n c) ds n) (i : Nat) (hi : i < n) (h16 : n ≤ 16) :
    Calls Try.prog 24 #[.slice A n c, .int .i64 (i : Int)] w fun e w' => ∃ v, e = .returned v ∧ w'.ownsRow w.heap.size 35 32 v (steps (oths i n)) (dcs (pathOf ds i)) ∧ Below w.heap.size w w' := by
  have hlen := hs.len
  have h0 : 0 < n := by omega
  have hRL := rows_oths ds i
  have hrl := rows_length ds
  rw [hlen] at hRL hrl
  obtain ⟨R, hR⟩ : ∃ R, (rows ds).length = R := ⟨_, rfl⟩
  rw [hR] at hRL hrl
  have HRL := hd hRL
  have HR := hd hR
  have HRR := hd (rrows_any w A n c ds hs h0 h16)
  have HN := hd hlen
  clear hs hRL hR hlen
  go_enter Try.func24, Try.ntmps24
  go_upto_block 0 with (go_at_call 28; refine HRR.out.mono ?_; rintro e w1 ⟨v1, rfl, hrow, hb1⟩; have HROW := hd hrow; have HB1 := hd hb1; clear hrow hb1)
  obtain ⟨rb, rc, rfl, hrb, hrB, hrc, hcells⟩ := HROW.out.open (by have := HN.out; omega)
  rw [HR.out] at hrc ⊢
  have HCE := hd hcells
  have hsz1 := HB1.out.size
  clear hcells
  go_wp2_with fail
  go_loopw [1, 6, 7] (fun x y z wr => ∃ (f j m k : Nat) (pre : List (Nat × Bool)) (A6 : Option Addr) (c6 : Nat), x = .int .i64 (j : Int) ∧ y = .slice A6 (steps pre) c6 ∧ z = .int .i64 (k : Int) ∧ pre.length = k ∧ oths i n = pre ++ oth f j m ∧ m ≤ f ∧ j < m ∧ m ≤ 16 ∧ wr.ownsRow w1.heap.size 35 32 (.slice A6 (steps pre) c6) (steps pre) (dcs (pathFrom (rows ds) 0 pre)) ∧ Below w1.heap.size w1 wr) (fun _ _ z _ => R - (intOf z).toNat)
  case atStart => exact ⟨n, i, n, 0, [], none, 0, rfl, rfl, rfl, rfl, rfl, Nat.le_refl _, hi, h16, World.ownsRow_nil _ _ _ _, Below.refl _ _⟩
  case round =>
    obtain ⟨f, j, m, k, pre, A6, c6, rfl, rfl, rfl, hkp, hxs, hmf, hjm, hm16, hown, hB⟩ := hrel
    have hL := HRL.out
    rw [hxs, List.length_append, hkp] at hL
    have hsz := hB.size
    have HB := hd hB
    by_cases hm1 : 1 < m
    · obtain ⟨g, rfl, hg, hst⟩ := oth_step f j m hm1 hmf
      rw [hst] at hxs hL
      rw [List.length_cons] at hL
      have hpx : pre ++ [(sib j, decide (sib j < m))] <+: oths i ds.length := by rw [HN.out]; exact ⟨oth g (j / 2) ((m + 1) / 2), by rw [hxs]; simp⟩
      obtain ⟨r, hr1, hr2, hr3⟩ := oths_at hpx
      rw [hkp] at hr1
      have hxs' : oths i n = (pre ++ [(sib j, decide (sib j < m))]) ++ oth g (j / 2) ((m + 1) / 2) := by rw [hxs]; simp
      have hpp := pathFrom_snoc (rows ds) pre 0 (sib j, decide (sib j < m))
      have hss := steps_snoc pre (sib j, decide (sib j < m))
      rw [Nat.zero_add, hkp, hr1] at hpp
      simp only [Option.getD_some] at hpp hr2
      obtain ⟨hr0, b', o', c', hcr0, hsd, hbB, hb'⟩ := HCE.out k r hr1
      have hsd' := hsd.below hB
      have hcr : wr.cell? ⟨rb, k, none⟩ = some (.slice (some ⟨b', o', none⟩) r.length c') := (hB.cell (p := ⟨rb, k, none⟩) hrb).trans hcr0
      have hkI : (k : Int) + 1 < (R : Int) := by omega
      have hk0 : (0 : Int) ≤ (k : Int) := by omega
      have hkR : (k : Int) < (R : Int) := by omega
      have hlen1 : (pre ++ [(sib j, decide (sib j < m))]).length = k + 1 := by rw [List.length_append, hkp]; rfl
      have hsteps : steps pre ≤ 16 := by
        have h1 := steps_prefix hpx
        have h2 := steps_prefix (List.prefix_append pre [(sib j, decide (sib j < m))])
        have h3 := steps_le (oths i ds.length)
        have h4 : (oths i ds.length).length ≤ ds.length := oth_len _ _ _
        have := HN.out
        omega
      obtain ⟨s, hsq⟩ : ∃ s, sib j = s := ⟨_, rfl⟩
      have hsb : (j : Int) + 1 - 2 * ((j : Int) % 2) = (s : Int) := by
        rw [← hsq]; unfold sib; split <;> omega
      have hs20 : s ≤ 20 := by rw [← hsq]; unfold sib; split <;> omega
      rw [hsq] at hr2 hxs' hpp hss hlen1
      obtain ⟨P, hP⟩ : ∃ P, pathFrom (rows ds) 0 pre = P := ⟨_, rfl⟩
      rw [hP] at hpp hown
      obtain ⟨t, ht⟩ : ∃ t, steps pre = t := ⟨_, rfl⟩
      rw [ht] at hss hown hsteps ⊢
      obtain ⟨q, hq⟩ : ∃ q, r.length = q := ⟨_, rfl⟩
      rw [hq] at hcr hr2 hsd'
      have HXS := hd hxs'
      have HLEN := hd hlen1
      have HOWN := hd hown
      by_cases hlt : s < m
      · have hsr : s < q := by rw [decide_eq_true hlt] at hr2; simpa using hr2.symm
        have hsrI : (s : Int) < (q : Int) := by omega
        have hs0 : (0 : Int) ≤ (s : Int) := by omega
        obtain ⟨d, hdk⟩ : ∃ d, r[s]? = some d := ⟨r[s]'(by omega), List.getElem?_eq_getElem (by omega)⟩
        have hsub := hsd'.sub s hdk
        have h32 := hsd'.all.get hdk
        rw [decide_eq_true hlt] at hpp hss
        rw [if_pos rfl, getD_of hdk] at hpp
        rw [if_pos rfl] at hss
        have HPP := hd hpp
        have HSS := hd hss
        have HOA := hd (own_below hown ((Below.refl wr.heap.size wr).alloc (Nat.le_refl _) (.cells (ucs d) 35)))
        have HXS' := hd (show oths i n = (pre ++ [(s, true)]) ++ oth g (j / 2) ((m + 1) / 2) by rw [HXS.out, decide_eq_true hlt])
        have HLEN' := hd (show (pre ++ [(s, true)]).length = k + 1 by rw [← HLEN.out]; simp)
        have hj1 : (0 : Int) ≤ (j : Int) := by omega
        clear hxs hxs' hst hL hpx hr1 hr2 hr3 hpp hss hcr0 hsd hsd' hlen1 hsq hP ht hq hdk hown hB hkp
        go_wp2_with (at_builtin; refine wpList_app rfl (.tmp 31) (.tmp 39) 30 rfl w1.heap.size 35 (.agg (ucs (List.replicate 32 0))) 32 32 (by kernel_rfl) infoD rfl (by decide) (.slice A6 t c6) t _ rfl HOA.out (some ⟨wr.heap.size, 0, none⟩) 1 1 (dcs [d]) rfl (by rw [dcs_single, bcs_length, h32]) (fun e => nomatch e) (by rw [dcs_single]; exact row_cl (heap_alloc_new wr _)) (dcs_one _) (by unfold maxLen; omega) (by omega) (by simp; omega) ?_; intro v8 w8 ho8 hg8 _; rw [← dcs_append] at ho8; obtain ⟨A8, c8, rfl, _⟩ := own_cl ho8; have HO8 := hd ho8; have HG8 := hd hg8; clear ho8 hg8)
        go_roundw
        case rel =>
          refine ⟨g, j / 2, (m + 1) / 2, k + 1, pre ++ [(s, true)], A8, c8, by go_num, by rw [HSS.out], by go_num, HLEN'.out, HXS'.out, hg, by omega, by omega, by rw [HSS.out, HPP.out]; exact HO8.out, ?_⟩
          have h1 : Below w1.heap.size w1 (wr.alloc (.cells (ucs d) 35)) := HB.out.alloc hsz _
          exact h1.grown HG8.out h1.size (fun i hi => (HOWN.out.lt i hi).1)
        case measure => simp [intOf]; omega
      · have hsr : ¬ s < q := by rw [decide_eq_false hlt] at hr2; simpa using hr2.symm
        have hsrI : ¬ (s : Int) < (q : Int) := by omega
        rw [decide_eq_false hlt] at hpp hss
        rw [if_neg (by simp), List.append_nil] at hpp
        rw [if_neg (by simp), Nat.add_zero] at hss
        have HPP := hd hpp
        have HSS := hd hss
        have HXS' := hd (show oths i n = (pre ++ [(s, false)]) ++ oth g (j / 2) ((m + 1) / 2) by rw [HXS.out, decide_eq_false hlt])
        have HLEN' := hd (show (pre ++ [(s, false)]).length = k + 1 by rw [← HLEN.out]; simp)
        have hj1 : (0 : Int) ≤ (j : Int) := by omega
        clear hxs hxs' hst hL hpx hr1 hr2 hr3 hpp hss hcr0 hsd hsd' hlen1 hsq hP ht hq hown hB hkp
        go_wp2_with fail
        go_roundw
        case rel =>
          exact ⟨g, j / 2, (m + 1) / 2, k + 1, pre ++ [(s, false)], A6, c6, by go_num, by rw [HSS.out], by go_num, HLEN'.out, HXS'.out, hg, by omega, by omega, by rw [HSS.out, HPP.out]; exact HOWN.out, HB.out⟩
        case measure => simp [intOf]; omega
    · rw [oth_done _ _ _ (by omega)] at hxs hL
      have hkI : ¬ (k : Int) + 1 < (R : Int) := by simp at hL; omega
      rw [List.append_nil] at hxs
      have HXS := hd hxs
      have HOWN := hd hown
      obtain ⟨t, ht⟩ : ∃ t, steps pre = t := ⟨_, rfl⟩
      have HT := hd ht
      rw [ht]
      have hk16 : k ≤ 17 := by simp at hL; omega
      clear hxs hL hown ht hB hkp
      go_wp2_with fail
      go_ret
      refine ⟨_, rfl, ?_, HB1.out.trans (HB.out.mono hsz1)⟩
      rw [HXS.out, HT.out, show pathOf ds i = pathFrom (rows ds) 0 pre by unfold pathOf; rw [HN.out, HXS.out]]
      have h9 := own_mono HOWN.out hsz1
      rwa [HT.out] at h9

end Go.Proofs.Ytjfplkndngmgdaa

namespace Go.Proofs.Ytjfplkndngmgdaa
set_option maxRecDepth 20000
open Go.RowKit Go.Shelf Sp

attribute [local go_sem ↓] ldD stD
attribute [local go_sem] run_ldA run_stA arrD loadX_at loadY_some storeX_at storeY_true ucs_size ones_ucs sha_length

/-- How a round of the document's Up ends. -/
theorem rup_chg {D : Nat} {W0 wr w5 : World} {nw cur : Dg} (h : Chg (fun k => k = D) W0 wr) (hD : D < wr.heap.size) (hb : Below wr.heap.size wr w5) (hdd : wr.heap[D]? = some (.cells (ucs cur) 35 (0, 0))) (hc : cur.length = 32) (hn : nw.length = 32) :
    (putSub w5 D 0 (ucs nw)).heap[D]? = some (.cells (ucs nw) 35 (0, 0)) ∧ Chg (fun k => k = D) W0 (putSub w5 D 0 (ucs nw)) :=
  ⟨putSub_row ((hb.block D hD).trans hdd) (by rw [ucs_size, ucs_size, hc, hn]), h.trans ((Chg.below (p := fun k => k = D) hb).trans (Chg.putSub _ _ _) (fun j _ e => e)) (fun j _ e => e)⟩
theorem upAll_at {pre : List (Nat × Bool)} {dl : Dg} {path : List Dg} {e : Dg} (s : Nat) (he : path[steps pre]? = some e) :
    (upAll (pre ++ [(s, true)]) dl path).1 = if s % 2 = 0 then bth e (upAll pre dl path).1 else bth (upAll pre dl path).1 e := by
  have h1 := upAll_snd pre dl path
  rw [upAll_snoc]
  have h2 : (upAll pre dl path).2.headD [] = e := by
    rw [h1, List.headD_eq_head?_getD, List.head?_drop, he]; rfl
  unfold upStep
  rw [if_pos rfl, h2]
theorem upAll_no {pre : List (Nat × Bool)} {dl : Dg} {path : List Dg} (s : Nat) : (upAll (pre ++ [(s, false)]) dl path).1 = (upAll pre dl path).1 := by
  rw [upAll_snoc]; rfl

set_option maxHeartbeats 4000000 in
set_option maxRecDepth 100000 in
theorem rup_ok (w : World) (d : Dg) (hd0 : d.length = 32) (i n m c : Nat) (A : Option Addr) (path : List Dg) (hs : SlD w (.slice A m c) path m) (hi : i < n) (hn : n ≤ 16) (hm : m = steps (oths i n)) :
    Calls Try.prog 25 #[.agg (ucs d), .int .i64 (i : Int), .int .i64 (n : Int), .slice A m c] w fun e w' => e = .returned (.tuple #[.agg (ucs (upAll (oths i n) (mrk d) path).1), .int .i64 0]) ∧ Below w.heap.size w w' := by
  have hE := stE_ok hi hn
  have hN := stN_ok hi hn
  rw [← hm] at hN
  have HSL := hd hs
  have HM := hd hm
  have hm16 : m ≤ 16 := by
    have h1 := steps_le (oths i n)
    have h2 : (oths i n).length ≤ n := oth_len n i n
    omega
  have HST := hd (fun (W : World) => show Calls Try.prog 14 #[.int .i64 (i : Int), .int .i64 (n : Int)] W fun e w' => e = .returned (.tuple #[.int .i64 (m : Int), .int .i64 0]) ∧ W = w' from by
    have h := rsteps_any W (i : Int) (n : Int)
    rwa [hE, hN] at h)
  have hmm : ((m : Int) != (m : Int)) = false := by simp
  clear hs hm hE hN
  go_enter Try.func25, Try.ntmps25
  go_upto_region 0 with (fail)
  go_cut [4, 8, 9] from 4 to 9 (fun v4 v8 v9 wx => v4 = .pointer (some ⟨w.heap.size, 0, none⟩) ∧ v8 = .pointer (some ⟨w.heap.size + 1, 0, none⟩) ∧ v9 = .int .i64 0 ∧ wx.heap[w.heap.size]? = some (.cells (ucs d) 35 (0, 0)) ∧ wx.heap[w.heap.size + 1]? = some (.cells (ucs (List.replicate 32 0)) 35 (0, 0)) ∧ wx.heap.size = w.heap.size + 2 ∧ Below w.heap.size w wx)
  case first =>
    go_wp2_with fail
    go_meet
    have h2 := heap_alloc_new (w.alloc (.cells (ucs d) 35)) (.cells (ucs (List.replicate 32 0)) 35)
    rw [World.size_alloc] at h2
    exact ⟨rfl, rfl, rfl, blk_alloc (heap_alloc_new w _) _, h2, by simp, ((Below.refl _ _).alloc (Nat.le_refl _) _).alloc (by simp) _⟩
  case rest =>
    obtain ⟨rfl, rfl, rfl, hE, hD, hz, hB⟩ := hcut
    have HD := hd hD
    have HB := hd hB
    have hsub := sub_row (n := 32) hE (by rw [ucs_size, hd0])
    have hlt1 : w.heap.size + 1 < wc.heap.size := by omega
    clear hE hD hB
    go_upto_block 0 with (first
      | (go_at_call 14; refine (HST.out _).mono ?_; rintro e w1 ⟨rfl, rfl⟩)
      | (go_at_call 41; refine (rmark_any _ d hd0).mono ?_; rintro e w2 ⟨rfl, hb2⟩; have HB2 := hd hb2; have hcan := can_row (o := 0) (n := 32) (heap_alloc_new w2 (.cells (ucs (List.replicate 32 0)) 35)) (by simp [ucs_size]); clear hb2))
    obtain ⟨D, hDq⟩ : ∃ D, w2.heap.size = D := ⟨_, rfl⟩
    obtain ⟨W3, hW3⟩ : ∃ W3, w2.alloc (.cells (ucs (sha (0 :: d))) 35) = W3 := ⟨_, rfl⟩
    have z3 : W3.heap.size = D + 1 := by rw [← hW3, ← hDq]; simp
    have l3 : Below D w2 W3 := by rw [← hW3, ← hDq]; exact (Below.refl _ _).alloc (Nat.le_refl _) _
    have b3 : W3.heap[D]? = some (.cells (ucs (upAll [] (mrk d) path).1) 35 (0, 0)) := by rw [← hW3, ← hDq]; exact heap_alloc_new w2 _
    have hsz2 : wc.heap.size ≤ D := by rw [← hDq]; exact HB2.out.size
    have lc2 : Below wc.heap.size wc W3 := HB2.out.trans (l3.mono (by omega))
    have HD3 := hd b3
    have HL := hd (HB.out.trans (lc2.mono (by omega)))
    have HSL3 := hd (HSL.out.below HL.out)
    have HRES := hd ((lc2.block (w.heap.size + 1) (by omega)).trans HD.out)
    have hDlt : w.heap.size + 2 ≤ D := by omega
    rw [hW3, hDq]
    clear hsub hcan hDq hW3 l3 b3 lc2 HB HB2 HD hsz2 HST hz hlt1
    go_wp2_with fail
    go_loopw [1, 2, 13] (fun x y z wr => ∃ (f j k s : Nat) (pre : List (Nat × Bool)) (cur : Dg), x = .int .i64 (j : Int) ∧ y = .int .i64 (k : Int) ∧ z = .int .i64 (s : Int) ∧ steps pre = s ∧ oths i n = pre ++ oth f j k ∧ k ≤ f ∧ j < k ∧ k ≤ 16 ∧ (upAll pre (mrk d) path).1 = cur ∧ cur.length = 32 ∧ wr.heap[D]? = some (.cells (ucs cur) 35 (0, 0)) ∧ Chg (fun k => k = D) W3 wr) (fun _ y _ _ => (intOf y).toNat)
    case atStart => exact ⟨n, i, n, 0, [], mrk d, rfl, rfl, rfl, rfl, rfl, Nat.le_refl _, hi, hn, rfl, mrk_length d, HD3.out, Chg.refl _ _⟩
    case round =>
      obtain ⟨f, j, k, s, pre, cur, rfl, rfl, rfl, hsp, hxs, hkf, hjk, hk16, hcq, hcur, hdd, hch⟩ := hrel
      have hszr := hch.size
      have hDr : D < wr.heap.size := by omega
      have HDD := hd hdd
      have HCH := hd hch
      by_cases hk1 : 1 < k
      · obtain ⟨g, rfl, hg, hst⟩ := oth_step f j k hk1 hkf
        rw [hst] at hxs
        have hxs' : oths i n = (pre ++ [(sib j, decide (sib j < k))]) ++ oth g (j / 2) ((k + 1) / 2) := by rw [hxs]; simp
        have hk1I : (1 : Int) < (k : Int) := by omega
        have hmx := HM.out
        rw [hxs'] at hmx
        by_cases hsk : sib j < k
        · rw [decide_eq_true hsk] at hxs' hmx
          have hs1 : s + 1 ≤ m := by
            have h1 := steps_prefix (List.prefix_append (pre ++ [(sib j, true)]) (oth g (j / 2) ((k + 1) / 2)))
            rw [← hmx, steps_snoc, hsp] at h1
            exact h1
          have hss := steps_snoc pre (sib j, true)
          rw [hsp, if_pos rfl] at hss
          have hsd := HSL3.out.keep (w' := wr) (fun q hq hlt => hch.block q hlt (by
            obtain ⟨b, o, e, hb⟩ := HSL.out.at (by omega)
            subst e
            cases hq
            show ¬ b = D
            omega))
          obtain ⟨b, o, rfl, hb⟩ := hsd.at (by omega)
          have hpl := hsd.len
          obtain ⟨eh, heh⟩ : ∃ e, path[s]? = some e := ⟨path[s]'(by omega), List.getElem?_eq_getElem (by omega)⟩
          have hsube := hsd.sub s heh
          have h32 := hsd.all.get heh
          have hup := upAll_at (pre := pre) (dl := mrk d) (path := path) (sib j) (by rw [hsp]; exact heh)
          rw [hcq] at hup
          have hsm : (s : Int) < (m : Int) := by omega
          have hs0 : (0 : Int) ≤ (s : Int) := by omega
          have hs16 : s ≤ 16 := by omega
          have HSS := hd hss
          have HXS := hd hxs'
          by_cases hjo : j % 2 = 1
          · have hjI : ((j : Int) % 2 == 1) = true := by simp; omega
            rw [if_pos (by rw [sib_odd hjo]; omega)] at hup
            obtain ⟨nw, hnw⟩ : ∃ nw, bth eh cur = nw := ⟨_, rfl⟩
            have hnl : nw.length = 32 := by rw [← hnw]; exact bth_length _ _
            have HBOTH := hd (fun W' : World => show Calls Try.prog 42 #[.agg (ucs eh), .agg (ucs cur)] W' fun e w' => e = .returned (.agg (ucs nw)) ∧ Below W'.heap.size W' w' from by
              rw [← hnw]; exact rboth_any W' eh cur h32 hcur)
            rw [hnw] at hup
            have HUP := hd hup
            clear hxs hxs' hst hmx hss hsd hpl heh hup hnw hcq hsp hdd hch hsk hjo
            go_wp2_with fail
            refine wp_region_inv [36, 37, 38, 39, 40, 41] (fun done σ w' => (done 6 = false → Below wr.heap.size wr w') ∧
              (done 0 = true → σ 36 = .slice (some ⟨b, o, none⟩) m c) ∧
              (done 1 = true → σ 37 = .int .i64 (s : Int)) ∧
              (done 2 = true → σ 38 = .pointer (some ⟨b, o + s * 32, none⟩)) ∧
              (done 3 = true → σ 39 = .agg (ucs eh)) ∧
              (done 4 = true → σ 40 = .agg (ucs cur)) ∧
              (done 5 = true → σ 41 = .agg (ucs nw)) ∧
              (done 6 = true → StoD D wr w' nw)) (by kernel_rfl) (by kernel_rfl) ?_ ?_ ?_
            · simp
              exact Below.drew (Below.refl _ _)
            · refine ⟨fun done σ w' a hi hA hC ha hσ ⟨hR, r0, r1, r2, r3, r4, r5, r6⟩ => ?_, ?_⟩
              · have e0 := hσ 3 (by simp)
                simp only [List.getElem?_toArray] at e0
                refine stepG_plain rfl fun K hK => ?_
                go_simp
                refine hK _ _ ?_
                simp [mk, up]
                exact ⟨hR, r1, r2, r3, r4, r5, r6⟩
              refine ⟨fun done σ w' a hi hA hC ha hσ ⟨hR, r0, r1, r2, r3, r4, r5, r6⟩ => ?_, ?_⟩
              · have e0 := hσ 13 (by simp)
                simp only [List.getElem?_toArray] at e0
                refine stepG_plain rfl fun K hK => ?_
                go_simp
                refine hK _ _ ?_
                simp [mk, up]
                exact ⟨hR, r0, r2, r3, r4, r5, r6⟩
              refine ⟨fun done σ w' a hi hA hC ha hσ ⟨hR, r0, r1, r2, r3, r4, r5, r6⟩ => ?_, ?_⟩
              · simp [After, Region.binds] at hA
                have e0 := r0 (by first | exact hA | exact hA.1 | exact hA.2 | exact hA.2.1 | exact hA.2.2 | exact hA.2.2.1 | exact hA.2.2.2 | exact hA.2.2.2.1 | exact hA.2.2.2.2 | exact hA.2.2.2.2.1 | exact hA.2.2.2.2.2 | exact hA.2.2.2.2.2.1 | exact hA.2.2.2.2.2.2 | exact hA.2.2.2.2.2.2.1 | exact hA.2.2.2.2.2.2.2 | exact hA.2.2.2.2.2.2.2.1 | exact hA.2.2.2.2.2.2.2.2 | exact hA.2.2.2.2.2.2.2.2.1 | exact hA.2.2.2.2.2.2.2.2.2)
                have e1 := r1 (by first | exact hA | exact hA.1 | exact hA.2 | exact hA.2.1 | exact hA.2.2 | exact hA.2.2.1 | exact hA.2.2.2 | exact hA.2.2.2.1 | exact hA.2.2.2.2 | exact hA.2.2.2.2.1 | exact hA.2.2.2.2.2 | exact hA.2.2.2.2.2.1 | exact hA.2.2.2.2.2.2 | exact hA.2.2.2.2.2.2.1 | exact hA.2.2.2.2.2.2.2 | exact hA.2.2.2.2.2.2.2.1 | exact hA.2.2.2.2.2.2.2.2 | exact hA.2.2.2.2.2.2.2.2.1 | exact hA.2.2.2.2.2.2.2.2.2)
                refine stepG_plain rfl fun K hK => ?_
                go_simp
                refine hK _ _ ?_
                simp [mk, up]
                exact ⟨hR, r0, r1, r3, r4, r5, r6⟩
              refine ⟨fun done σ w' a hi hA hC ha hσ ⟨hR, r0, r1, r2, r3, r4, r5, r6⟩ => ?_, ?_⟩
              · simp [After, Region.binds] at hA
                have e0 := r2 (by first | exact hA | exact hA.1 | exact hA.2 | exact hA.2.1 | exact hA.2.2 | exact hA.2.2.1 | exact hA.2.2.2 | exact hA.2.2.2.1 | exact hA.2.2.2.2 | exact hA.2.2.2.2.1 | exact hA.2.2.2.2.2 | exact hA.2.2.2.2.2.1 | exact hA.2.2.2.2.2.2 | exact hA.2.2.2.2.2.2.1 | exact hA.2.2.2.2.2.2.2 | exact hA.2.2.2.2.2.2.2.1 | exact hA.2.2.2.2.2.2.2.2 | exact hA.2.2.2.2.2.2.2.2.1 | exact hA.2.2.2.2.2.2.2.2.2)
                have d6 := hC.at 3 6 _ rfl hi rfl
                have e9 := (sub_of_heap ((hR d6).block b hb)).trans hsube
                refine stepG_plain rfl fun K hK => ?_
                go_simp
                refine hK _ _ ?_
                simp [mk, up]
                exact ⟨hR, r0, r1, r2, r4, r5, r6⟩
              refine ⟨fun done σ w' a hi hA hC ha hσ ⟨hR, r0, r1, r2, r3, r4, r5, r6⟩ => ?_, ?_⟩
              · have e0 := hσ 12 (by simp)
                simp only [List.getElem?_toArray] at e0
                have d6 := hC.at 4 6 _ rfl hi rfl
                have e9 := sub_row (n := 32) (((hR d6).block D hDr).trans HDD.out) (by rw [ucs_size, hcur])
                refine stepG_plain rfl fun K hK => ?_
                go_simp
                refine hK _ _ ?_
                simp [mk, up]
                exact ⟨hR, r0, r1, r2, r3, r5, r6⟩
              refine ⟨fun done σ w' a hi hA hC ha hσ ⟨hR, r0, r1, r2, r3, r4, r5, r6⟩ => ?_, ?_⟩
              · simp [After, Region.binds] at hA
                have e0 := r3 (by first | exact hA | exact hA.1 | exact hA.2 | exact hA.2.1 | exact hA.2.2 | exact hA.2.2.1 | exact hA.2.2.2 | exact hA.2.2.2.1 | exact hA.2.2.2.2 | exact hA.2.2.2.2.1 | exact hA.2.2.2.2.2 | exact hA.2.2.2.2.2.1 | exact hA.2.2.2.2.2.2 | exact hA.2.2.2.2.2.2.1 | exact hA.2.2.2.2.2.2.2 | exact hA.2.2.2.2.2.2.2.1 | exact hA.2.2.2.2.2.2.2.2 | exact hA.2.2.2.2.2.2.2.2.1 | exact hA.2.2.2.2.2.2.2.2.2)
                have e1 := r4 (by first | exact hA | exact hA.1 | exact hA.2 | exact hA.2.1 | exact hA.2.2 | exact hA.2.2.1 | exact hA.2.2.2 | exact hA.2.2.2.1 | exact hA.2.2.2.2 | exact hA.2.2.2.2.1 | exact hA.2.2.2.2.2 | exact hA.2.2.2.2.2.1 | exact hA.2.2.2.2.2.2 | exact hA.2.2.2.2.2.2.1 | exact hA.2.2.2.2.2.2.2 | exact hA.2.2.2.2.2.2.2.1 | exact hA.2.2.2.2.2.2.2.2 | exact hA.2.2.2.2.2.2.2.2.1 | exact hA.2.2.2.2.2.2.2.2.2)
                have d6 := hC.at 5 6 _ rfl hi rfl
                refine stepG_plain rfl fun K hK => ?_
                go_simp
                refine (HBOTH.out w').mono ?_
                rintro e w2 ⟨rfl, hb2⟩
                refine hK _ _ ?_
                simp [mk, up]
                exact ⟨fun h => (hR h).trans (hb2.mono (hR h).size), r0, r1, r2, r3, r4, (fun h => by rw [d6] at h; cases h)⟩
              refine ⟨fun done σ w' a hi hA hC ha hσ ⟨hR, r0, r1, r2, r3, r4, r5, r6⟩ => ?_, trivial⟩
              · simp [After, Region.binds] at hA
                have e0 := hσ 12 (by simp)
                simp only [List.getElem?_toArray] at e0
                have e1 := r5 (by first | exact hA | exact hA.1 | exact hA.2 | exact hA.2.1 | exact hA.2.2 | exact hA.2.2.1 | exact hA.2.2.2 | exact hA.2.2.2.1 | exact hA.2.2.2.2 | exact hA.2.2.2.2.1 | exact hA.2.2.2.2.2 | exact hA.2.2.2.2.2.1 | exact hA.2.2.2.2.2.2 | exact hA.2.2.2.2.2.2.1 | exact hA.2.2.2.2.2.2.2 | exact hA.2.2.2.2.2.2.2.1 | exact hA.2.2.2.2.2.2.2.2 | exact hA.2.2.2.2.2.2.2.2.1 | exact hA.2.2.2.2.2.2.2.2.2)
                have q5 : done 5 = true := (by first | exact hA | exact hA.1 | exact hA.2 | exact hA.2.1 | exact hA.2.2 | exact hA.2.2.1 | exact hA.2.2.2 | exact hA.2.2.2.1 | exact hA.2.2.2.2 | exact hA.2.2.2.2.1 | exact hA.2.2.2.2.2 | exact hA.2.2.2.2.2.1 | exact hA.2.2.2.2.2.2 | exact hA.2.2.2.2.2.2.1 | exact hA.2.2.2.2.2.2.2 | exact hA.2.2.2.2.2.2.2.1 | exact hA.2.2.2.2.2.2.2.2 | exact hA.2.2.2.2.2.2.2.2.1 | exact hA.2.2.2.2.2.2.2.2.2)
                have hD5 := ((hR hi).block D hDr).trans HDD.out
                have hcan := can_row (o := 0) (n := 32) hD5 (by rw [ucs_size, hcur]; omega)
                refine stepG_plain rfl fun K hK => ?_
                go_simp
                refine hK undef _ ?_
                simp [mk, up_none]
                exact ⟨r0, r1, r2, r3, r4, r5, ⟨w', hR hi, rfl⟩⟩
            · rintro done σ w' hall hσ ⟨hR, r0, r1, r2, r3, r4, r5, r6⟩
              obtain ⟨w5, hb5, rfl⟩ := r6 (hall 6 (by simp))
              simp only [putF, List.foldl_cons, List.foldl_nil, Act.put, List.setIfInBounds_toArray, List.set_cons_succ, List.set_cons_zero]
              clear hσ r0 r1 r2 r3 r4 r5 r6 hall hR
              obtain ⟨hd7, hc7⟩ := rup_chg HCH.out hDr hb5 HDD.out hcur hnl
              obtain ⟨W7, hW7⟩ : ∃ W7, putSub w5 D 0 (ucs nw) = W7 := ⟨_, rfl⟩
              rw [hW7] at hd7 hc7 ⊢
              have HD7 := hd hd7
              have HC7 := hd hc7
              clear hW7 hd7 hc7 hb5 hsube
              go_wp2_with fail
              go_roundw
              case rel => exact ⟨g, j / 2, (k + 1) / 2, s + 1, pre ++ [(sib j, true)], nw, by go_num, by go_num, by go_num, HSS.out, HXS.out, hg, by omega, by omega, HUP.out, hnl, HD7.out, HC7.out⟩
              case measure => simp [intOf]; omega
          · have hjI : ((j : Int) % 2 == 1) = false := by simp; omega
            have hjkI : (j : Int) + 1 < (k : Int) := by rw [sib_even (by omega)] at hsk; omega
            rw [if_neg (by rw [sib_even (by omega)]; omega)] at hup
            obtain ⟨nw, hnw⟩ : ∃ nw, bth cur eh = nw := ⟨_, rfl⟩
            have hnl : nw.length = 32 := by rw [← hnw]; exact bth_length _ _
            have HBOTH := hd (fun W' : World => show Calls Try.prog 42 #[.agg (ucs cur), .agg (ucs eh)] W' fun e w' => e = .returned (.agg (ucs nw)) ∧ Below W'.heap.size W' w' from by
              rw [← hnw]; exact rboth_any W' cur eh hcur h32)
            rw [hnw] at hup
            have HUP := hd hup
            clear hxs hxs' hst hmx hss hsd hpl heh hup hnw hcq hsp hdd hch hsk hjo
            go_wp2_with fail
            refine wp_region_inv [48, 49, 50, 51, 52, 53] (fun done σ w' => (done 6 = false → Below wr.heap.size wr w') ∧
              (done 0 = true → σ 48 = .agg (ucs cur)) ∧
              (done 1 = true → σ 49 = .slice (some ⟨b, o, none⟩) m c) ∧
              (done 2 = true → σ 50 = .int .i64 (s : Int)) ∧
              (done 3 = true → σ 51 = .pointer (some ⟨b, o + s * 32, none⟩)) ∧
              (done 4 = true → σ 52 = .agg (ucs eh)) ∧
              (done 5 = true → σ 53 = .agg (ucs nw)) ∧
              (done 6 = true → StoD D wr w' nw)) (by kernel_rfl) (by kernel_rfl) ?_ ?_ ?_
            · simp
              exact Below.drew (Below.refl _ _)
            · refine ⟨fun done σ w' a hi hA hC ha hσ ⟨hR, r0, r1, r2, r3, r4, r5, r6⟩ => ?_, ?_⟩
              · have e0 := hσ 12 (by simp)
                simp only [List.getElem?_toArray] at e0
                have d6 := hC.at 0 6 _ rfl hi rfl
                have e9 := sub_row (n := 32) (((hR d6).block D hDr).trans HDD.out) (by rw [ucs_size, hcur])
                refine stepG_plain rfl fun K hK => ?_
                go_simp
                refine hK _ _ ?_
                simp [mk, up]
                exact ⟨hR, r1, r2, r3, r4, r5, r6⟩
              refine ⟨fun done σ w' a hi hA hC ha hσ ⟨hR, r0, r1, r2, r3, r4, r5, r6⟩ => ?_, ?_⟩
              · have e0 := hσ 3 (by simp)
                simp only [List.getElem?_toArray] at e0
                refine stepG_plain rfl fun K hK => ?_
                go_simp
                refine hK _ _ ?_
                simp [mk, up]
                exact ⟨hR, r0, r2, r3, r4, r5, r6⟩
              refine ⟨fun done σ w' a hi hA hC ha hσ ⟨hR, r0, r1, r2, r3, r4, r5, r6⟩ => ?_, ?_⟩
              · have e0 := hσ 13 (by simp)
                simp only [List.getElem?_toArray] at e0
                refine stepG_plain rfl fun K hK => ?_
                go_simp
                refine hK _ _ ?_
                simp [mk, up]
                exact ⟨hR, r0, r1, r3, r4, r5, r6⟩
              refine ⟨fun done σ w' a hi hA hC ha hσ ⟨hR, r0, r1, r2, r3, r4, r5, r6⟩ => ?_, ?_⟩
              · simp [After, Region.binds] at hA
                have e0 := r1 (by first | exact hA | exact hA.1 | exact hA.2 | exact hA.2.1 | exact hA.2.2 | exact hA.2.2.1 | exact hA.2.2.2 | exact hA.2.2.2.1 | exact hA.2.2.2.2 | exact hA.2.2.2.2.1 | exact hA.2.2.2.2.2 | exact hA.2.2.2.2.2.1 | exact hA.2.2.2.2.2.2 | exact hA.2.2.2.2.2.2.1 | exact hA.2.2.2.2.2.2.2 | exact hA.2.2.2.2.2.2.2.1 | exact hA.2.2.2.2.2.2.2.2 | exact hA.2.2.2.2.2.2.2.2.1 | exact hA.2.2.2.2.2.2.2.2.2)
                have e1 := r2 (by first | exact hA | exact hA.1 | exact hA.2 | exact hA.2.1 | exact hA.2.2 | exact hA.2.2.1 | exact hA.2.2.2 | exact hA.2.2.2.1 | exact hA.2.2.2.2 | exact hA.2.2.2.2.1 | exact hA.2.2.2.2.2 | exact hA.2.2.2.2.2.1 | exact hA.2.2.2.2.2.2 | exact hA.2.2.2.2.2.2.1 | exact hA.2.2.2.2.2.2.2 | exact hA.2.2.2.2.2.2.2.1 | exact hA.2.2.2.2.2.2.2.2 | exact hA.2.2.2.2.2.2.2.2.1 | exact hA.2.2.2.2.2.2.2.2.2)
                refine stepG_plain rfl fun K hK => ?_
                go_simp
                refine hK _ _ ?_
                simp [mk, up]
                exact ⟨hR, r0, r1, r2, r4, r5, r6⟩
              refine ⟨fun done σ w' a hi hA hC ha hσ ⟨hR, r0, r1, r2, r3, r4, r5, r6⟩ => ?_, ?_⟩
              · simp [After, Region.binds] at hA
                have e0 := r3 (by first | exact hA | exact hA.1 | exact hA.2 | exact hA.2.1 | exact hA.2.2 | exact hA.2.2.1 | exact hA.2.2.2 | exact hA.2.2.2.1 | exact hA.2.2.2.2 | exact hA.2.2.2.2.1 | exact hA.2.2.2.2.2 | exact hA.2.2.2.2.2.1 | exact hA.2.2.2.2.2.2 | exact hA.2.2.2.2.2.2.1 | exact hA.2.2.2.2.2.2.2 | exact hA.2.2.2.2.2.2.2.1 | exact hA.2.2.2.2.2.2.2.2 | exact hA.2.2.2.2.2.2.2.2.1 | exact hA.2.2.2.2.2.2.2.2.2)
                have d6 := hC.at 4 6 _ rfl hi rfl
                have e9 := (sub_of_heap ((hR d6).block b hb)).trans hsube
                refine stepG_plain rfl fun K hK => ?_
                go_simp
                refine hK _ _ ?_
                simp [mk, up]
                exact ⟨hR, r0, r1, r2, r3, r5, r6⟩
              refine ⟨fun done σ w' a hi hA hC ha hσ ⟨hR, r0, r1, r2, r3, r4, r5, r6⟩ => ?_, ?_⟩
              · simp [After, Region.binds] at hA
                have e0 := r0 (by first | exact hA | exact hA.1 | exact hA.2 | exact hA.2.1 | exact hA.2.2 | exact hA.2.2.1 | exact hA.2.2.2 | exact hA.2.2.2.1 | exact hA.2.2.2.2 | exact hA.2.2.2.2.1 | exact hA.2.2.2.2.2 | exact hA.2.2.2.2.2.1 | exact hA.2.2.2.2.2.2 | exact hA.2.2.2.2.2.2.1 | exact hA.2.2.2.2.2.2.2 | exact hA.2.2.2.2.2.2.2.1 | exact hA.2.2.2.2.2.2.2.2 | exact hA.2.2.2.2.2.2.2.2.1 | exact hA.2.2.2.2.2.2.2.2.2)
                have e1 := r4 (by first | exact hA | exact hA.1 | exact hA.2 | exact hA.2.1 | exact hA.2.2 | exact hA.2.2.1 | exact hA.2.2.2 | exact hA.2.2.2.1 | exact hA.2.2.2.2 | exact hA.2.2.2.2.1 | exact hA.2.2.2.2.2 | exact hA.2.2.2.2.2.1 | exact hA.2.2.2.2.2.2 | exact hA.2.2.2.2.2.2.1 | exact hA.2.2.2.2.2.2.2 | exact hA.2.2.2.2.2.2.2.1 | exact hA.2.2.2.2.2.2.2.2 | exact hA.2.2.2.2.2.2.2.2.1 | exact hA.2.2.2.2.2.2.2.2.2)
                have d6 := hC.at 5 6 _ rfl hi rfl
                refine stepG_plain rfl fun K hK => ?_
                go_simp
                refine (HBOTH.out w').mono ?_
                rintro e w2 ⟨rfl, hb2⟩
                refine hK _ _ ?_
                simp [mk, up]
                exact ⟨fun h => (hR h).trans (hb2.mono (hR h).size), r0, r1, r2, r3, r4, (fun h => by rw [d6] at h; cases h)⟩
              refine ⟨fun done σ w' a hi hA hC ha hσ ⟨hR, r0, r1, r2, r3, r4, r5, r6⟩ => ?_, trivial⟩
              · simp [After, Region.binds] at hA
                have e0 := hσ 12 (by simp)
                simp only [List.getElem?_toArray] at e0
                have e1 := r5 (by first | exact hA | exact hA.1 | exact hA.2 | exact hA.2.1 | exact hA.2.2 | exact hA.2.2.1 | exact hA.2.2.2 | exact hA.2.2.2.1 | exact hA.2.2.2.2 | exact hA.2.2.2.2.1 | exact hA.2.2.2.2.2 | exact hA.2.2.2.2.2.1 | exact hA.2.2.2.2.2.2 | exact hA.2.2.2.2.2.2.1 | exact hA.2.2.2.2.2.2.2 | exact hA.2.2.2.2.2.2.2.1 | exact hA.2.2.2.2.2.2.2.2 | exact hA.2.2.2.2.2.2.2.2.1 | exact hA.2.2.2.2.2.2.2.2.2)
                have q5 : done 5 = true := (by first | exact hA | exact hA.1 | exact hA.2 | exact hA.2.1 | exact hA.2.2 | exact hA.2.2.1 | exact hA.2.2.2 | exact hA.2.2.2.1 | exact hA.2.2.2.2 | exact hA.2.2.2.2.1 | exact hA.2.2.2.2.2 | exact hA.2.2.2.2.2.1 | exact hA.2.2.2.2.2.2 | exact hA.2.2.2.2.2.2.1 | exact hA.2.2.2.2.2.2.2 | exact hA.2.2.2.2.2.2.2.1 | exact hA.2.2.2.2.2.2.2.2 | exact hA.2.2.2.2.2.2.2.2.1 | exact hA.2.2.2.2.2.2.2.2.2)
                have hD5 := ((hR hi).block D hDr).trans HDD.out
                have hcan := can_row (o := 0) (n := 32) hD5 (by rw [ucs_size, hcur]; omega)
                refine stepG_plain rfl fun K hK => ?_
                go_simp
                refine hK undef _ ?_
                simp [mk, up_none]
                exact ⟨r0, r1, r2, r3, r4, r5, ⟨w', hR hi, rfl⟩⟩
            · rintro done σ w' hall hσ ⟨hR, r0, r1, r2, r3, r4, r5, r6⟩
              obtain ⟨w5, hb5, rfl⟩ := r6 (hall 6 (by simp))
              simp only [putF, List.foldl_cons, List.foldl_nil, Act.put, List.setIfInBounds_toArray, List.set_cons_succ, List.set_cons_zero]
              clear hσ r0 r1 r2 r3 r4 r5 r6 hall hR
              obtain ⟨hd7, hc7⟩ := rup_chg HCH.out hDr hb5 HDD.out hcur hnl
              obtain ⟨W7, hW7⟩ : ∃ W7, putSub w5 D 0 (ucs nw) = W7 := ⟨_, rfl⟩
              rw [hW7] at hd7 hc7 ⊢
              have HD7 := hd hd7
              have HC7 := hd hc7
              clear hW7 hd7 hc7 hb5 hsube
              go_wp2_with fail
              go_roundw
              case rel => exact ⟨g, j / 2, (k + 1) / 2, s + 1, pre ++ [(sib j, true)], nw, by go_num, by go_num, by go_num, HSS.out, HXS.out, hg, by omega, by omega, HUP.out, hnl, HD7.out, HC7.out⟩
              case measure => simp [intOf]; omega
        · rw [decide_eq_false hsk] at hxs'
          have hjo : j % 2 = 0 := by
            by_cases h : j % 2 = 0
            · exact h
            · exfalso; apply hsk; rw [sib_odd (by omega)]; omega
          have hjI : ((j : Int) % 2 == 1) = false := by simp; omega
          have hjkI : ¬ (j : Int) + 1 < (k : Int) := by rw [sib_even hjo] at hsk; omega
          have hss := steps_snoc pre (sib j, false)
          rw [hsp, if_neg (by simp), Nat.add_zero] at hss
          have hup := upAll_no (pre := pre) (dl := mrk d) (path := path) (sib j)
          rw [hcq] at hup
          have HSS := hd hss
          have HXS := hd hxs'
          have HUP := hd hup
          clear hxs hxs' hst hmx hss hup hcq hsp hdd hch hsk hjo
          go_wp2_with fail
          go_roundw
          case rel => exact ⟨g, j / 2, (k + 1) / 2, s, pre ++ [(sib j, false)], cur, by go_num, by go_num, by go_num, HSS.out, HXS.out, hg, by omega, by omega, HUP.out, hcur, HDD.out, HCH.out⟩
          case measure => simp [intOf]; omega
      · rw [oth_done _ _ _ (by omega), List.append_nil] at hxs
        have hk1I : ¬ (1 : Int) < (k : Int) := by omega
        have hR : wr.heap[w.heap.size + 1]? = some (.cells (ucs (List.replicate 32 0)) 35 (0, 0)) := (hch.block _ (by omega) (by omega)).trans HRES.out
        have hsub := sub_row (n := 32) hdd (by rw [ucs_size, hcur])
        have hcan := can_row (o := 0) (n := 32) hR (by simp [ucs_size])
        have hres : (upAll (oths i n) (mrk d) path).1 = cur := by rw [hxs]; exact hcq
        have HRS := hd hres
        have HR := hd hR
        clear hres hR hxs hcq hsp hdd hch
        go_wp2_with fail
        have hrow := putSub_row (w := wr) (c := ucs cur) HR.out (by simp [ucs_size, hcur])
        refine bodyPost_ret (ret_row2 rfl (n := 32) (by kernel_rfl) _ _ (w.heap.size + 1) 0 (ucs cur) rfl _ rfl (sub_row hrow (by rw [ucs_size, hcur]))) rfl ⟨by rw [HRS.out]; rfl, Below.putSub (HL.out.trans (HCH.out.toBelow (by omega) (fun q hq e => by omega))) (by omega)⟩

set_option maxHeartbeats 2000000 in
set_option maxRecDepth 100000 in
theorem rup_err (w : World) (d : Dg) (i n : Int) (m c : Nat) (A : Option Addr) (h : stE i n ≠ 0) :
    Calls Try.prog 25 #[.agg (ucs d), .int .i64 i, .int .i64 n, .slice A m c] w fun e w' => e = .returned (.tuple #[.agg (ucs (List.replicate 32 0)), .int .i64 (stE i n)]) ∧ Below w.heap.size w w' := by
  have HST := hd (fun (W : World) => rsteps_any W i n)
  obtain ⟨k, hk⟩ : ∃ k, stE i n = k := ⟨_, rfl⟩
  rw [hk] at h HST ⊢
  have h1 : (k == 0) = false := by simpa using h
  have h2 : (k != 0) = true := by simpa using h
  clear h hk
  go_enter Try.func25, Try.ntmps25
  go_upto_region 0 with (fail)
  go_cut [4, 8, 9] from 4 to 9 (fun v4 v8 v9 wx => v4 = .pointer (some ⟨w.heap.size, 0, none⟩) ∧ v8 = .pointer (some ⟨w.heap.size + 1, 0, none⟩) ∧ v9 = .int .i64 0 ∧ wx.heap[w.heap.size + 1]? = some (.cells (ucs (List.replicate 32 0)) 35 (0, 0)) ∧ wx.heap.size = w.heap.size + 2 ∧ Below w.heap.size w wx)
  case first =>
    go_wp2_with fail
    go_meet
    have h2 := heap_alloc_new (w.alloc (.cells (ucs d) 35)) (.cells (ucs (List.replicate 32 0)) 35)
    rw [World.size_alloc] at h2
    exact ⟨rfl, rfl, rfl, h2, by simp, ((Below.refl _ _).alloc (Nat.le_refl _) _).alloc (by simp) _⟩
  case rest =>
    obtain ⟨rfl, rfl, rfl, hD, hz, hB⟩ := hcut
    have HD := hd hD
    have HB := hd hB
    have hcan := can_row (o := 0) (n := 32) hD (by simp [ucs_size])
    clear hD hB
    go_wp2_with (first
      | (go_at_call 14; refine (HST.out _).mono ?_; rintro e w1 ⟨rfl, rfl⟩)
      | (refine wpList_built rfl 35 _ rfl (ucs (List.replicate 32 0)) (by kernel_rfl) ?_))
    have hrow := putSub_row (w := wc) (c := ucs (List.replicate 32 0)) HD.out (by simp [ucs_size])
    refine bodyPost_ret (ret_row2 rfl (n := 32) (by kernel_rfl) _ _ (w.heap.size + 1) 0 (ucs (List.replicate 32 0)) rfl _ rfl (sub_row hrow (by simp [ucs_size]))) rfl ⟨rfl, Below.putSub HB.out (by omega)⟩

set_option maxHeartbeats 2000000 in
set_option maxRecDepth 100000 in
theorem rup_len (w : World) (d : Dg) (i n : Int) (m c : Nat) (A : Option Addr) (h : stE i n = 0) (hm : m ≠ stN i n) :
    Calls Try.prog 25 #[.agg (ucs d), .int .i64 i, .int .i64 n, .slice A m c] w fun e w' => e = .returned (.tuple #[.agg (ucs (List.replicate 32 0)), .int .i64 140]) ∧ Below w.heap.size w w' := by
  have HST := hd (fun (W : World) => rsteps_any W i n)
  rw [h] at HST
  obtain ⟨k, hk⟩ : ∃ k, stN i n = k := ⟨_, rfl⟩
  rw [hk] at hm HST
  have h1 : ((m : Int) == (k : Int)) = false := by simp; omega
  have h2 : ((m : Int) != (k : Int)) = true := by simp; omega
  clear hm hk h
  go_enter Try.func25, Try.ntmps25
  go_upto_region 0 with (fail)
  go_cut [4, 8, 9] from 4 to 9 (fun v4 v8 v9 wx => v4 = .pointer (some ⟨w.heap.size, 0, none⟩) ∧ v8 = .pointer (some ⟨w.heap.size + 1, 0, none⟩) ∧ v9 = .int .i64 0 ∧ wx.heap[w.heap.size + 1]? = some (.cells (ucs (List.replicate 32 0)) 35 (0, 0)) ∧ wx.heap.size = w.heap.size + 2 ∧ Below w.heap.size w wx)
  case first =>
    go_wp2_with fail
    go_meet
    have h2 := heap_alloc_new (w.alloc (.cells (ucs d) 35)) (.cells (ucs (List.replicate 32 0)) 35)
    rw [World.size_alloc] at h2
    exact ⟨rfl, rfl, rfl, h2, by simp, ((Below.refl _ _).alloc (Nat.le_refl _) _).alloc (by simp) _⟩
  case rest =>
    obtain ⟨rfl, rfl, rfl, hD, hz, hB⟩ := hcut
    have HD := hd hD
    have HB := hd hB
    have hcan := can_row (o := 0) (n := 32) hD (by simp [ucs_size])
    clear hD hB
    go_wp2_with (first
      | (go_at_call 14; refine (HST.out _).mono ?_; rintro e w1 ⟨rfl, rfl⟩)
      | (refine wpList_built rfl 35 _ rfl (ucs (List.replicate 32 0)) (by kernel_rfl) ?_))
    have hrow := putSub_row (w := wc) (c := ucs (List.replicate 32 0)) HD.out (by simp [ucs_size])
    refine bodyPost_ret (ret_row2 rfl (n := 32) (by kernel_rfl) _ _ (w.heap.size + 1) 0 (ucs (List.replicate 32 0)) rfl _ rfl (sub_row hrow (by simp [ucs_size]))) rfl ⟨rfl, Below.putSub HB.out (by omega)⟩

theorem rup_any (w : World) (d : Dg) (hd0 : d.length = 32) (i n : Int) (m c : Nat) (A : Option Addr) (path : List Dg) (hs : SlD w (.slice A m c) path m) :
    Calls Try.prog 25 #[.agg (ucs d), .int .i64 i, .int .i64 n, .slice A m c] w fun e w' => e = .returned (.tuple #[.agg (ucs (upD d i n path)), .int .i64 (upE i n m)]) ∧ Below w.heap.size w w' := by
  have hl := hs.len
  unfold upD
  rw [hl]
  by_cases h0 : stE i n = 0
  · by_cases h1 : m = stN i n
    · have he : upE i n m = 0 := by unfold upE; rw [if_neg (by simpa using h0), if_neg (by simpa using h1)]
      rw [he, if_pos rfl]
      rcases stE_cases i n with ⟨h, _⟩ | ⟨h, _⟩ | ⟨_, a, b, rfl, rfl, h2, h3⟩
      · rw [h0] at h; cases h
      · rw [h0] at h; cases h
      · rw [stN_ok h2 h3] at h1
        exact rup_ok w d hd0 a b m c A path hs h2 h3 h1
    · have he : upE i n m = 140 := by unfold upE; rw [if_neg (by simpa using h0), if_pos h1]
      rw [he, if_neg (by decide)]
      exact rup_len w d i n m c A h0 h1
  · have he : upE i n m = stE i n := by unfold upE; rw [if_pos h0]
    rw [he, if_neg h0]
    exact rup_err w d i n m c A h0

end Go.Proofs.Ytjfplkndngmgdaa

namespace Go.Proofs.Ytjfplkndngmgdaa
set_option maxRecDepth 20000
open Go.RowKit Go.Shelf Sp

theorem wpList_builtG {P : Program} {Q : Exit → Act → World → Prop} {ops : Array Oper} {rest : List Oper} {o : Oper} {a : Act} {w : World} (hg : Region.wanted o (yielded ops a.tmps) = true) (t : TypeId) (parts : Array (Nat × Operand)) (ho : o.op = .build t parts)
    (cells : Array Value) (hf : P.built t (parts.map fun (i, x) => (i, a.eval x)).toList = some cells) (h : wpList P ops Q rest (a.put o.dst (.agg cells)) w) : wpList P ops Q (o :: rest) a w :=
  BigFrame.wpList_want hg fun _ hK => oper_built t parts ho cells hf (hK _ _ h)
theorem built1 : Try.prog.built 35 [(0, .int .u8 1)] = some (ucs (1 :: List.replicate 31 0)) := by kernel_rfl
theorem built2 : Try.prog.built 35 [(0, .int .u8 2)] = some (ucs (2 :: List.replicate 31 0)) := by kernel_rfl
theorem built3 : Try.prog.built 35 [(0, .int .u8 3)] = some (ucs (3 :: List.replicate 31 0)) := by kernel_rfl
theorem built0 : Try.prog.built 35 [] = some (ucs (List.replicate 32 0)) := by kernel_rfl
theorem root3 : rootOf [1 :: List.replicate 31 0, 2 :: List.replicate 31 0, 3 :: List.replicate 31 0] ≠ List.replicate 32 0 := by decide +kernel

theorem num_any (w : World) (n : Int) : Calls Try.prog 15 #[.int .i64 n] w fun e w' => e = .returned (.int .i64 n) ∧ w = w' := by
  go_enter Try.func15, Try.ntmps15
  go_wp2_with fail
  go_ret
  exact ⟨rfl, rfl⟩

attribute [local go_sem ↓] ldD stD
attribute [local go_sem] run_ldA run_stA arrD loadX_at loadY_some storeX_at storeY_true ucs_size ones_ucs sha_length
attribute [local go_sem] fold_fill

theorem lit96 : (ucs ([1 :: List.replicate 31 0, 2 :: List.replicate 31 0, 3 :: List.replicate 31 0] : List Dg).flatten) = #[.int .u8 1, .int .u8 0, .int .u8 0, .int .u8 0, .int .u8 0, .int .u8 0, .int .u8 0, .int .u8 0, .int .u8 0, .int .u8 0, .int .u8 0, .int .u8 0, .int .u8 0, .int .u8 0, .int .u8 0, .int .u8 0, .int .u8 0, .int .u8 0, .int .u8 0, .int .u8 0, .int .u8 0, .int .u8 0, .int .u8 0, .int .u8 0, .int .u8 0, .int .u8 0, .int .u8 0, .int .u8 0, .int .u8 0, .int .u8 0, .int .u8 0, .int .u8 0, .int .u8 2, .int .u8 0, .int .u8 0, .int .u8 0, .int .u8 0, .int .u8 0, .int .u8 0, .int .u8 0, .int .u8 0, .int .u8 0, .int .u8 0, .int .u8 0, .int .u8 0, .int .u8 0, .int .u8 0, .int .u8 0, .int .u8 0, .int .u8 0, .int .u8 0, .int .u8 0, .int .u8 0, .int .u8 0, .int .u8 0, .int .u8 0, .int .u8 0, .int .u8 0, .int .u8 0, .int .u8 0, .int .u8 0, .int .u8 0, .int .u8 0, .int .u8 0, .int .u8 3, .int .u8 0, .int .u8 0, .int .u8 0, .int .u8 0, .int .u8 0, .int .u8 0, .int .u8 0, .int .u8 0, .int .u8 0, .int .u8 0, .int .u8 0, .int .u8 0, .int .u8 0, .int .u8 0, .int .u8 0, .int .u8 0, .int .u8 0, .int .u8 0, .int .u8 0, .int .u8 0, .int .u8 0, .int .u8 0, .int .u8 0, .int .u8 0, .int .u8 0, .int .u8 0, .int .u8 0, .int .u8 0, .int .u8 0, .int .u8 0, .int .u8 0] := by kernel_rfl
theorem lit3 : (ucs (3 :: List.replicate 31 0)) = #[.int .u8 3, .int .u8 0, .int .u8 0, .int .u8 0, .int .u8 0, .int .u8 0, .int .u8 0, .int .u8 0, .int .u8 0, .int .u8 0, .int .u8 0, .int .u8 0, .int .u8 0, .int .u8 0, .int .u8 0, .int .u8 0, .int .u8 0, .int .u8 0, .int .u8 0, .int .u8 0, .int .u8 0, .int .u8 0, .int .u8 0, .int .u8 0, .int .u8 0, .int .u8 0, .int .u8 0, .int .u8 0, .int .u8 0, .int .u8 0, .int .u8 0, .int .u8 0] := by kernel_rfl
theorem lit0 : (ucs (List.replicate 32 0)) = #[.int .u8 0, .int .u8 0, .int .u8 0, .int .u8 0, .int .u8 0, .int .u8 0, .int .u8 0, .int .u8 0, .int .u8 0, .int .u8 0, .int .u8 0, .int .u8 0, .int .u8 0, .int .u8 0, .int .u8 0, .int .u8 0, .int .u8 0, .int .u8 0, .int .u8 0, .int .u8 0, .int .u8 0, .int .u8 0, .int .u8 0, .int .u8 0, .int .u8 0, .int .u8 0, .int .u8 0, .int .u8 0, .int .u8 0, .int .u8 0, .int .u8 0, .int .u8 0] := by kernel_rfl
theorem made_sld (w : World) (ds : List Dg) (h : All32 ds) (hm : ds.length ≤ maxLen) : SlD (w.alloc (.cells (ucs ds.flatten) 35)) (.slice (some ⟨w.heap.size, 0, none⟩) ds.length ds.length) ds ds.length :=
  ⟨_, _, rfl, rfl, h, Nat.le_refl _, hm, (fun e => nomatch e), row_cl (heap_alloc_new w _)⟩

set_option maxHeartbeats 4000000 in
set_option maxRecDepth 100000 in
theorem works_any (w : World) :
    Calls Try.prog 16 #[] w fun e w' => e = .returned (.bool true) ∧ Below w.heap.size w w' := by
  obtain ⟨ds, hds⟩ : ∃ ds : List Dg, ds = [1 :: List.replicate 31 0, 2 :: List.replicate 31 0, 3 :: List.replicate 31 0] := ⟨_, rfl⟩
  obtain ⟨d3, hd3⟩ : ∃ d3 : Dg, d3 = 3 :: List.replicate 31 0 := ⟨_, rfl⟩
  have h32 : All32 ds := by
    rw [hds]
    intro d hd
    simp only [List.mem_cons, List.not_mem_nil, or_false] at hd
    rcases hd with rfl | rfl | rfl <;> rfl
  have hlen : ds.length = 3 := by rw [hds]; rfl
  have h2 : ds[2]? = some d3 := by rw [hds, hd3]; rfl
  have hne : rootOf ds ≠ List.replicate 32 0 := by rw [hds]; exact root3
  have h96 : #[.int .u8 1, .int .u8 0, .int .u8 0, .int .u8 0, .int .u8 0, .int .u8 0, .int .u8 0, .int .u8 0, .int .u8 0, .int .u8 0, .int .u8 0, .int .u8 0, .int .u8 0, .int .u8 0, .int .u8 0, .int .u8 0, .int .u8 0, .int .u8 0, .int .u8 0, .int .u8 0, .int .u8 0, .int .u8 0, .int .u8 0, .int .u8 0, .int .u8 0, .int .u8 0, .int .u8 0, .int .u8 0, .int .u8 0, .int .u8 0, .int .u8 0, .int .u8 0, .int .u8 2, .int .u8 0, .int .u8 0, .int .u8 0, .int .u8 0, .int .u8 0, .int .u8 0, .int .u8 0, .int .u8 0, .int .u8 0, .int .u8 0, .int .u8 0, .int .u8 0, .int .u8 0, .int .u8 0, .int .u8 0, .int .u8 0, .int .u8 0, .int .u8 0, .int .u8 0, .int .u8 0, .int .u8 0, .int .u8 0, .int .u8 0, .int .u8 0, .int .u8 0, .int .u8 0, .int .u8 0, .int .u8 0, .int .u8 0, .int .u8 0, .int .u8 0, .int .u8 3, .int .u8 0, .int .u8 0, .int .u8 0, .int .u8 0, .int .u8 0, .int .u8 0, .int .u8 0, .int .u8 0, .int .u8 0, .int .u8 0, .int .u8 0, .int .u8 0, .int .u8 0, .int .u8 0, .int .u8 0, .int .u8 0, .int .u8 0, .int .u8 0, .int .u8 0, .int .u8 0, .int .u8 0, .int .u8 0, .int .u8 0, .int .u8 0, .int .u8 0, .int .u8 0, .int .u8 0, .int .u8 0, .int .u8 0, .int .u8 0, .int .u8 0] = ucs ds.flatten := by rw [hds]; exact lit96.symm
  have hl3 : #[.int .u8 3, .int .u8 0, .int .u8 0, .int .u8 0, .int .u8 0, .int .u8 0, .int .u8 0, .int .u8 0, .int .u8 0, .int .u8 0, .int .u8 0, .int .u8 0, .int .u8 0, .int .u8 0, .int .u8 0, .int .u8 0, .int .u8 0, .int .u8 0, .int .u8 0, .int .u8 0, .int .u8 0, .int .u8 0, .int .u8 0, .int .u8 0, .int .u8 0, .int .u8 0, .int .u8 0, .int .u8 0, .int .u8 0, .int .u8 0, .int .u8 0, .int .u8 0] = ucs d3 := by rw [hd3]; exact lit3.symm
  have l3 : d3.length = 32 := h32.get h2
  have HNEW := hd (fun W : World => show Calls Try.prog 17 #[.slice (some ⟨W.heap.size, 0, none⟩) 3 3] (W.alloc (.cells #[.int .u8 1, .int .u8 0, .int .u8 0, .int .u8 0, .int .u8 0, .int .u8 0, .int .u8 0, .int .u8 0, .int .u8 0, .int .u8 0, .int .u8 0, .int .u8 0, .int .u8 0, .int .u8 0, .int .u8 0, .int .u8 0, .int .u8 0, .int .u8 0, .int .u8 0, .int .u8 0, .int .u8 0, .int .u8 0, .int .u8 0, .int .u8 0, .int .u8 0, .int .u8 0, .int .u8 0, .int .u8 0, .int .u8 0, .int .u8 0, .int .u8 0, .int .u8 0, .int .u8 2, .int .u8 0, .int .u8 0, .int .u8 0, .int .u8 0, .int .u8 0, .int .u8 0, .int .u8 0, .int .u8 0, .int .u8 0, .int .u8 0, .int .u8 0, .int .u8 0, .int .u8 0, .int .u8 0, .int .u8 0, .int .u8 0, .int .u8 0, .int .u8 0, .int .u8 0, .int .u8 0, .int .u8 0, .int .u8 0, .int .u8 0, .int .u8 0, .int .u8 0, .int .u8 0, .int .u8 0, .int .u8 0, .int .u8 0, .int .u8 0, .int .u8 0, .int .u8 3, .int .u8 0, .int .u8 0, .int .u8 0, .int .u8 0, .int .u8 0, .int .u8 0, .int .u8 0, .int .u8 0, .int .u8 0, .int .u8 0, .int .u8 0, .int .u8 0, .int .u8 0, .int .u8 0, .int .u8 0, .int .u8 0, .int .u8 0, .int .u8 0, .int .u8 0, .int .u8 0, .int .u8 0, .int .u8 0, .int .u8 0, .int .u8 0, .int .u8 0, .int .u8 0, .int .u8 0, .int .u8 0, .int .u8 0, .int .u8 0, .int .u8 0] 35)) fun e w' => ∃ g, e = .returned (.tuple #[.pointer (some ⟨g, 0, none⟩), .int .i64 0]) ∧ TreeAt w' W.heap.size w'.heap.size g ds ∧ Below W.heap.size W w' from by
    rw [h96]
    have hs := made_sld W ds h32 (by rw [hlen]; unfold maxLen; omega)
    rw [hlen] at hs
    refine (newt_any _ _ 3 3 ds hs (by omega) (by omega)).mono ?_
    rintro e w' ⟨g, rfl, ht, hb⟩
    rw [World.size_alloc] at ht hb
    have h0 : Below W.heap.size W (W.alloc (.cells (ucs ds.flatten) 35)) := (Below.refl _ _).alloc (Nat.le_refl _) _
    refine ⟨g, rfl, ?_, h0.trans (hb.mono (by omega))⟩
    obtain ⟨lv, rv, ps, k1, k2, k3, k4, k5, k6, k7, k8, k9⟩ := ht
    exact ⟨lv, rv, ps, k1, by omega, k3, k4, fun k hk => ⟨by have := (k5 k hk).1; omega, (k5 k hk).2⟩, own_mono k6 (by omega), k7, k8, fun p hp => ⟨(k9 p hp).1, fun k hk => ⟨by have := ((k9 p hp).2 k hk).1; omega, ((k9 p hp).2 k hk).2⟩⟩⟩)
  have hroot := rootOf ds
  obtain ⟨r, hr⟩ : ∃ r, rootOf ds = r := ⟨_, rfl⟩
  have HR := hd hr
  have HL := hd hlen
  have H2 := hd h2
  have HNE := hd hne
  have H32 := hd h32
  have HL3 := hd hl3
  clear hds hd3 h96 hne hr hlen h2 hroot h32 hl3
  go_enter Try.func16, Try.ntmps16
  go_upto_region 1 with (fail)
  go_cut [1, 2] from 1 to 18 (fun v1 v2 wx => ∃ g, v1 = .pointer (some ⟨g, 0, none⟩) ∧ v2 = .int .i64 0 ∧ TreeAt wx w.heap.size wx.heap.size g ds ∧ Below w.heap.size w wx)
  case first =>
    go_wp2_with (go_at_call 17; refine (HNEW.out _).mono ?_; rintro e w1 ⟨g, rfl, ht, hb1⟩; have HT := hd ht; have HB1 := hd hb1; clear ht hb1)
    go_meet
    exact ⟨g, rfl, rfl, HT.out, HB1.out⟩
  case rest =>
    obtain ⟨g, rfl, rfl, ht, hb⟩ := hcut
    obtain ⟨wa, rfl⟩ : ∃ wa : World, wa = wc := ⟨_, rfl⟩
    have hds3 := HL.out
    have h03 : 0 < ds.length := by omega
    have hsz := hb.size
    have HB := hd hb
    have HT := hd ht
    have HROOT := hd (fun W (h : Below wa.heap.size wa W) => root_any W w.heap.size wa.heap.size g ds (ht.below (Nat.le_refl _) h) h03 (by omega))
    have HPATH := hd (fun W (h : Below wa.heap.size wa W) => show Calls Try.prog 19 #[.pointer (some ⟨g, 0, none⟩), .int .i64 2] W fun e w' => ∃ v, e = .returned (.tuple #[v, .int .i64 0]) ∧ SlD w' v (pathOf ds 2) 1 ∧ Below W.heap.size W w' from by
      have h1 := tpath_ok W w.heap.size wa.heap.size g ds (ht.below (Nat.le_refl _) h) 2 (by omega) (by omega)
      refine h1.mono ?_
      rintro e w' ⟨v, rfl, h2, h3⟩
      refine ⟨v, rfl, ?_, h3⟩
      have h4 := own_sld h2 (path32 _ _ rfl (List.prefix_refl _))
      rwa [hds3] at h4)
    have HST := hd (fun W => show Calls Try.prog 13 #[.int .i64 2, .int .i64 3] W fun e w' => e = .returned (.tuple #[.int .i64 1, .int .i64 0]) ∧ Below W.heap.size W w' from steps_any W 2 3)
    have hckv : ckE r d3 2 3 (pathOf ds 2) = 0 := by
      have h1 := leads ds 2 d3 H2.out
      have h2 : (pathOf ds 2).length = 1 := by rw [pathOf_length, hds3]; rfl
      have h3 : upE 2 3 1 = 0 := by decide
      unfold ckE upD
      rw [h2, h3, if_neg (by decide), if_pos rfl]
      rw [hds3] at h1
      exact if_pos (h1.trans HR.out)
    have hckz : ckE (List.replicate 32 0) d3 2 3 (pathOf ds 2) = 140 := by
      have h1 := leads ds 2 d3 H2.out
      have h2 : (pathOf ds 2).length = 1 := by rw [pathOf_length, hds3]; rfl
      have h3 : upE 2 3 1 = 0 := by decide
      unfold ckE upD
      rw [h2, h3, if_neg (by decide), if_pos rfl]
      rw [hds3] at h1
      exact if_neg (fun e => HNE.out (h1.symm.trans e))
    have hr32 : r.length = 32 := by
      have h1 := upAll32 (oths 2 ds.length) (mrk d3) (pathOf ds 2) (mrk_length d3)
      rw [leads ds 2 d3 H2.out] at h1
      rw [← HR.out]; exact h1
    have HCK := hd (fun W v (hs : SlD W v (pathOf ds 2) 1) => show Calls Try.prog 21 #[.agg (ucs r), .agg #[.int .u8 3, .int .u8 0, .int .u8 0, .int .u8 0, .int .u8 0, .int .u8 0, .int .u8 0, .int .u8 0, .int .u8 0, .int .u8 0, .int .u8 0, .int .u8 0, .int .u8 0, .int .u8 0, .int .u8 0, .int .u8 0, .int .u8 0, .int .u8 0, .int .u8 0, .int .u8 0, .int .u8 0, .int .u8 0, .int .u8 0, .int .u8 0, .int .u8 0, .int .u8 0, .int .u8 0, .int .u8 0, .int .u8 0, .int .u8 0, .int .u8 0, .int .u8 0], .int .i64 2, .int .i64 3, v] W fun e w' => e = .returned (.int .i64 0) ∧ Below W.heap.size W w' from by
      obtain ⟨A, c, rfl, _⟩ := hs.val
      have h1 := check_any W r d3 hr32 l3 2 3 1 c A (pathOf ds 2) hs
      rw [hckv] at h1
      rw [HL3.out]
      exact h1)
    have HCZ := hd (fun W v (hs : SlD W v (pathOf ds 2) 1) => show Calls Try.prog 21 #[.agg #[.int .u8 0, .int .u8 0, .int .u8 0, .int .u8 0, .int .u8 0, .int .u8 0, .int .u8 0, .int .u8 0, .int .u8 0, .int .u8 0, .int .u8 0, .int .u8 0, .int .u8 0, .int .u8 0, .int .u8 0, .int .u8 0, .int .u8 0, .int .u8 0, .int .u8 0, .int .u8 0, .int .u8 0, .int .u8 0, .int .u8 0, .int .u8 0, .int .u8 0, .int .u8 0, .int .u8 0, .int .u8 0, .int .u8 0, .int .u8 0, .int .u8 0, .int .u8 0], .agg #[.int .u8 3, .int .u8 0, .int .u8 0, .int .u8 0, .int .u8 0, .int .u8 0, .int .u8 0, .int .u8 0, .int .u8 0, .int .u8 0, .int .u8 0, .int .u8 0, .int .u8 0, .int .u8 0, .int .u8 0, .int .u8 0, .int .u8 0, .int .u8 0, .int .u8 0, .int .u8 0, .int .u8 0, .int .u8 0, .int .u8 0, .int .u8 0, .int .u8 0, .int .u8 0, .int .u8 0, .int .u8 0, .int .u8 0, .int .u8 0, .int .u8 0, .int .u8 0], .int .i64 2, .int .i64 3, v] W fun e w' => e = .returned (.int .i64 140) ∧ Below W.heap.size W w' from by
      obtain ⟨A, c, rfl, _⟩ := hs.val
      have h1 := check_any W (List.replicate 32 0) d3 (by simp) l3 2 3 1 c A (pathOf ds 2) hs
      rw [hckz, lit0] at h1
      rw [HL3.out]
      exact h1)
    have HR' := HR.out
    rw [HR'] at HROOT
    obtain ⟨P, hP⟩ : ∃ P, pathOf ds 2 = P := ⟨_, rfl⟩
    rw [hP] at HPATH HCK HCZ
    clear hckv hckz HR' hP ht hb hds3 h03 HNEW H2 HNE H32 HR HL HT HL3
    go_upto_region 2 with (fail)
    go_cut [3, 4] from 3 to 23 (fun v3 v4 wx => ∃ D, v3 = .pointer (some ⟨D, 0, none⟩) ∧ v4 = .int .i64 0 ∧ sub? wx D 0 32 = some (ucs r) ∧ D < wx.heap.size ∧ Below wa.heap.size wa wx)
    case first =>
      go_wp2_with (go_at_call 18; refine (HROOT.out _ (Below.refl _ _)).mono ?_; rintro e w2 ⟨rfl, hb2⟩; have HB2 := hd hb2; have hcan := can_row (o := 0) (n := 32) (heap_alloc_new w2 (.cells (ucs (List.replicate 32 0)) 35)) (by simp [ucs_size]); clear hb2)
      go_meet
      exact ⟨w2.heap.size, rfl, rfl, sub_row (heap_alloc_new w2 _) (by rw [ucs_size, hr32]), by simp, HB2.out.alloc HB2.out.size _⟩
    case rest =>
      obtain ⟨D, rfl, rfl, hsub, hDlt, hb2⟩ := hcut
      have HB2 := hd (HB.out.trans (hb2.mono hsz))
      have HPA := hd (HPATH.out wc hb2)
      clear hb2 HROOT HPATH
      go_wp2_with (first
        | (go_at_call 19; refine HPA.out.mono ?_; rintro e w3 ⟨v3, rfl, hs3, hb3⟩; obtain ⟨A3, c3, rfl, _⟩ := hs3.val; have hsub3 := (sub_of_heap (hb3.block D hDlt)).trans hsub; have hD3 := Nat.lt_of_lt_of_le hDlt hb3.size; have HS3 := hd hs3; have HB3 := hd (HB2.out.trans (hb3.mono HB2.out.size)); clear hs3 hb3)
        | (go_at_call 13; refine (HST.out _).mono ?_; rintro e w4 ⟨rfl, hb4⟩; have hsub4 := (sub_of_heap (hb4.block D hD3)).trans hsub3; have HS4 := hd (HS3.out.below hb4); have HB4 := hd (HB3.out.trans (hb4.mono HB3.out.size)); clear hb4)
        | (go_at_call 17; refine (newt_none _ none 0 0 (by omega)).mono ?_; rintro e w5 ⟨rfl, rfl⟩)
        | (go_at_call 15; refine (num_any _ _).mono ?_; rintro e w6 ⟨rfl, rfl⟩)
        | (go_at_call 21; refine (HCK.out _ _ HS4.out).mono ?_; rintro e w7 ⟨rfl, hb7⟩; have HS7 := hd (HS4.out.below hb7); have HB7 := hd (HB4.out.trans (hb7.mono HB4.out.size)); clear hb7; clear HS4)
        | (go_at_call 21; refine (HCZ.out _ _ HS7.out).mono ?_; rintro e w8 ⟨rfl, hb8⟩; have HB8 := hd (HB7.out.trans (hb8.mono HB7.out.size)); clear hb8))
      go_ret
      exact ⟨rfl, HB8.out⟩

end Go.Proofs.Ytjfplkndngmgdaa

namespace Go.Proofs.Ytjfplkndngmgdaa
set_option maxRecDepth 20000
open Go.ChangeShapes Go.WideShapes Go.ChangeAt Go.RowKit
open Go.ChangeMaps (open_string shut_string)
open Go.WideMaps (okWide_arr ArrKey)

theorem own : ownKnob Try.prog.godebug = none := by kernel_rfl
theorem laidOut : laidOutB Try.prog = true := by kernel_rfl
theorem arrKey : ArrKey Try.prog 35 5 32 := ⟨by kernel_rfl, by kernel_rfl, by kernel_rfl, by kernel_rfl⟩

theorem elems_of {H : Type} {enc : TypeId × Value → H} {W : World} {base : Nat} {sp : Nat → Bool} {held : Bool} {m : Nat} {cs : List Value} : ∀ (L : List Nat) (xs : List (DataW H × List MemPlace)),
    L.mapM (fun i => DataW.trod enc Try.prog W base sp held m 5 ((cs.drop (i * 1)).take 1)) = some xs → ∀ i ∈ L, ∃ a, (cs.drop (i * 1)).take 1 = [Value.int .u8 a] ∧ (Lit.int .u8 a).wf = true
  | [], _, _ => fun i hi => by cases hi
  | i :: L, xs, h => by
    rw [List.mapM_cons] at h
    simp only [bind, Option.bind_eq_some_iff, pure, Option.some.injEq] at h
    obtain ⟨y, hy, ys, hys, rfl⟩ := h
    obtain ⟨a, ea, _, wa⟩ := DataW.trod_int (k := .u8) (by kernel_rfl) hy
    intro j hj
    rcases List.mem_cons.1 hj with rfl | hj
    · exact ⟨a, ea, wa⟩
    · exact elems_of L ys hys j hj

theorem open_arr {T N : Nat} (hk : ArrKey Try.prog T 5 N) {H : Type} {enc : TypeId × Value → H} {W : World} {base : Nat} {sp : Nat → Bool} {held : Bool} {r : Reach} {b0 : Nat} {v : Value} {d : DataW H} {ps : List MemPlace}
    (hv : Value.okWide Try.prog W r b0 T v) (hd : DataW.Trod enc Try.prog W base sp held T v d ps) : ∃ l : List UInt8, l.length = N ∧ v = .agg (ucs l) := by
  obtain ⟨xs, rfl, hn⟩ := okWide_arr hk hv
  obtain ⟨fuel, hf⟩ := hd
  cases fuel with
  | zero => simp [DataW.trod] at hf
  | succ m =>
    rw [DataW.trod_step] at hf
    unfold DataW.trodStep at hf
    simp only [hk.hu, Value.cells] at hf
    rw [if_pos (by rw [hk.size]; simpa using hn)] at hf
    simp only [Option.map_eq_some_iff] at hf
    obtain ⟨ys, hy, _⟩ := hf
    rw [hk.one] at hy
    have hel := elems_of _ ys hy
    refine ⟨xs.toList.map fun v => match v with | .int _ a => UInt8.ofNat a.toNat | _ => 0, by simp [hn], ?_⟩
    congr 1
    apply Array.ext
    · simp [ucs, bcs]
    · intro i h1 h2
      obtain ⟨a, ea, wa⟩ := hel i (by rw [List.mem_range]; omega)
      have e1 : xs[i] = .int .u8 a := by
        have h3 : ((xs.toList.drop (i * 1)).take 1)[0]? = some xs[i] := by simp [h1]
        rw [ea] at h3
        simpa using h3.symm
      have hr : 0 ≤ a ∧ a < 256 := by
        unfold Lit.wf at wa
        simp only [Bool.and_eq_true, decide_eq_true_eq] at wa
        have h6 : (0 : Int) ≤ a ∧ a ≤ 255 := wa
        omega
      simp only [ucs, bcs, List.getElem_toArray, List.getElem_map, Array.getElem_toList, e1]
      congr 1
      unfold ib
      rw [UInt8.toNat_ofNat']
      omega

theorem open_digest {H : Type} {enc : TypeId × Value → H} {W : World} {base : Nat} {sp : Nat → Bool} {held : Bool} {r : Reach} {b0 : Nat} {v : Value} {d : DataW H} {ps : List MemPlace}
    (hv : Value.okWide Try.prog W r b0 35 v) (hd : DataW.Trod enc Try.prog W base sp held 35 v d ps) : ∃ l : List UInt8, l.length = 32 ∧ v = .agg (ucs l) := open_arr arrKey hv hd
theorem byte_of {b : Int} (wb : (Lit.int .u8 b).wf = true) : ∃ c : UInt8, b = ib c := by
  unfold Lit.wf at wb
  simp only [Bool.and_eq_true, decide_eq_true_eq] at wb
  have h6 : (0 : Int) ≤ b ∧ b ≤ 255 := wb
  refine ⟨UInt8.ofNat b.toNat, ?_⟩
  unfold ib
  rw [UInt8.toNat_ofNat']
  omega
/-- Bytes that came in. -/
theorem open_bytes {H : Type} {enc : TypeId × Value → H} {W : World} {base : Nat} {sp : Nat → Bool} {held : Bool} {r : Reach} {b0 : Nat} {v : Value} {d : DataW H} {ps : List MemPlace}
    (hv : Value.okWide Try.prog W r b0 76 v) (hd : DataW.Trod enc Try.prog W base sp held 76 v d ps) : ∃ A n c l, v = .slice A n c ∧ l.length = n ∧ SlW W (.slice A n c) l n := by
  obtain ⟨A, n, c, rfl⟩ := okWide_slice Try.underlying76 hv
  obtain ⟨fuel, hf⟩ := hd
  rcases open_ints Try.underlying76 Try.underlying5 (by kernel_rfl) hf with ⟨hcs, _⟩ | ⟨x, l, c2, zs, hcs, _, hl, hm, hz, _, hcell, hwz⟩
  · simp [Value.cells] at hcs
    obtain ⟨rfl, rfl, rfl⟩ := hcs
    exact ⟨none, 0, 0, [], rfl, rfl, none, 0, rfl, Nat.le_refl _, Nat.zero_le _, fun _ => ⟨rfl, rfl⟩, Cl.nil _ _⟩
  · simp [Value.cells] at hcs
    obtain ⟨rfl, rfl, rfl⟩ := hcs
    have hzl : n ≤ zs.length := by
      split at hz <;> omega
    refine ⟨some x, n, c, (zs.take n).map fun v => UInt8.ofNat v.toNat, rfl, by simp; omega, some x, c, rfl, hl, hm, (fun e => nomatch e), fun j u hj => ?_⟩
    have hjn : j < n := by
        have := (List.getElem?_eq_some_iff.1 hj).1
        simp [bcs] at this
        omega
    refine ⟨x, rfl, ?_⟩
    rw [hcell j (by omega)]
    have hr := range_u8 hwz j
    have e1 : zs.getD j 0 = zs[j]'(by omega) := by rw [List.getD_eq_getElem?_getD, List.getElem?_eq_getElem (by omega)]; rfl
    rw [← List.getD_eq_getElem?_getD, e1] at hr
    rw [e1]
    rw [← hj]
    simp only [bcs, List.map_map, List.getElem?_map]
    rw [List.getElem?_take_of_lt hjn, List.getElem?_eq_getElem (by omega)]
    simp only [Option.map_some, Function.comp_def]
    congr 2
    unfold ib
    rw [UInt8.toNat_ofNat']
    omega
/-- Numbers that came in. -/
theorem open_numbers {H : Type} {enc : TypeId × Value → H} {W : World} {base : Nat} {sp : Nat → Bool} {held : Bool} {r : Reach} {b0 : Nat} {v : Value} {d : DataW H} {ps : List MemPlace}
    (hv : Value.okWide Try.prog W r b0 114 v) (hd : DataW.Trod enc Try.prog W base sp held 114 v d ps) : ∃ (A : Option Addr) (n c : Nat) (zs : List Int), v = .slice A n c ∧
      ∀ i, i < n → ∃ b o, A = some ⟨b, o, none⟩ ∧ W.cell? ⟨b, o + i, none⟩ = some (.int .i64 (zs.getD i 0)) := by
  obtain ⟨A, n, c, rfl⟩ := okWide_slice Try.underlying114 hv
  obtain ⟨fuel, hf⟩ := hd
  rcases open_ints Try.underlying114 Try.underlying3 (by kernel_rfl) hf with ⟨hcs, _⟩ | ⟨x, l, c2, zs, hcs, _, hl, hm, hz, _, hcell, hwz⟩
  · simp [Value.cells] at hcs
    obtain ⟨rfl, rfl, rfl⟩ := hcs
    exact ⟨none, 0, 0, [], rfl, fun i hi => absurd hi (Nat.not_lt_zero i)⟩
  · simp [Value.cells] at hcs
    obtain ⟨rfl, rfl, rfl⟩ := hcs
    have hzl : n ≤ zs.length := by
      split at hz <;> omega
    refine ⟨some x, n, c, zs, rfl, fun i hi => ?_⟩
    have h1 := hcell i (by omega)
    obtain ⟨b, o, sp⟩ := x
    have hsp : sp = none := by simpa [Addr.add] using World.cell?_spot (hcell 0 (by omega))
    subst hsp
    rw [add_lit] at h1
    exact ⟨b, o, rfl, h1⟩
/-- Slices of bytes that came in. -/
theorem open_parts {H : Type} {enc : TypeId × Value → H} {W : World} {base : Nat} {held : Bool} {r : Reach} {b0 : Nat} {v : Value} {d : DataW H} {ps : List MemPlace}
    (hv : Value.okWide Try.prog W r b0 78 v) (hd : DataW.Trod enc Try.prog W base (fun _ => true) held 78 v d ps) : ∃ (C : Option Addr) (n c : Nat) (qs : List (Value × List UInt8)), v = .slice C n c ∧ qs.length = n ∧ PartsAt W C qs := by
  obtain ⟨A, n, c, rfl⟩ := okWide_slice Try.underlying78 hv
  obtain ⟨fuel, hf⟩ := hd
  rcases Go.Deep.open_int_rows Try.underlying78 Try.underlying76 Try.underlying5 (by kernel_rfl) (by kernel_rfl) hf with ⟨hcs, _⟩ | ⟨x, l, c2, A', L, C', Z, hcs, _, hl, hm, _, hr⟩
  · simp [Value.cells] at hcs
    obtain ⟨rfl, rfl, rfl⟩ := hcs
    exact ⟨none, 0, 0, [], rfl, rfl, fun j p hj => by simp at hj⟩
  · simp [Value.cells] at hcs
    obtain ⟨rfl, rfl, rfl⟩ := hcs
    refine ⟨some x, n, c, (List.range n).map fun r => (.slice (A' r) (L r) (C' r), ((Z r).take (L r)).map fun v => UInt8.ofNat v.toNat), rfl, by simp, fun j p hj => ?_⟩
    have hjn : j < n := by
      have := (List.getElem?_eq_some_iff.1 hj).1
      simpa using this
    rw [List.getElem?_map, List.getElem?_range hjn] at hj
    simp only [Option.map_some, Option.some.injEq] at hj
    subst hj
    obtain ⟨h1, h2, h3, h4, h5, h6, h7⟩ := hr j (by omega)
    have hlen : (((Z j).take (L j)).map fun v => UInt8.ofNat v.toNat).length = L j := by simp; omega
    refine ⟨⟨x, rfl, h1⟩, ?_⟩
    rw [hlen]
    refine ⟨A' j, C' j, rfl, h2, h3, (fun e => by have := h6 e; omega), fun i u hi => ?_⟩
    have hin : i < L j := by
      have := (List.getElem?_eq_some_iff.1 hi).1
      rw [bcs_length, hlen] at this
      exact this
    cases hA : A' j with
    | none => have := h6 hA; omega
    | some a =>
      refine ⟨a, rfl, ?_⟩
      rw [(h7 a hA).2 i (by omega)]
      have hr := range_u8 h5 i
      have e1 : (Z j).getD i 0 = (Z j)[i]'(by omega) := by rw [List.getD_eq_getElem?_getD, List.getElem?_eq_getElem (by omega)]; rfl
      rw [← List.getD_eq_getElem?_getD, e1] at hr
      rw [e1, ← hi]
      simp only [bcs, List.map_map, List.getElem?_map]
      rw [List.getElem?_take_of_lt hin, List.getElem?_eq_getElem (by omega)]
      simp only [Option.map_some, Function.comp_def]
      congr 2
      unfold ib
      rw [UInt8.toNat_ofNat']
      omega

end Go.Proofs.Ytjfplkndngmgdaa

namespace Go.Proofs.Ytjfplkndngmgdaa
set_option maxRecDepth 20000
open Go.ChangeShapes Go.WideShapes Go.ChangeAt Go.RowKit Sp
open Go.WideMaps (okWide_arr ArrKey)

theorem dcs_at {ds : List Dg} (h : All32 ds) {q r : Nat} {d : Dg} (hq : ds[q]? = some d) (hr : r < 32) : (dcs ds)[q * 32 + r]? = (bcs d)[r]? := by
  have hlt := (List.getElem?_eq_some_iff.1 hq).1
  have hd := (List.getElem?_eq_some_iff.1 hq).2
  have h32 := h.get hq
  rw [← List.getElem?_drop, dcs_drop h, List.drop_eq_getElem_cons hlt, hd, dcs, List.flatten_cons, bcs_append, List.getElem?_append_left (by rw [bcs_length, h32]; exact hr)]
section
variable {H : Type} {enc : TypeId × Value → H} {W : World} {base : Nat} {held : Bool}
theorem dig_trod {sp : Nat → Bool} {fuel : Nat} {cs : List Value} {x : DataW H × List MemPlace} (hlen : cs.length = 32) (h : DataW.trod enc Try.prog W base sp held fuel 35 cs = some x) : ∃ l : List UInt8, l.length = 32 ∧ cs = bcs l := by
  have hk := arrKey
  cases fuel with
  | zero => simp [DataW.trod] at h
  | succ m =>
    rw [DataW.trod_step] at h
    unfold DataW.trodStep at h
    simp only [hk.hu] at h
    rw [if_pos (by rw [hk.size]; simpa using hlen)] at h
    simp only [Option.map_eq_some_iff] at h
    obtain ⟨ys, hy, _⟩ := h
    rw [hk.one] at hy
    have hel := elems_of _ ys hy
    refine ⟨cs.map fun v => match v with | .int _ a => UInt8.ofNat a.toNat | _ => 0, by simp [hlen], ?_⟩
    apply List.ext_getElem
    · simp [bcs]
    · intro i h1 h2
      obtain ⟨a, ea, wa⟩ := hel i (by rw [List.mem_range]; omega)
      have e1 : cs[i] = .int .u8 a := by
        have h3 : ((cs.drop (i * 1)).take 1)[0]? = some cs[i] := by simp [h1]
        rw [ea] at h3
        simpa using h3.symm
      have hr : 0 ≤ a ∧ a < 256 := by
        unfold Lit.wf at wa
        simp only [Bool.and_eq_true, decide_eq_true_eq] at wa
        have h6 : (0 : Int) ≤ a ∧ a ≤ 255 := wa
        omega
      simp only [bcs, List.getElem_map, e1]
      congr 1
      unfold ib
      rw [UInt8.toNat_ofNat']
      omega
/-- Digests that came in. -/
theorem open_digests {r : Reach} {b0 : Nat} {v : Value} {d : DataW H} {ps : List MemPlace}
    (hv : Value.okWide Try.prog W r b0 30 v) (hd : DataW.Trod enc Try.prog W base (fun _ => true) held 30 v d ps) : ∃ (A : Option Addr) (n c : Nat) (ds : List Dg), v = .slice A n c ∧ SlD W (.slice A n c) ds n := by
  obtain ⟨A, n, c, rfl⟩ := okWide_slice Try.underlying30 hv
  obtain ⟨fuel, hf⟩ := hd
  rcases Go.Deep.open_slice Try.underlying30 hf with ⟨hcs, _⟩ | ⟨x, l, c2, m, k, D, Pl, hcs, _, hl, hm, hmm, _, hx⟩
  · simp [Value.cells] at hcs
    obtain ⟨rfl, rfl, rfl⟩ := hcs
    exact ⟨none, 0, 0, [], rfl, none, 0, rfl, rfl, All32.nil, Nat.le_refl _, Nat.zero_le _, fun _ => ⟨rfl, rfl⟩, Cl.nil _ _⟩
  · simp [Value.cells] at hcs
    obtain ⟨rfl, rfl, rfl⟩ := hcs
    have ce : Try.prog.cellsOf 35 = 32 := by kernel_rfl
    have hlm : n ≤ m := by rw [hmm]; split <;> omega
    have each : ∀ i, i < n → ∃ q : Dg, q.length = 32 ∧ ∀ j u, (bcs q)[j]? = some u → W.cell? ((x.add (i * 32)).add j) = some u := by
      intro i hi
      obtain ⟨cs', h1, h2⟩ := hx i (by omega)
      rw [ce] at h1
      obtain ⟨_, hlen, hcell⟩ := World.cells?_some h1
      obtain ⟨q, hq, rfl⟩ := dig_trod hlen h2
      refine ⟨q, hq, fun j u hj => ?_⟩
      have hj' : j < (bcs q).length := (List.getElem?_eq_some_iff.1 hj).1
      have := hcell j (by omega)
      rw [this]
      have hu := (List.getElem?_eq_some_iff.1 hj).2
      simpa [hj'] using hu
    obtain ⟨q, hq⟩ := Go.Deep.choose_lt each
    have h32 : All32 ((List.range n).map q) := fun d hd => by
      obtain ⟨i, hi, rfl⟩ := List.mem_map.1 hd
      exact (hq i (by simpa using hi)).1
    refine ⟨some x, n, c, (List.range n).map q, rfl, some x, c, rfl, by simp, h32, hl, hm, (fun e => nomatch e), fun j u hj => ⟨x, rfl, ?_⟩⟩
    have hj' := (List.getElem?_eq_some_iff.1 hj).1
    rw [dcs_length h32, List.length_map, List.length_range] at hj'
    have hq1 : j / 32 < n := by omega
    have hg : ((List.range n).map q)[j / 32]? = some (q (j / 32)) := by rw [List.getElem?_map, List.getElem?_range hq1]; rfl
    have hd := dcs_at h32 hg (Nat.mod_lt j (by omega : 0 < 32))
    rw [show j / 32 * 32 + j % 32 = j by omega, hj] at hd
    have h9 := (hq (j / 32) hq1).2 (j % 32) u hd.symm
    rw [Addr.add_add] at h9
    rwa [show j / 32 * 32 + j % 32 = j by omega] at h9
end

end Go.Proofs.Ytjfplkndngmgdaa

namespace Go.Proofs.Ytjfplkndngmgdaa
set_option maxRecDepth 20000
open Go.RowKit Sp

theorem set_drop {α : Type} : ∀ (l r : List α) (i : Nat) (u : α), (l ++ r).set (l.length + i) u = l ++ r.set i u
  | [], r, i, u => by simp
  | a :: l, r, i, u => by
    rw [List.cons_append, List.length_cons, show l.length + 1 + i = (l.length + i) + 1 by omega, List.set_cons_succ, set_drop l r i u, List.cons_append]
theorem bcs_set (d : Dg) (a : Nat) (b : UInt8) : (bcs d).set a (.int .u8 (ib b)) = bcs (d.set a b) := by
  unfold bcs; rw [List.map_set]
theorem dcs_set : ∀ {ds : List Dg} (k : Nat) {d : Dg} (a : Nat) (b : UInt8), All32 ds → ds[k]? = some d → a < 32 → (dcs ds).set (k * 32 + a) (.int .u8 (ib b)) = dcs (ds.set k (d.set a b))
  | [], k, d, a, b, _, h, _ => by simp at h
  | x :: ds, 0, d, a, b, h32, h, ha => by
    have h1 := h32 x (List.mem_cons_self ..)
    simp only [List.getElem?_cons_zero, Option.some.injEq] at h
    subst h
    rw [List.set_cons_zero, dcs, List.flatten_cons, bcs_append, Nat.zero_mul, Nat.zero_add, List.set_append_left _ _ (by rw [bcs_length, h1]; exact ha), bcs_set, dcs, List.flatten_cons, bcs_append]
  | x :: ds, k + 1, d, a, b, h32, h, ha => by
    have h1 := h32 x (List.mem_cons_self ..)
    have ih := dcs_set (ds := ds) k a b h32.tail (by simpa using h) ha
    rw [List.set_cons_succ, dcs, List.flatten_cons, bcs_append, show (k + 1) * 32 + a = (bcs x).length + (k * 32 + a) by rw [bcs_length, h1]; omega, set_drop]
    unfold dcs at ih
    rw [ih, dcs, List.flatten_cons, bcs_append]
theorem all32_set {ds : List Dg} (h : All32 ds) (k : Nat) {d : Dg} (hd : d.length = 32) : All32 (ds.set k d) := fun x hx => by
  rcases List.mem_or_eq_of_mem_set hx with h1 | h1
  · exact h x h1
  · rw [h1]; exact hd
theorem own_at {w : World} {base g n cap : Nat} {xs : List Value} (h : w.ownsRow base 35 32 (.slice (some ⟨g, 0, none⟩) n cap) n xs) : ∃ cur, base ≤ g ∧ w.heap[g]? = some (.cells cur 35 (0, 0)) ∧ n ≤ cap ∧ cap ≤ maxLen ∧ cur.size = cap * 32 ∧ cur.toList.take (n * 32) = xs := by
  rcases h.2 with ⟨e, _⟩ | ⟨g', cap', cur, e, h1, h2, h3, h4, h5, h6⟩
  · cases e
  · cases e; exact ⟨cur, h1, h2, h3, h4, h5, h6⟩
theorem own_setD {w : World} {base g n cap k a : Nat} {ds : List Dg} {d : Dg} (h : w.ownsRow base 35 32 (.slice (some ⟨g, 0, none⟩) n cap) n (dcs ds)) (h32 : All32 ds) (hk : ds[k]? = some d) (ha : a < 32) (b : UInt8) :
    (w.setCell ⟨g, k * 32 + a, none⟩ (.int .u8 (ib b))).ownsRow base 35 32 (.slice (some ⟨g, 0, none⟩) n cap) n (dcs (ds.set k (d.set a b))) := by
  obtain ⟨cur, h1, h2, h3, h4, h5, h6⟩ := own_at h
  have hl := h.1
  rw [← dcs_set k a b h32 hk ha]
  refine ⟨by simpa using hl, .inr ⟨g, cap, _, rfl, h1, blk_set h2 (k * 32 + a) (.int .u8 (ib b)), h3, h4, by simpa using h5, ?_⟩⟩
  rw [Array.toList_setIfInBounds, List.take_set, h6]
theorem own_byte {w : World} {base g n cap k a : Nat} {ds : List Dg} {d : Dg} (h : w.ownsRow base 35 32 (.slice (some ⟨g, 0, none⟩) n cap) n (dcs ds)) (h32 : All32 ds) (hk : ds[k]? = some d) (ha : a < 32) :
    w.cell? ⟨g, k * 32 + a, none⟩ = some (.int .u8 (ib (d.getD a 0))) ∧ w.frozen? ⟨g, k * 32 + a, none⟩ = false := by
  obtain ⟨cur, h1, h2, h3, h4, h5, h6⟩ := own_at h
  have hlt := (List.getElem?_eq_some_iff.1 hk).1
  have hd := (List.getElem?_eq_some_iff.1 hk).2
  have hd32 := h32.get hk
  have hl := h.1
  rw [dcs_length h32] at hl
  have hg : (dcs ds)[k * 32 + a]? = some (.int .u8 (ib (d.getD a 0))) := by
    rw [← List.getElem?_drop, dcs_drop h32, List.drop_eq_getElem_cons hlt, hd, dcs, List.flatten_cons, bcs_append, List.getElem?_append_left (by rw [bcs_length, hd32]; exact ha)]
    rw [bcs, List.getElem?_map, List.getElem?_eq_getElem (by omega), List.getD_eq_getElem?_getD, List.getElem?_eq_getElem (by omega)]
    rfl
  refine ⟨?_, blk_frozen h2 _⟩
  rw [← h6, List.getElem?_take_of_lt (by omega)] at hg
  rw [blk_cell h2, ← Array.getElem?_toList]
  exact hg
theorem ib_succ (b : UInt8) : (ib b + 1) % 256 = ib (b + 1) := by
  unfold ib
  rw [UInt8.toNat_add]
  have := b.toNat_lt
  show ((b.toNat : Int) + 1) % 256 = (((b.toNat + 1) % 256 : Nat) : Int)
  omega

end Go.Proofs.Ytjfplkndngmgdaa
