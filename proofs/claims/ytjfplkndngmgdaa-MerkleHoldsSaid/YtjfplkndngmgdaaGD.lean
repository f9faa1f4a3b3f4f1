/- A tree's small questions; how long a path is. Paths, steps and where a path leads: no program in sight. merkle.Steps. The document's Steps. (*merkle.Tree).Path. merkle.Up. merkle.Check. Each leaf's path leads to the root: no program in sight. -/
import Derived.Test.YtjfplkndngmgdaaGC
namespace Go.Proofs.Ytjfplkndngmgdaa
set_option maxRecDepth 20000
open Go.RowKit Go.Shelf Sp

theorem rows_ne (ds : List Dg) : 0 < (rows ds).length := rowsUp_pos _ _
theorem rowsUp_nonempty : ∀ (f : Nat) (l : List Dg), 0 < l.length → ∀ r ∈ rowsUp f l, 0 < r.length
  | 0, l, h, r, hr => by
    obtain rfl := List.mem_singleton.1 hr; exact h
  | f + 1, l, h, r, hr => by
    rw [rowsUp] at hr
    split at hr
    · obtain rfl := List.mem_singleton.1 hr; exact h
    · rcases List.mem_cons.1 hr with rfl | hr
      · exact h
      · exact rowsUp_nonempty f (upw l) (by rw [upw_length]; omega) r hr
theorem rowsUp_last : ∀ (f : Nat) (l : List Dg), 0 < l.length → l.length ≤ f + 1 → ∃ d pre, rowsUp f l = pre ++ [[d]]
  | 0, l, h, hf => by
    match l, h, hf with
    | [d], _, _ => exact ⟨d, [], rfl⟩
  | f + 1, l, h, hf => by
    rw [rowsUp]
    split
    · match l, h with
      | [d], _ => exact ⟨d, [], rfl⟩
      | x :: y :: r, _ => simp at *
    · obtain ⟨d, pre, e⟩ := rowsUp_last f (upw l) (by rw [upw_length]; omega) (by rw [upw_length]; omega)
      exact ⟨d, l :: pre, by rw [e]; rfl⟩
def rootOf (ds : List Dg) : Dg := ((rows ds).getLastD []).headD []
theorem rows_last (ds : List Dg) (h : 0 < ds.length) : (rows ds)[(rows ds).length - 1]? = some [rootOf ds] := by
  obtain ⟨d, pre, e⟩ := rowsUp_last ds.length (ds.map mrk) (by simpa using h) (by simp)
  have e2 : rows ds = pre ++ [[d]] := e
  have e3 : rootOf ds = d := by simp [rootOf, e2]
  rw [e3, e2]
  simp
theorem TreeAt.open {w : World} {B T g : Nat} {ds : List Dg} (h : TreeAt w B T g ds) (h0 : 0 < ds.length) :
    ∃ b o c rb rc, w.heap[g]? = some (.cells #[.slice (some ⟨b, o, none⟩) ds.length c, .slice (some ⟨rb, 0, none⟩) (rows ds).length rc] 67 (0, 0)) ∧ SlD w (.slice (some ⟨b, o, none⟩) ds.length c) ds ds.length ∧ rb < w.heap.size ∧ (rows ds).length ≤ rc ∧
      ∀ j r, (rows ds)[j]? = some r → ∃ b' o' c', w.cell? ⟨rb, j, none⟩ = some (.slice (some ⟨b', o', none⟩) r.length c') ∧ SlD w (.slice (some ⟨b', o', none⟩) r.length c') r r.length := by
  obtain ⟨lv, rv, ps, h1, h2, h3, h4, h5, h6, h7, h8, h9⟩ := h
  obtain ⟨A, c, rfl, _⟩ := h4.val
  obtain ⟨b, o, rfl, _⟩ := h4.at h0
  have hlen : ps.length = (rows ds).length := by rw [← h8, List.length_map]
  obtain ⟨Ar, rc, rfl, hrn, _, hcl, hrb, hr0⟩ := own_cl h6
  cases Ar with
  | none => have := (hr0 rfl).1; have := rows_ne ds; omega
  | some ar =>
    have h6' := h6.2
    rcases h6' with ⟨e, _⟩ | ⟨rb, cap, cur, e, _⟩
    · cases e
    · cases e
      refine ⟨b, o, c, rb, rc, by rw [h1, hlen], h4, (hrb _ rfl).2, by omega, fun j r hj => ?_⟩
      rw [← h8, List.getElem?_map] at hj
      cases hp : ps[j]? with
      | none => rw [hp] at hj; cases hj
      | some p =>
        rw [hp] at hj
        simp only [Option.map_some, Option.some.injEq] at hj
        subst hj
        have hs := (h9 p (List.mem_of_getElem? hp)).1
        obtain ⟨A', c', e, _⟩ := hs.val
        have hr : 0 < p.2.length := rowsUp_nonempty ds.length (ds.map mrk) (by simpa using h0) p.2 (by
          have := List.mem_of_getElem? (show (ps.map (·.2))[j]? = some p.2 by rw [List.getElem?_map, hp]; rfl)
          rw [h8] at this
          exact this)
        rw [e] at hs
        obtain ⟨b', o', rfl, _⟩ := hs.at hr
        refine ⟨b', o', c', ?_, hs⟩
        obtain ⟨a, ha, hc⟩ := hcl j p.1 (by rw [List.getElem?_map, hp]; rfl)
        cases ha
        rw [add_lit, Nat.zero_add] at hc
        rw [hc, e]

theorem ret_row2 {P : Program} {T n : Nat} {fn : Func} {p q : Tmp} (h : fn.results = #[.cell p T, .tmp q]) (hT : arrT P T n = true) (tmps : Array Value) (w : World) (g o : Nat) (c : Array Value)
    (hp : tmps.getD p undef = .pointer (some ⟨g, o, none⟩)) (v : Value) (hq : tmps.getD q undef = v) (hs : sub? w g o n = some c) : (results fn tmps).run P w = .ok (.tuple #[.agg c, v]) w := by
  have hp' : tmps[p]?.getD undef = .pointer (some ⟨g, o, none⟩) := by simpa using hp
  have hq' : tmps[q]?.getD undef = v := by simpa using hq
  simp [results, h, hp', hq', asAddr, run_loadVar_sub hT w g o c hs]

attribute [local go_sem ↓] ldD stD
attribute [local go_sem] run_ldA run_stA arrD loadX_at loadY_some storeX_at storeY_true ucs_size ones_ucs sha_length

theorem tnone_nil (w : World) : Calls Try.prog 37 #[.pointer none] w fun e w' => e = .returned (.bool true) ∧ w = w' := by
  go_enter Try.func37, Try.ntmps37
  go_wp2_with fail
  go_ret
  exact ⟨rfl, rfl⟩
theorem tnone_tree (w : World) (g n : Nat) (A : Option Addr) (c : Nat) (rv : Value) (h : w.heap[g]? = some (.cells #[.slice A n c, rv] 67 (0, 0))) (h0 : 0 < n) :
    Calls Try.prog 37 #[.pointer (some ⟨g, 0, none⟩)] w fun e w' => e = .returned (.bool false) ∧ w = w' := by
  have hc : w.cell? ⟨g, 0, none⟩ = some (.slice A n c) := by simp [World.cell?, h]
  have hn : ((n : Int) == 0) = false := by simp; omega
  clear h
  go_enter Try.func37, Try.ntmps37
  go_wp2_with fail
  go_ret
  exact ⟨rfl, rfl⟩
theorem asked_nil (w : World) (i : Int) : Calls Try.prog 38 #[.pointer none, .int .i64 i] w fun e w' => e = .returned (.int .i64 1) ∧ w = w' := by
  go_enter Try.func38, Try.ntmps38
  go_wp2_with (go_at_call 37; refine (tnone_nil _).mono ?_; rintro e w' ⟨rfl, rfl⟩)
  go_ret
  exact ⟨rfl, rfl⟩
theorem asked_tree (w : World) (g n : Nat) (A : Option Addr) (c : Nat) (rv : Value) (h : w.heap[g]? = some (.cells #[.slice A n c, rv] 67 (0, 0))) (h0 : 0 < n) (i : Int) :
    Calls Try.prog 38 #[.pointer (some ⟨g, 0, none⟩), .int .i64 i] w fun e w' => e = .returned (.int .i64 (if i < 0 ∨ (n : Int) ≤ i then 4 else 0)) ∧ w = w' := by
  have hc : w.cell? ⟨g, 0, none⟩ = some (.slice A n c) := by simp [World.cell?, h]
  have HN := hd (tnone_tree w g n A c rv h h0)
  clear h
  by_cases h1 : i < 0
  · rw [if_pos (.inl h1)]
    go_enter Try.func38, Try.ntmps38
    go_wp2_with (go_at_call 37; refine HN.out.mono ?_; rintro e w' ⟨rfl, rfl⟩)
    go_ret
    exact ⟨rfl, rfl⟩
  · by_cases h2 : (n : Int) ≤ i
    · rw [if_pos (.inr h2)]
      go_enter Try.func38, Try.ntmps38
      go_wp2_with (go_at_call 37; refine HN.out.mono ?_; rintro e w' ⟨rfl, rfl⟩)
      go_ret
      exact ⟨rfl, rfl⟩
    · rw [if_neg (by omega)]
      go_enter Try.func38, Try.ntmps38
      go_wp2_with (go_at_call 37; refine HN.out.mono ?_; rintro e w' ⟨rfl, rfl⟩)
      go_ret
      exact ⟨rfl, rfl⟩

set_option maxHeartbeats 2000000 in
set_option maxRecDepth 100000 in
theorem root_any (w : World) (B T g : Nat) (ds : List Dg) (h : TreeAt w B T g ds) (h0 : 0 < ds.length) (h16 : ds.length ≤ 16) :
    Calls Try.prog 18 #[.pointer (some ⟨g, 0, none⟩)] w fun e w' => e = .returned (.tuple #[.agg (ucs (rootOf ds)), .int .i64 0]) ∧ Below w.heap.size w w' := by
  obtain ⟨b, o, c, rb, rc, h1, h2, h3, h3', h4⟩ := h.open h0
  obtain ⟨b', o', c', h5, h6⟩ := h4 _ _ (rows_last ds h0)
  have hsub := h6.sub 0 rfl
  have hb' : b' < w.heap.size := by obtain ⟨_, _, e, hb⟩ := h6.at (by simp); cases e; exact hb
  have h32 := h6.all.get (k := 0) rfl
  rw [Nat.zero_mul, Nat.add_zero] at hsub
  have hg : g < w.heap.size := blk_lt h1
  have hpos := rows_ne ds
  obtain ⟨k, hk⟩ : ∃ k, (rows ds).length = k + 1 := ⟨(rows ds).length - 1, by omega⟩
  obtain ⟨r, hr⟩ : ∃ r, rootOf ds = r := ⟨_, rfl⟩
  have hk16 : k ≤ 16 := by have := rows_length ds; omega
  rw [hk] at h1 h5 h3'
  rw [hr] at hsub h32 ⊢
  rw [Nat.add_sub_cancel] at h5
  have hg1 : w.cell? ⟨g, 1, none⟩ = some (.slice (some ⟨rb, 0, none⟩) (k + 1) rc) := by simp [World.cell?, h1]
  have HN := hd (tnone_tree w g _ _ _ _ h1 h0)
  have HG := hd h1
  have HS := hd hsub
  have H1 := hd hg1
  have H5 := hd h5
  clear h h2 h4 h6 h1 hsub hpos hk hr hg1 h5
  go_enter Try.func18, Try.ntmps18
  go_upto_region 0 with (fail)
  go_cut [2, 3] (fun v1 v2 wx => v1 = .pointer (some ⟨w.heap.size, 0, none⟩) ∧ v2 = .int .i64 0 ∧ wx.heap[w.heap.size]? = some (.cells (ucs (List.replicate 32 0)) 35 (0, 0)) ∧ wx.heap.size = w.heap.size + 1 ∧ Below w.heap.size w wx)
  case first =>
    go_wp2_with fail
    go_meet
    exact ⟨rfl, rfl, heap_alloc_new w _, by simp, (Below.refl _ _).alloc (Nat.le_refl _) _⟩
  case rest =>
    obtain ⟨rfl, rfl, hD, hz, hB⟩ := hcut
    have HD := hd hD
    have HB := hd hB
    have HN2 := hd (tnone_tree wc g _ _ _ _ ((hB.block g hg).trans HG.out) h0)
    go_wp2_with (go_at_call 37; refine HN2.out.mono ?_; rintro e w' ⟨rfl, rfl⟩)
    have hg1 : wc.cell? ⟨g, 1, none⟩ = some (.slice (some ⟨rb, 0, none⟩) (k + 1) rc) := (hB.cell (p := ⟨g, 1, none⟩) hg).trans H1.out
    have h5 : wc.cell? ⟨rb, k, none⟩ = some (.slice (some ⟨b', o', none⟩) 1 c') := (hB.cell (p := ⟨rb, k, none⟩) h3).trans H5.out
    have hsub : sub? wc b' o' 32 = some (ucs r) := (sub_of_heap (hB.block b' hb')).trans HS.out
    have hcan := can_row (o := 0) (n := 32) hD (by simp [ucs_size])
    have wk : IntKind.i64.wrap (k : Int) = (k : Int) := IntWalk.i64_in _ (by omega)
    have ek : ((k + 1 : Nat) : Int) - 1 = (k : Int) := by omega
    clear hD hB hz
    go_region
    go_wp2_with fail
    have hrow := putSub_row (w := wc) (c := ucs r) HD.out (by simp [ucs_size, h32])
    refine bodyPost_ret (ret_row2 rfl (n := 32) (by kernel_rfl) _ _ w.heap.size 0 (ucs r) rfl _ rfl (sub_row hrow (by rw [ucs_size, h32]))) rfl ⟨rfl, Below.drew (Below.putSub HB.out (Nat.le_refl _))⟩

set_option maxHeartbeats 1000000 in
set_option maxRecDepth 100000 in
theorem root_nil (w : World) :
    Calls Try.prog 18 #[.pointer none] w fun e w' => e = .returned (.tuple #[.agg (ucs (List.replicate 32 0)), .int .i64 1]) ∧ Below w.heap.size w w' := by
  go_enter Try.func18, Try.ntmps18
  go_upto_region 0 with (fail)
  go_cut [2, 3] (fun v1 v2 wx => v1 = .pointer (some ⟨w.heap.size, 0, none⟩) ∧ v2 = .int .i64 0 ∧ wx.heap[w.heap.size]? = some (.cells (ucs (List.replicate 32 0)) 35 (0, 0)) ∧ wx.heap.size = w.heap.size + 1 ∧ Below w.heap.size w wx)
  case first =>
    go_wp2_with fail
    go_meet
    exact ⟨rfl, rfl, heap_alloc_new w _, by simp, (Below.refl _ _).alloc (Nat.le_refl _) _⟩
  case rest =>
    obtain ⟨rfl, rfl, hD, hz, hB⟩ := hcut
    have HD := hd hD
    have HB := hd hB
    have hcan := can_row (o := 0) (n := 32) hD (by simp [ucs_size])
    clear hD hB hz
    go_wp2_with (first | (go_at_call 37; refine (tnone_nil _).mono ?_; rintro e w' ⟨rfl, rfl⟩) | (refine wpList_built rfl 35 _ rfl (ucs (List.replicate 32 0)) (by kernel_rfl) ?_))
    have hrow := putSub_row (w := wc) (c := ucs (List.replicate 32 0)) HD.out (by simp [ucs_size])
    refine bodyPost_ret (ret_row2 rfl (n := 32) (by kernel_rfl) _ _ w.heap.size 0 (ucs (List.replicate 32 0)) rfl _ rfl (sub_row hrow (by simp [ucs_size]))) rfl ⟨rfl, Below.putSub HB.out (Nat.le_refl _)⟩

theorem tlen_nil (w : World) : Calls Try.prog 27 #[.pointer none] w fun e w' => e = .returned (.int .i64 0) ∧ w = w' := by
  go_enter Try.func27, Try.ntmps27
  go_wp2_with (go_at_call 37; refine (tnone_nil _).mono ?_; rintro e w' ⟨rfl, rfl⟩)
  go_ret
  exact ⟨rfl, rfl⟩
theorem tlen_tree (w : World) (B T g : Nat) (ds : List Dg) (h : TreeAt w B T g ds) (h0 : 0 < ds.length) :
    Calls Try.prog 27 #[.pointer (some ⟨g, 0, none⟩)] w fun e w' => e = .returned (.int .i64 (ds.length : Int)) ∧ w = w' := by
  obtain ⟨b, o, c, rb, rc, h1, h2, h3, h3', h4⟩ := h.open h0
  have HN := hd (tnone_tree w g _ _ _ _ h1 h0)
  have hc : w.cell? ⟨g, 0, none⟩ = some (.slice (some ⟨b, o, none⟩) ds.length c) := by simp [World.cell?, h1]
  obtain ⟨n, hn⟩ : ∃ n, ds.length = n := ⟨_, rfl⟩
  rw [hn] at hc ⊢
  clear h h1 h2 h3 h4 hn
  go_enter Try.func27, Try.ntmps27
  go_wp2_with (go_at_call 37; refine HN.out.mono ?_; rintro e w' ⟨rfl, rfl⟩)
  go_ret
  exact ⟨rfl, rfl⟩

set_option maxHeartbeats 2000000 in
set_option maxRecDepth 100000 in
theorem leaf_any (w : World) (B T g : Nat) (ds : List Dg) (h : TreeAt w B T g ds) (i : Nat) (d : Dg) (hi : ds[i]? = some d) (h16 : ds.length ≤ 16) :
    Calls Try.prog 29 #[.pointer (some ⟨g, 0, none⟩), .int .i64 (i : Int)] w fun e w' => e = .returned (.tuple #[.agg (ucs d), .int .i64 0]) ∧ Below w.heap.size w w' := by
  have hlt : i < ds.length := (List.getElem?_eq_some_iff.1 hi).1
  have h0 : 0 < ds.length := by omega
  obtain ⟨b, o, c, rb, rc, h1, h2, h3, h3', h4⟩ := h.open h0
  have hsub := h2.sub i hi
  have hb' : b < w.heap.size := by obtain ⟨_, _, e, hb⟩ := h2.at h0; cases e; exact hb
  have h32 := h2.all.get hi
  have hg : g < w.heap.size := blk_lt h1
  obtain ⟨n, hn⟩ : ∃ n, ds.length = n := ⟨_, rfl⟩
  rw [hn] at h1 hlt h0 h16
  have hg1 : w.cell? ⟨g, 0, none⟩ = some (.slice (some ⟨b, o, none⟩) n c) := by simp [World.cell?, h1]
  have hi0 : (0 : Int) ≤ (i : Int) := by omega
  have hin : (i : Int) < (n : Int) := by omega
  have HG := hd h1
  have HS := hd hsub
  have H1 := hd hg1
  clear h h2 h4 h1 hsub hg1 hn hi
  go_enter Try.func29, Try.ntmps29
  go_upto_region 0 with (fail)
  go_cut [4, 5] (fun v1 v2 wx => v1 = .pointer (some ⟨w.heap.size, 0, none⟩) ∧ v2 = .int .i64 0 ∧ wx.heap[w.heap.size]? = some (.cells (ucs (List.replicate 32 0)) 35 (0, 0)) ∧ wx.heap.size = w.heap.size + 1 ∧ Below w.heap.size w wx)
  case first =>
    go_wp2_with fail
    go_meet
    exact ⟨rfl, rfl, heap_alloc_new w _, by simp, (Below.refl _ _).alloc (Nat.le_refl _) _⟩
  case rest =>
    obtain ⟨rfl, rfl, hD, hz, hB⟩ := hcut
    have HD := hd hD
    have HB := hd hB
    have ha := asked_tree wc g _ _ _ _ ((hB.block g hg).trans HG.out) h0 (i : Int)
    rw [if_neg (by omega)] at ha
    have HN2 := hd ha
    clear ha
    have hg1 : wc.cell? ⟨g, 0, none⟩ = some (.slice (some ⟨b, o, none⟩) n c) := (hB.cell (p := ⟨g, 0, none⟩) hg).trans H1.out
    have hsub : sub? wc b (o + i * 32) 32 = some (ucs d) := (sub_of_heap (hB.block b hb')).trans HS.out
    have hcan := can_row (o := 0) (n := 32) hD (by simp [ucs_size])
    clear hD hB hz
    go_wp2_with (go_at_call 38; refine HN2.out.mono ?_; rintro e w' ⟨rfl, rfl⟩)
    have hrow := putSub_row (w := wc) (c := ucs d) HD.out (by simp [ucs_size, h32])
    refine bodyPost_ret (ret_row2 rfl (n := 32) (by kernel_rfl) _ _ w.heap.size 0 (ucs d) rfl _ rfl (sub_row hrow (by rw [ucs_size, h32]))) rfl ⟨rfl, Below.putSub HB.out (Nat.le_refl _)⟩

set_option maxHeartbeats 2000000 in
set_option maxRecDepth 100000 in
theorem leaf_no (w : World) (p : Value) (i : Int) (k : Int) (hk : k ≠ 0) (ha : ∀ W, Below w.heap.size w W → Calls Try.prog 38 #[p, .int .i64 i] W fun e w' => e = .returned (.int .i64 k) ∧ W = w') :
    Calls Try.prog 29 #[p, .int .i64 i] w fun e w' => e = .returned (.tuple #[.agg (ucs (List.replicate 32 0)), .int .i64 k]) ∧ Below w.heap.size w w' := by
  have hk1 : (k == 0) = false := by simpa using hk
  have hk2 : (k != 0) = true := by simpa using hk
  have HA := hd ha
  clear ha
  go_enter Try.func29, Try.ntmps29
  go_upto_region 0 with (fail)
  go_cut [4, 5] (fun v1 v2 wx => v1 = .pointer (some ⟨w.heap.size, 0, none⟩) ∧ v2 = .int .i64 0 ∧ wx.heap[w.heap.size]? = some (.cells (ucs (List.replicate 32 0)) 35 (0, 0)) ∧ wx.heap.size = w.heap.size + 1 ∧ Below w.heap.size w wx)
  case first =>
    go_wp2_with fail
    go_meet
    exact ⟨rfl, rfl, heap_alloc_new w _, by simp, (Below.refl _ _).alloc (Nat.le_refl _) _⟩
  case rest =>
    obtain ⟨rfl, rfl, hD, hz, hB⟩ := hcut
    have HD := hd hD
    have HB := hd hB
    have hcan := can_row (o := 0) (n := 32) hD (by simp [ucs_size])
    clear hD hB hz
    go_wp2_with (first | (go_at_call 38; refine (HA.out _ HB.out).mono ?_; rintro e w' ⟨rfl, rfl⟩) | (refine wpList_built rfl 35 _ rfl (ucs (List.replicate 32 0)) (by kernel_rfl) ?_))
    have hrow := putSub_row (w := wc) (c := ucs (List.replicate 32 0)) HD.out (by simp [ucs_size])
    refine bodyPost_ret (ret_row2 rfl (n := 32) (by kernel_rfl) _ _ w.heap.size 0 (ucs (List.replicate 32 0)) rfl _ rfl (sub_row hrow (by simp [ucs_size]))) rfl ⟨rfl, Below.putSub HB.out (Nat.le_refl _)⟩
theorem leaf_nil (w : World) (i : Int) :
    Calls Try.prog 29 #[.pointer none, .int .i64 i] w fun e w' => e = .returned (.tuple #[.agg (ucs (List.replicate 32 0)), .int .i64 1]) ∧ Below w.heap.size w w' :=
  leaf_no w _ i 1 (by decide) (fun w _ => asked_nil w i)

end Go.Proofs.Ytjfplkndngmgdaa

namespace Go.Proofs.Ytjfplkndngmgdaa.Sp
set_option maxRecDepth 20000

def oths (i n : Nat) : List (Nat × Bool) := oth n i n
def steps (xs : List (Nat × Bool)) : Nat := (xs.filter (·.2)).length
theorem steps_nil : steps [] = 0 := rfl
theorem steps_snoc (pre : List (Nat × Bool)) (x : Nat × Bool) : steps (pre ++ [x]) = steps pre + (if x.2 = true then 1 else 0) := by
  unfold steps
  rw [List.filter_append, List.length_append]
  cases h : x.2 <;> simp [List.filter, h]
theorem steps_cons (x : Nat × Bool) (xs : List (Nat × Bool)) : steps (x :: xs) = (if x.2 = true then 1 else 0) + steps xs := by
  unfold steps
  cases h : x.2 <;> simp [List.filter, h]; omega
theorem steps_le (xs : List (Nat × Bool)) : steps xs ≤ xs.length := List.length_filter_le _ _
theorem steps_prefix {pre xs : List (Nat × Bool)} (h : pre <+: xs) : steps pre ≤ steps xs := by
  obtain ⟨t, rfl⟩ := h
  unfold steps
  rw [List.filter_append, List.length_append]
  omega
/-- One step of the way up: what is there, what is left of the path. -/
def upStep (s : Dg × List Dg) (x : Nat × Bool) : Dg × List Dg :=
  if x.2 = true then ((if x.1 % 2 = 0 then bth (s.2.headD []) s.1 else bth s.1 (s.2.headD [])), s.2.tail) else s
def upAll (xs : List (Nat × Bool)) (d : Dg) (path : List Dg) : Dg × List Dg := xs.foldl upStep (d, path)
theorem upAll_nil (d : Dg) (p : List Dg) : upAll [] d p = (d, p) := rfl
theorem upAll_cons (x : Nat × Bool) (xs : List (Nat × Bool)) (d : Dg) (p : List Dg) : upAll (x :: xs) d p = upAll xs (upStep (d, p) x).1 (upStep (d, p) x).2 := rfl
theorem upAll_snoc (pre : List (Nat × Bool)) (x : Nat × Bool) (d : Dg) (p : List Dg) : upAll (pre ++ [x]) d p = upStep (upAll pre d p) x := by simp [upAll]
theorem upAll_snd : ∀ (xs : List (Nat × Bool)) (d : Dg) (p : List Dg), (upAll xs d p).2 = p.drop (steps xs)
  | [], d, p => by simp [upAll, steps]
  | x :: xs, d, p => by
    rw [upAll_cons, upAll_snd xs, steps_cons]
    cases h : x.2
    · simp [upStep, h]
    · simp [upStep, h, Nat.add_comm]
/-- A path. -/
def pathFrom (rs : List (List Dg)) : Nat → List (Nat × Bool) → List Dg
  | _, [] => []
  | k, x :: xs => (if x.2 = true then [((rs[k]?).getD []).getD x.1 []] else []) ++ pathFrom rs (k + 1) xs
theorem pathFrom_snoc (rs : List (List Dg)) : ∀ (pre : List (Nat × Bool)) (k : Nat) (x : Nat × Bool), pathFrom rs k (pre ++ [x]) = pathFrom rs k pre ++ (if x.2 = true then [((rs[k + pre.length]?).getD []).getD x.1 []] else [])
  | [], k, x => by simp [pathFrom]
  | p :: pre, k, x => by
    rw [List.cons_append, pathFrom, pathFrom_snoc rs pre (k + 1) x, pathFrom, List.append_assoc, List.length_cons, show k + 1 + pre.length = k + (pre.length + 1) by omega]
theorem pathFrom_length (rs : List (List Dg)) : ∀ (xs : List (Nat × Bool)) (k : Nat), (pathFrom rs k xs).length = steps xs
  | [], _ => rfl
  | x :: xs, k => by
    rw [pathFrom, List.length_append, pathFrom_length rs xs, steps_cons]
    split <;> rfl
def pathOf (ds : List Dg) (i : Nat) : List Dg := pathFrom (rows ds) 0 (oths i ds.length)
theorem rowsUp_len1 (f : Nat) (l : List Dg) (h : l.length ≤ 1) : rowsUp f l = [l] := by
  cases f with
  | zero => rfl
  | succ f => rw [rowsUp, if_pos h]
/-- Of each other place on the way up: its row, and whether it is in it. -/
theorem oth_at : ∀ (f i : Nat) (l : List Dg) (pre : List (Nat × Bool)) (x : Nat × Bool), l.length ≤ f → pre ++ [x] <+: oth f i l.length → ∃ r, (rowsUp f l)[pre.length]? = some r ∧ x.2 = decide (x.1 < r.length) ∧ pre.length + 1 < (rowsUp f l).length
  | 0, i, l, pre, x, hf, h => by
    obtain ⟨t, ht⟩ := h
    simp [oth] at ht
  | f + 1, i, l, pre, x, hf, h => by
    by_cases h1 : l.length ≤ 1
    · rw [oth_done _ _ _ h1] at h
      obtain ⟨t, ht⟩ := h
      simp at ht
    · rw [oth, if_neg h1] at h
      rw [rowsUp, if_neg h1]
      have hp : 0 < (rowsUp f (upw l)).length := by
        cases f with
        | zero => simp [rowsUp]
        | succ f => rw [rowsUp]; split <;> simp
      cases pre with
      | nil =>
        obtain ⟨t, ht⟩ := h
        simp at ht
        refine ⟨l, rfl, by rw [ht.1], by simp; omega⟩
      | cons p pre =>
        obtain ⟨t, ht⟩ := h
        simp at ht
        have hu := upw_length l
        obtain ⟨r, h2, h3, h4⟩ := oth_at f (i / 2) (upw l) pre x (by omega) ⟨t, by rw [hu]; simpa using ht.2⟩
        exact ⟨r, by simpa using h2, h3, by simp; omega⟩
theorem oth_len : ∀ (f i n : Nat), (oth f i n).length ≤ n
  | 0, _, _ => by simp [oth]
  | f + 1, i, n => by
    rw [oth]
    split
    · simp
    · have := oth_len f (i / 2) ((n + 1) / 2)
      simp; omega

end Go.Proofs.Ytjfplkndngmgdaa.Sp

namespace Go.Proofs.Ytjfplkndngmgdaa
set_option maxRecDepth 20000
open Go.RowKit Go.Shelf Sp

attribute [local go_sem ↓] ldD stD
attribute [local go_sem] run_ldA run_stA arrD loadX_at loadY_some storeX_at storeY_true ucs_size ones_ucs sha_length
attribute [local go_sem] Oper.semAt_some

theorem results_two {P : Program} {fn : Func} {p q : Tmp} (h : fn.results = #[.tmp p, .tmp q]) (tmps : Array Value) (w : World) : (results fn tmps).run P w = .ok (.tuple #[tmps.getD p undef, tmps.getD q undef]) w := by
  simp [results, h]
/-- The error of a place among so many. -/
def stE (i n : Int) : Int := if n < 1 ∨ 16 < n then 2 else if i < 0 ∨ n ≤ i then 4 else 0
def stN (i n : Int) : Nat := if stE i n = 0 then steps (oths i.toNat n.toNat) else 0
theorem stE_ok {i n : Nat} (hi : i < n) (hn : n ≤ 16) : stE i n = 0 := by unfold stE; rw [if_neg (by omega), if_neg (by omega)]
theorem stN_ok {i n : Nat} (hi : i < n) (hn : n ≤ 16) : stN i n = steps (oths i n) := by unfold stN; rw [if_pos (stE_ok hi hn)]; rfl

set_option maxHeartbeats 1000000 in
set_option maxRecDepth 100000 in
theorem steps_ok (w : World) (i n : Nat) (hi : i < n) (hn : n ≤ 16) :
    Calls Try.prog 13 #[.int .i64 (i : Int), .int .i64 (n : Int)] w fun e w' => e = .returned (.tuple #[.int .i64 (steps (oths i n) : Int), .int .i64 0]) ∧ Below w.heap.size w w' := by
  have h1 : ¬ ((n : Int) < 1) := by omega
  have h2 : ¬ ((16 : Int) < (n : Int)) := by omega
  have h3 : ¬ ((i : Int) < 0) := by omega
  have h4 : ¬ ((n : Int) ≤ (i : Int)) := by omega
  refine (callsIn_wide (n := 3)).1 ?_
  refine callsIn_of_wp_marks Try.func13 rfl trivial ?_ rfl
  refine wpIn_wide.2 ?_
  simp only [Try.ntmps13, List.size_toArray, List.length_cons, List.length_nil, Nat.reduceAdd, Nat.reduceSub, Array.replicate_succ, Array.replicate_zero, List.push_toArray, List.append_toArray, List.nil_append, List.cons_append]
  go_upto_block 1 with (go_at_call 30; refine (others_any _ _ _).mono ?_; rintro e w' ⟨rfl, rfl⟩)
  obtain ⟨B, hB⟩ : ∃ B, w.heap.size = B := ⟨_, rfl⟩
  obtain ⟨W4, hW4⟩ : ∃ W4, ((w.alloc (.cells #[.int .i64 0] 3)).alloc (.cells #[.int .i64 (i : Int)] 3)).alloc (.cells #[.int .i64 (n : Int)] 3) = W4 := ⟨_, rfl⟩
  have hz4 : W4.heap.size = B + 3 := by rw [← hW4, ← hB]; simp
  have hB4 : Below B w W4 := by rw [← hW4, ← hB]; exact (((Below.refl _ _).alloc (Nat.le_refl _) _).alloc (by simp) _).alloc (by simp; omega) _
  have hm4 : Boxed W4 B 3 (.int .i64 ((steps [] : Nat) : Int)) := by rw [← hW4, ← hB]; exact ((Boxed.new _ _ _).alloc _).alloc _
  have hi4 : Boxed W4 (B + 1) 3 (.int .i64 (i : Int)) := by
    rw [← hW4, ← hB]
    have := Boxed.new (w.alloc (.cells #[.int .i64 0] 3)) 3 (.int .i64 (i : Int))
    rw [World.size_alloc] at this
    exact this.alloc _
  have hn4 : Boxed W4 (B + 2) 3 (.int .i64 (n : Int)) := by
    rw [← hW4, ← hB]
    have := Boxed.new ((w.alloc (.cells #[.int .i64 0] 3)).alloc (.cells #[.int .i64 (i : Int)] 3)) 3 (.int .i64 (n : Int))
    rwa [World.size_alloc, World.size_alloc] at this
  rw [hW4, hB]
  have HB4 := hd hB4
  have HM4 := hd hm4
  have HBw := hd hB
  clear hW4 hB4 hm4 hB
  refine wp_block ?_
  refine (wpIn_wide (n := 3)).1 ?_
  refine wpIn_rangeT1 (F := Fence.wide) rfl (by omega) (gf := 43) (lb := #[.pointer (some ⟨B + 2, 0, none⟩), .pointer (some ⟨B + 1, 0, none⟩)]) rfl trivial (enters_of Try.func43 (by kernel_rfl) rfl)
    (oth_any (3 - 1) (B + 2) (B + 1) n i n (by omega) hn (Nat.le_refl _) (by omega) W4 hn4 hi4) (fun k e => by omega) (fun k e => by omega) (Below.refl _ _) (fun _ => rfl)
    (fun pre W => Boxed W B 3 (.int .i64 ((steps pre : Nat) : Int)) ∧ Chg (fun k => k = B ∨ k = B + 1 ∨ k = B + 2) W4 W)
    (fun _ _ _ => False) ?hI (fun _ => turns_false) ?h0 (fun t => t.setIfInBounds 8 (t.getD 28 undef)) ?assign ?body ?done ?stop
  case hI =>
    rintro pre X Y row ⟨h1, h3⟩ hg hr
    refine ⟨(hg.block _ h1.lt (fun e => ?_)).trans h1, h3.trans (Chg.grown hg) (fun j hj e => ?_)⟩
    · rcases hr _ e.symm with h | ⟨h4, _⟩
      · omega
      · omega
    · rcases hr _ e with h | ⟨h4, _⟩
      · exact .inr (by omega)
      · omega
  case h0 => exact ⟨HM4.out, Chg.refl _ _⟩
  case assign =>
    intro lr x W K hK
    simp at hK
    gi_wp2
    exact hK
  case body =>
    rintro lr pre x W hlr - ⟨hm, hch⟩ hp
    have hlen : steps pre ≤ 16 := by
      have h1 := steps_prefix (List.IsPrefix.trans (List.prefix_append pre [x]) hp)
      have h2 := steps_le (oth n i n)
      have h3 := oth_len n i n
      omega
    have hst := steps_snoc pre x
    obtain ⟨k, hk⟩ : ∃ k, steps pre = k := ⟨_, rfl⟩
    rw [hk] at hm hlen hst
    obtain ⟨o, b⟩ := x
    have hcm := hm.cell
    have hfm := hm.frozen
    have HM := hd hm
    have HC := hd hch
    have HST := hd hst
    clear hm hch hk hst
    simp
    cases b
    · gi_wp2
      refine ⟨KeepsFrom.refl _ _, Kept.refl _ _, ?_, HC.out⟩
      rw [HST.out]
      exact HM.out
    · gi_wp2
      have c2 : Chg (fun j => j = B) W (W.setCell ⟨B, 0, none⟩ (.int .i64 ((k : Int) + 1))) := (Chg.grown (grownBy_setCell' _ _ _)).mono (fun j _ e => by simpa using e.symm)
      refine ⟨c2.keeps _ (fun j ob h1 h2 h3 => ?_), c2.kept (fun j e => ⟨by have := HC.out.size; omega, by omega⟩), ?_, HC.out.trans c2 (fun j _ e => .inl e)⟩
      · subst h3
        rw [HM.out] at h1; cases h1; cases h2
      · rw [HST.out]
        exact HM.out.set _
  case done =>
    rintro D W hD ⟨hm, hch⟩ hK
    simp only [Exit.inBlock, Exit.then]
    have hcm := hm.cell
    have HC := hd hch
    have HK := hd hK
    clear hm hch hK
    go_wp2_with fail
    refine ⟨by simp, .inl ⟨_, _, rfl, run_takeDeferred HK.out, ?_⟩⟩
    refine ⟨_, results_two rfl _ _, rfl, ?_⟩
    have h2 : Below w.heap.size w W := (by rw [HBw.out]; exact HB4.out.trans (HC.out.toBelow (by omega) (fun k hk e => by omega)))
    exact h2.trans ((Chg.grown (grownBy_putObj' _ D (.deferred none))).toBelow (n := w.heap.size) h2.size (fun k hk e => by
      have e' : D = k := by simpa using e
      have := HBw.out
      omega))
  case stop =>
    rintro D c pre W _ _ h _
    exact h.elim

theorem steps_arg (w : World) (i n : Int) (h : n < 1 ∨ 16 < n) :
    Calls Try.prog 13 #[.int .i64 i, .int .i64 n] w fun e w' => e = .returned (.tuple #[.int .i64 0, .int .i64 2]) ∧ w = w' := by
  by_cases h1 : n < 1
  · go_enter Try.func13, Try.ntmps13
    go_wp2_with fail
    go_ret2
    exact ⟨rfl, rfl⟩
  · have h2 : 16 < n := by omega
    go_enter Try.func13, Try.ntmps13
    go_wp2_with fail
    go_ret2
    exact ⟨rfl, rfl⟩
theorem steps_range (w : World) (i n : Int) (h1 : ¬ n < 1) (h2 : ¬ 16 < n) (h : i < 0 ∨ n ≤ i) :
    Calls Try.prog 13 #[.int .i64 i, .int .i64 n] w fun e w' => e = .returned (.tuple #[.int .i64 0, .int .i64 4]) ∧ w = w' := by
  by_cases h3 : i < 0
  · go_enter Try.func13, Try.ntmps13
    go_wp2_with fail
    go_ret2
    exact ⟨rfl, rfl⟩
  · have h4 : n ≤ i := by omega
    go_enter Try.func13, Try.ntmps13
    go_wp2_with fail
    go_ret2
    exact ⟨rfl, rfl⟩
theorem stN_no {i n : Int} (h : stE i n ≠ 0) : stN i n = 0 := by unfold stN; rw [if_neg h]
theorem stE_cases (i n : Int) : (stE i n = 2 ∧ (n < 1 ∨ 16 < n)) ∨ (stE i n = 4 ∧ ¬ n < 1 ∧ ¬ 16 < n ∧ (i < 0 ∨ n ≤ i)) ∨ (stE i n = 0 ∧ ∃ a b : Nat, i = a ∧ n = b ∧ a < b ∧ b ≤ 16) := by
  unfold stE
  by_cases h1 : n < 1 ∨ 16 < n
  · rw [if_pos h1]; exact .inl ⟨rfl, h1⟩
  · rw [if_neg h1]
    by_cases h2 : i < 0 ∨ n ≤ i
    · rw [if_pos h2]; exact .inr (.inl ⟨rfl, by omega, by omega, h2⟩)
    · rw [if_neg h2]; exact .inr (.inr ⟨rfl, i.toNat, n.toNat, by omega, by omega, by omega, by omega⟩)
theorem steps_any (w : World) (i n : Int) :
    Calls Try.prog 13 #[.int .i64 i, .int .i64 n] w fun e w' => e = .returned (.tuple #[.int .i64 (stN i n : Int), .int .i64 (stE i n)]) ∧ Below w.heap.size w w' := by
  rcases stE_cases i n with ⟨h0, h⟩ | ⟨h0, h1, h2, h⟩ | ⟨h0, a, b, rfl, rfl, h1, h2⟩
  · refine (steps_arg w i n h).mono ?_
    rintro e w' ⟨rfl, rfl⟩
    rw [h0, stN_no (by rw [h0]; decide)]
    exact ⟨rfl, Below.refl _ _⟩
  · refine (steps_range w i n h1 h2 h).mono ?_
    rintro e w' ⟨rfl, rfl⟩
    rw [h0, stN_no (by rw [h0]; decide)]
    exact ⟨rfl, Below.refl _ _⟩
  · refine (steps_ok w a b h1 h2).mono ?_
    rintro e w' ⟨rfl, hb⟩
    rw [h0, stN_ok h1 h2]
    exact ⟨rfl, hb⟩

end Go.Proofs.Ytjfplkndngmgdaa

namespace Go.Proofs.Ytjfplkndngmgdaa
set_option maxRecDepth 20000
open Go.RowKit Go.Shelf Sp

theorem sib_odd {i : Nat} (h : i % 2 = 1) : sib i = i - 1 := by unfold sib; rw [if_neg (by omega)]
theorem sib_even {i : Nat} (h : i % 2 = 0) : sib i = i + 1 := by unfold sib; rw [if_pos h]
theorem oth_more (f i n : Nat) (h1 : 1 < n) (hf : n ≤ f) : ∃ g, f = g + 1 ∧ (n + 1) / 2 ≤ g ∧ steps (oth f i n) = (if sib i < n then 1 else 0) + steps (oth g (i / 2) ((n + 1) / 2)) := by
  obtain ⟨g, rfl, hg, h⟩ := oth_step f i n h1 hf
  exact ⟨g, rfl, hg, by rw [h, steps_cons]; simp⟩

set_option maxHeartbeats 1000000 in
theorem rsteps_ok (w : World) (i n : Nat) (hi : i < n) (hn : n ≤ 16) :
    Calls Try.prog 14 #[.int .i64 (i : Int), .int .i64 (n : Int)] w fun e w' => e = .returned (.tuple #[.int .i64 (steps (oths i n) : Int), .int .i64 0]) ∧ w = w' := by
  have h1 : ¬ ((n : Int) < 1) := by omega
  have h2 : ¬ ((16 : Int) < (n : Int)) := by omega
  have h3 : ¬ ((i : Int) < 0) := by omega
  have h4 : ¬ ((n : Int) ≤ (i : Int)) := by omega
  have hs16 : steps (oths i n) ≤ 16 := Nat.le_trans (steps_le _) (Nat.le_trans (oth_len n i n) hn)
  obtain ⟨S, hS⟩ : ∃ S, steps (oths i n) = S := ⟨_, rfl⟩
  have HS := hd hS
  rw [hS] at hs16 ⊢
  clear hS
  go_enter Try.func14, Try.ntmps14
  go_wp2_with fail
  go_loop [0, 1, 6] (fun a b c => ∃ f j k m : Nat, a = .int .i64 (j : Int) ∧ b = .int .i64 (k : Int) ∧ c = .int .i64 (m : Int) ∧ j < k ∧ k ≤ 16 ∧ k ≤ f ∧ m + steps (oth f j k) = S) (fun _ b _ => (intOf b).toNat)
  case atStart => exact ⟨n, i, n, 0, rfl, rfl, rfl, hi, hn, Nat.le_refl _, by rw [Nat.zero_add]; exact HS.out⟩
  case round =>
    obtain ⟨f, j, k, m, rfl, rfl, rfl, hj, hk, hf, hm⟩ := hrel
    clear h1 h2 h3 h4 hi hn
    by_cases hlt : 1 < k
    · obtain ⟨g, rfl, hg, hst⟩ := oth_more f j k hlt hf
      have hltI : (1 : Int) < (k : Int) := by omega
      by_cases ho : j % 2 = 1
      · have hoI : ((j : Int) % 2 == 1) = true := by simp; omega
        rw [if_pos (by rw [sib_odd ho]; omega)] at hst
        have HST := hd hst
        have HM := hd hm
        have hm16 : m ≤ 16 := by omega
        clear hst hm ho
        go_wp2_with fail
        go_round
        case rel => exact ⟨g, j / 2, (k + 1) / 2, m + 1, by go_num, by go_num, by go_num, by omega, by omega, hg, by have := HST.out; have := HM.out; omega⟩
        case measure => simp [intOf]; omega
      · have hoI : ((j : Int) % 2 == 1) = false := by simp; omega
        by_cases hm1 : j + 1 < k
        · have hm1I : (j : Int) + 1 < (k : Int) := by omega
          rw [if_pos (by rw [sib_even (by omega)]; omega)] at hst
          have HST := hd hst
          have HM := hd hm
          have hm16 : m ≤ 16 := by omega
          clear hst hm ho
          go_wp2_with fail
          go_round
          case rel => exact ⟨g, j / 2, (k + 1) / 2, m + 1, by go_num, by go_num, by go_num, by omega, by omega, hg, by have := HST.out; have := HM.out; omega⟩
          case measure => simp [intOf]; omega
        · have hm1I : ¬ (j : Int) + 1 < (k : Int) := by omega
          rw [if_neg (by rw [sib_even (by omega)]; omega)] at hst
          have HST := hd hst
          have HM := hd hm
          have hm16 : m ≤ 16 := by omega
          clear hst hm ho
          go_wp2_with fail
          go_round
          case rel => exact ⟨g, j / 2, (k + 1) / 2, m, by go_num, by go_num, by go_num, by omega, by omega, hg, by have := HST.out; have := HM.out; omega⟩
          case measure => simp [intOf]; omega
    · have hltI : ¬ (1 : Int) < (k : Int) := by omega
      have hS : m = S := by
        rw [oth_done f j k (by omega)] at hm
        simpa [steps] using hm
      clear hm HS
      subst hS
      go_wp2_with fail
      go_ret2
      exact ⟨rfl, rfl⟩
theorem rsteps_arg (w : World) (i n : Int) (h : n < 1 ∨ 16 < n) :
    Calls Try.prog 14 #[.int .i64 i, .int .i64 n] w fun e w' => e = .returned (.tuple #[.int .i64 0, .int .i64 2]) ∧ w = w' := by
  by_cases h1 : n < 1
  · go_enter Try.func14, Try.ntmps14
    go_wp2_with fail
    go_ret2
    exact ⟨rfl, rfl⟩
  · have h2 : 16 < n := by omega
    go_enter Try.func14, Try.ntmps14
    go_wp2_with fail
    go_ret2
    exact ⟨rfl, rfl⟩
theorem rsteps_range (w : World) (i n : Int) (h1 : ¬ n < 1) (h2 : ¬ 16 < n) (h : i < 0 ∨ n ≤ i) :
    Calls Try.prog 14 #[.int .i64 i, .int .i64 n] w fun e w' => e = .returned (.tuple #[.int .i64 0, .int .i64 4]) ∧ w = w' := by
  by_cases h3 : i < 0
  · go_enter Try.func14, Try.ntmps14
    go_wp2_with fail
    go_ret2
    exact ⟨rfl, rfl⟩
  · have h4 : n ≤ i := by omega
    go_enter Try.func14, Try.ntmps14
    go_wp2_with fail
    go_ret2
    exact ⟨rfl, rfl⟩
theorem rsteps_any (w : World) (i n : Int) :
    Calls Try.prog 14 #[.int .i64 i, .int .i64 n] w fun e w' => e = .returned (.tuple #[.int .i64 (stN i n : Int), .int .i64 (stE i n)]) ∧ w = w' := by
  rcases stE_cases i n with ⟨h0, h⟩ | ⟨h0, h1, h2, h⟩ | ⟨h0, a, b, rfl, rfl, h1, h2⟩
  · refine (rsteps_arg w i n h).mono ?_
    rintro e w' ⟨rfl, rfl⟩
    rw [h0, stN_no (by rw [h0]; decide)]
    exact ⟨rfl, rfl⟩
  · refine (rsteps_range w i n h1 h2 h).mono ?_
    rintro e w' ⟨rfl, rfl⟩
    rw [h0, stN_no (by rw [h0]; decide)]
    exact ⟨rfl, rfl⟩
  · refine (rsteps_ok w a b h1 h2).mono ?_
    rintro e w' ⟨rfl, rfl⟩
    rw [h0, stN_ok h1 h2]
    exact ⟨rfl, rfl⟩

end Go.Proofs.Ytjfplkndngmgdaa

namespace Go.Proofs.Ytjfplkndngmgdaa
set_option maxRecDepth 20000
open Go.RowKit Go.Shelf Sp

attribute [local go_sem ↓] ldD stD
attribute [local go_sem] run_ldA run_stA arrD loadX_at loadY_some storeX_at storeY_true ucs_size ones_ucs sha_length
attribute [local go_sem] Oper.semAt_some fold_fill

theorem getD_of {ds : List Dg} {i : Nat} {d : Dg} (h : ds[i]? = some d) : ds.getD i [] = d := by rw [List.getD_eq_getElem?_getD, h]; rfl
theorem rows32 : ∀ (f : Nat) (l : List Dg), All32 l → ∀ r ∈ rowsUp f l, All32 r
  | 0, l, h, r, hr => by obtain rfl := List.mem_singleton.1 hr; exact h
  | f + 1, l, h, r, hr => by
    rw [rowsUp] at hr
    split at hr
    · obtain rfl := List.mem_singleton.1 hr; exact h
    · rcases List.mem_cons.1 hr with rfl | hr
      · exact h
      · exact rows32 f (upw l) (up32 h) r hr
theorem oths_at {ds : List Dg} {i : Nat} {pre : List (Nat × Bool)} {x : Nat × Bool} (h : pre ++ [x] <+: oths i ds.length) : ∃ r, (rows ds)[pre.length]? = some r ∧ x.2 = decide (x.1 < r.length) ∧ pre.length + 1 < (rows ds).length := by
  have h1 := oth_at ds.length i (ds.map mrk) pre x (by simp) (by rw [List.length_map]; exact h)
  exact h1
theorem path32 {ds : List Dg} {i : Nat} : ∀ (k : Nat) (pre : List (Nat × Bool)), pre.length = k → pre <+: oths i ds.length → All32 (pathFrom (rows ds) 0 pre)
  | 0, pre, hk, _ => by
    obtain rfl := List.eq_nil_of_length_eq_zero hk
    exact All32.nil
  | k + 1, pre, hk, h => by
    rcases List.eq_nil_or_concat pre with rfl | ⟨pre, x, rfl⟩
    · cases hk
    rw [List.concat_eq_append] at h hk ⊢
    rw [pathFrom_snoc]
    obtain ⟨r, h1, h2, _⟩ := oths_at h
    have ih' := path32 k pre (by simpa using hk) (List.IsPrefix.trans (List.prefix_append _ _) h)
    cases hx : x.2 with
    | false => simpa using ih'
    | true =>
      rw [hx] at h2
      have hlt : x.1 < r.length := by simpa using h2.symm
      have hd : r[x.1]? = some r[x.1] := List.getElem?_eq_getElem hlt
      have h3 : ((rows ds)[0 + pre.length]?).getD [] = r := by rw [Nat.zero_add, h1]; rfl
      rw [if_pos rfl, h3, getD_of hd]
      exact ih'.snoc ((rows32 _ _ (mrk32 ds) r (List.mem_of_getElem? h1)).get hd)

theorem dcs_append (a b : List Dg) : dcs (a ++ b) = dcs a ++ dcs b := by simp [dcs, bcs]
theorem alloc_box {W W' : World} {v : Value} {t : TypeId} (h : W.alloc (.cells #[v] t) = W') : W'.heap.size = W.heap.size + 1 ∧ Boxed W' W.heap.size t v ∧ Below W.heap.size W W' := by
  subst h
  exact ⟨by simp, Boxed.new _ _ _, (Below.refl _ _).alloc (Nat.le_refl _) _⟩

set_option maxHeartbeats 2000000 in
set_option maxRecDepth 100000 in
theorem tpath_no (w : World) (p : Value) (i : Int) (k : Int) (hk : k ≠ 0) (hp : ∃ A, p = .pointer A) (ha : ∀ W, Below w.heap.size w W → Calls Try.prog 38 #[p, .int .i64 i] W fun e w' => e = .returned (.int .i64 k) ∧ W = w') :
    Calls Try.prog 19 #[p, .int .i64 i] w fun e w' => e = .returned (.tuple #[.slice none 0 0, .int .i64 k]) ∧ Below w.heap.size w w' := by
  have hk1 : (k == 0) = false := by simpa using hk
  have hk2 : (k != 0) = true := by simpa using hk
  obtain ⟨A, rfl⟩ := hp
  have HA := hd ha
  clear ha
  go_enter Try.func19, Try.ntmps19
  go_wp2_with (go_at_call 38; refine (HA.out _ ((Below.refl _ _).alloc (Nat.le_refl _) _)).mono ?_; rintro e w' ⟨rfl, rfl⟩)
  go_ret2
  exact ⟨rfl, (Below.refl _ _).alloc (Nat.le_refl _) _⟩
theorem tpath_nil (w : World) (i : Int) :
    Calls Try.prog 19 #[.pointer none, .int .i64 i] w fun e w' => e = .returned (.tuple #[.slice none 0 0, .int .i64 1]) ∧ Below w.heap.size w w' :=
  tpath_no w _ i 1 (by decide) ⟨_, rfl⟩ (fun w _ => asked_nil w i)

set_option maxHeartbeats 2000000 in
set_option maxRecDepth 100000 in
theorem tpath_ok (w : World) (B0 T g : Nat) (ds : List Dg) (h : TreeAt w B0 T g ds) (i : Nat) (hi : i < ds.length) (h16 : ds.length ≤ 16) :
    Calls Try.prog 19 #[.pointer (some ⟨g, 0, none⟩), .int .i64 (i : Int)] w fun e w' => ∃ v, e = .returned (.tuple #[v, .int .i64 0]) ∧ w'.ownsRow w.heap.size 35 32 v (steps (oths i ds.length)) (dcs (pathOf ds i)) ∧ Below w.heap.size w w' := by
  have h0 : 0 < ds.length := by omega
  obtain ⟨b, o, c, rb, rc, h1, h2, h3, h3', h4⟩ := h.open h0
  obtain ⟨n, hn⟩ : ∃ n, ds.length = n := ⟨_, rfl⟩
  rw [hn] at h0 h1 hi h16 ⊢
  have hg : g < w.heap.size := blk_lt h1
  have HG := hd h1
  have HRW := hd h4
  have hrl := rows_length ds
  obtain ⟨R, hR⟩ : ∃ R, (rows ds).length = R := ⟨_, rfl⟩
  rw [hn, hR] at hrl
  rw [hR] at h1 h3' HG
  have HN := hd hn
  have HR := hd hR
  have hc0 : w.cell? ⟨g, 0, none⟩ = some (.slice (some ⟨b, o, none⟩) n c) := by simp [World.cell?, h1]
  have HC0 := hd hc0
  clear h h1 h2 h4 hn hR hc0
  have HASK := hd (fun (W : World) (hW : W.heap[g]? = w.heap[g]?) => show Calls Try.prog 38 #[.pointer (some ⟨g, 0, none⟩), .int .i64 (i : Int)] W fun e w' => e = .returned (.int .i64 0) ∧ W = w' from by
    have h5 := asked_tree W g n _ _ _ (hW.trans HG.out) h0 (i : Int)
    rwa [if_neg (by omega)] at h5)
  refine (callsIn_wide (n := 3)).1 ?_
  refine callsIn_of_wp_marks Try.func19 rfl trivial ?_ rfl
  refine wpIn_wide.2 ?_
  simp only [Try.ntmps19, List.size_toArray, List.length_cons, List.length_nil, Nat.reduceAdd, Nat.reduceSub, Array.replicate_succ, Array.replicate_zero, List.push_toArray, List.append_toArray, List.nil_append, List.cons_append]
  obtain ⟨W1, hW1⟩ : ∃ W1, w.alloc (.cells #[.pointer (some ⟨g, 0, none⟩)] 31) = W1 := ⟨_, rfl⟩
  have hz1 : W1.heap.size = w.heap.size + 1 := by rw [← hW1]; simp
  have hB1 : Below w.heap.size w W1 := by rw [← hW1]; exact (Below.refl _ _).alloc (Nat.le_refl _) _
  have ht1 : Boxed W1 w.heap.size 31 (.pointer (some ⟨g, 0, none⟩)) := by rw [← hW1]; exact Boxed.new _ _ _
  have hct1 := ht1.cell
  have hcg1 : W1.cell? ⟨g, 0, none⟩ = some (.slice (some ⟨b, o, none⟩) n c) := (hB1.cell (p := ⟨g, 0, none⟩) hg).trans HC0.out
  have HA1 := hd (HASK.out W1 (hB1.block g hg))
  have HT1 := hd ht1
  have HB1 := hd hB1
  have hgl : g < w.heap.size + 1 := by omega
  clear hB1 ht1
  go_upto_block 0 with (first
    | (go_at_call 38; refine HA1.out.mono ?_; rintro e w' ⟨rfl, rfl⟩)
    | (go_at_call 30; refine (others_any _ _ _).mono ?_; rintro e w' ⟨rfl, rfl⟩))
  obtain ⟨W2, hW2⟩ : ∃ W2, W1.alloc (.cells #[.slice none 0 0] 30) = W2 := ⟨_, rfl⟩
  obtain ⟨W3, hW3⟩ : ∃ W3, W2.alloc (.cells #[.int .i64 0] 3) = W3 := ⟨_, rfl⟩
  obtain ⟨W4, hW4⟩ : ∃ W4, W3.alloc (.cells #[.int .i64 (i : Int)] 3) = W4 := ⟨_, rfl⟩
  obtain ⟨W5, hW5⟩ : ∃ W5, W4.alloc (.cells #[.int .i64 (n : Int)] 3) = W5 := ⟨_, rfl⟩
  obtain ⟨z2, b2, l2⟩ := alloc_box hW2
  obtain ⟨z3, b3, l3⟩ := alloc_box hW3
  obtain ⟨z4, b4, l4⟩ := alloc_box hW4
  obtain ⟨z5, b5, l5⟩ := alloc_box hW5
  rw [hW2, hW3, hW4, hW5]
  have hz5 : W5.heap.size = w.heap.size + 5 := by omega
  have e2 : W2.heap.size = w.heap.size + 2 := by omega
  have e3 : W3.heap.size = w.heap.size + 3 := by omega
  have e4 : W4.heap.size = w.heap.size + 4 := by omega
  have l35 : Below W3.heap.size W3 W5 := l4.trans (l5.mono (by omega))
  have l25 : Below W2.heap.size W2 W5 := l3.trans (l35.mono (by omega))
  have l15 : Below W1.heap.size W1 W5 := l2.trans (l25.mono (by omega))
  have hB5 : Below w.heap.size w W5 := HB1.out.trans (l15.mono (by omega))
  have ht5 : Boxed W5 w.heap.size 31 (.pointer (some ⟨g, 0, none⟩)) := (l15.block _ (by omega)).trans HT1.out
  have ho5 : Boxed W5 (w.heap.size + 1) 30 (.slice none 0 0) := by rw [← hz1]; exact (l25.block _ (by omega)).trans b2
  have hk5 : Boxed W5 (w.heap.size + 2) 3 (.int .i64 0) := by rw [← e2]; exact (l35.block _ (by omega)).trans b3
  have hi5 : Boxed W5 (w.heap.size + 3) 3 (.int .i64 (i : Int)) := by rw [← e3]; exact (l5.block _ (by omega)).trans b4
  have hn5 : Boxed W5 (w.heap.size + 4) 3 (.int .i64 (n : Int)) := by rw [← e4]; exact b5
  have HB5 := hd hB5
  have HT5 := hd ht5
  have HO5 := hd ho5
  have HK5 := hd hk5
  clear hW1 hW2 hW3 hW4 hW5 z2 b2 l2 z3 b3 l3 z4 b4 l4 z5 b5 l5 e2 e3 e4 l35 l25 l15 hB5 ht5 ho5 hk5 hct1 hcg1 HA1 HT1 HB1 hz1
  refine wp_block ?_
  refine (wpIn_wide (n := 3)).1 ?_
  refine wpIn_rangeT1 (F := Fence.wide) rfl (by omega) (gf := 43) (lb := #[.pointer (some ⟨w.heap.size + 4, 0, none⟩), .pointer (some ⟨w.heap.size + 3, 0, none⟩)]) rfl trivial (enters_of Try.func43 (by kernel_rfl) rfl)
    (oth_any (3 - 1) (w.heap.size + 4) (w.heap.size + 3) n i n (by omega) h16 (Nat.le_refl _) (by omega) W5 hn5 hi5) (fun k e => by omega) (fun k e => by omega) (Below.refl _ _) (fun _ => rfl)
    (fun pre W => ∃ v, Boxed W (w.heap.size + 1) 30 v ∧ Boxed W (w.heap.size + 2) 3 (.int .i64 ((pre.length : Nat) : Int)) ∧ W.ownsRow (w.heap.size + 5) 35 32 v (steps pre) (dcs (pathFrom (rows ds) 0 pre)) ∧ Chg (fun k => w.heap.size < k ∧ k < w.heap.size + 5) W5 W)
    (fun _ _ _ => False) ?hI (fun _ => turns_false) ?h0 (fun t => (t.setIfInBounds 9 (t.getD 24 undef)).setIfInBounds 10 (t.getD 25 undef)) ?assign ?body ?done ?stop
  case hI =>
    rintro pre X Y row ⟨v, h1, h2, h3, h4⟩ hg hr
    have far : ∀ k t u, Boxed X k t u → k = w.heap.size + 1 ∨ k = w.heap.size + 2 → row ≠ some k := fun k t u hb hk e => by
      rcases hr _ e with h | ⟨_, o, h5, h6⟩
      · omega
      · rw [show X.heap[k]? = _ from hb] at h5; cases h5; cases h6
    refine ⟨v, (hg.block _ h1.lt (fun e => far _ _ _ h1 (.inl rfl) e.symm)).trans h1, (hg.block _ h2.lt (fun e => far _ _ _ h2 (.inr rfl) e.symm)).trans h2, own_keep h3 (fun q hq hlt hv => hg.block q hlt (fun e => ?_)), h4.trans (Chg.grown hg) (fun j hj e => ?_)⟩
    · rcases hr _ e.symm with h | ⟨_, o, h5, h6⟩
      · omega
      · obtain ⟨c', t', fr', h7⟩ := own_isCells h3 hv
        rw [h5] at h7; cases h7; cases h6
    · rcases hr _ e with h | ⟨h5, _⟩
      · omega
      · omega
  case h0 => exact ⟨.slice none 0 0, HO5.out, HK5.out, World.ownsRow_nil _ _ _ _, Chg.refl _ _⟩
  case assign =>
    intro lr x W K hK
    simp at hK
    gi_wp2
    exact hK
  case body =>
    rintro lr pre x W hlr - ⟨v, hv, hkb, hown, hch⟩ hp
    rw [← HN.out] at hp
    obtain ⟨r, hr1, hr2, hr3⟩ := oths_at hp
    have hps := path32 _ pre rfl (List.IsPrefix.trans (List.prefix_append pre [x]) hp)
    have hsl : steps pre ≤ 16 := by
      have h1 := steps_prefix (List.IsPrefix.trans (List.prefix_append pre [x]) hp)
      have h2 := steps_le (oth ds.length i ds.length)
      have h3 := oth_len ds.length i ds.length
      have h4 := HN.out
      exact Nat.le_trans h1 (Nat.le_trans h2 (by omega))
    have hss := steps_snoc pre x
    have hpp := pathFrom_snoc (rows ds) pre 0 x
    have hpl : (pre ++ [x]).length = pre.length + 1 := by simp
    have hR := HR.out
    obtain ⟨k, hk⟩ : ∃ k, pre.length = k := ⟨_, rfl⟩
    obtain ⟨s, hs⟩ : ∃ s, steps pre = s := ⟨_, rfl⟩
    obtain ⟨P, hP⟩ : ∃ P, pathFrom (rows ds) 0 pre = P := ⟨_, rfl⟩
    rw [hk] at hkb hpl hr1 hr3
    rw [Nat.zero_add, hk, hr1] at hpp
    rw [hs] at hss hown hsl
    rw [hP] at hpp hown hps
    obtain ⟨o, bo⟩ := x
    simp only [Option.getD_some] at hpp
    have hkR : (k : Int) < (R : Int) := by omega
    have hk0 : (0 : Int) ≤ (k : Int) := by omega
    have hk16 : k ≤ 17 := by omega
    have hsz := hch.size
    have hVB : ∀ j, v.ownBlock = some j → w.heap.size + 5 ≤ j ∧ j < W.heap.size := fun j hj => hown.lt j hj
    have HSS := hd hss
    have HPP := hd hpp
    have HPL := hd hpl
    have HOWN := hd hown
    have HCH := hd hch
    have HV := hd hv
    have HKB := hd hkb
    have HVB := hd hVB
    have hck := hkb.cell
    have hfk := hkb.frozen
    have hltB2 : w.heap.size + 2 < W.heap.size := by omega
    cases bo
    · clear hss hpp hpl hown hch hv hkb hVB hr1 hr2 hr3 hps hR hk hs hP hp
      simp
      gi_wp2
      have c2 : Chg (fun j => j = w.heap.size + 2) W (W.setCell ⟨w.heap.size + 2, 0, none⟩ (.int .i64 ((k : Int) + 1))) := (Chg.grown (grownBy_setCell' _ _ _)).mono (fun j _ e => by simpa using e.symm)
      refine ⟨c2.keeps _ (fun j ob h1 h2 h3 => ?_), c2.kept (fun j e => ⟨by omega, by omega⟩), v, ?_, ?_, ?_, HCH.out.trans c2 (fun j _ e => by omega)⟩
      · subst h3
        rw [show W.heap[w.heap.size + 2]? = _ from HKB.out] at h1; cases h1; cases h2
      · exact (c2.block _ HV.out.lt (by omega)).trans HV.out
      · rw [HPL.out]; exact HKB.out.set _
      · rw [HSS.out, HPP.out]
        simp only [Bool.false_eq_true, if_false, Nat.add_zero, List.append_nil]
        exact own_keep HOWN.out fun q hq _ _ => Below.heap_setCell _ _ _ _ (by show q ≠ w.heap.size + 2; omega)
    · have hor : o < r.length := by simpa using hr2.symm
      have hd0 : r[o]? = some r[o] := List.getElem?_eq_getElem hor
      obtain ⟨d, hd⟩ : ∃ d, r[o] = d := ⟨_, rfl⟩
      rw [hd] at hd0
      obtain ⟨b', o', c', hcr0, hsd⟩ := HRW.out k r hr1
      have hsub0 := hsd.sub o hd0
      have h32 := hsd.all.get hd0
      have hb' : b' < w.heap.size := by obtain ⟨_, _, e, hb⟩ := hsd.at (by omega); cases e; exact hb
      obtain ⟨m, hm⟩ : ∃ m, r.length = m := ⟨_, rfl⟩
      rw [hm] at hcr0 hor
      have hbl : ∀ j, j < w.heap.size → W.heap[j]? = w.heap[j]? := fun j hj => (HCH.out.block j (by omega) (by omega)).trans (HB5.out.block j hj)
      have cell : ∀ j q, j < w.heap.size → W.cell? ⟨j, q, none⟩ = w.cell? ⟨j, q, none⟩ := fun j q hj => by simp [World.cell?, hbl j hj]
      have hsub : sub? W b' (o' + o * 32) 32 = some (ucs d) := (sub_of_heap (hbl b' hb')).trans hsub0
      have hcr := (cell rb k h3).trans hcr0
      have hcg : W.cell? ⟨g, 1, none⟩ = some (.slice (some ⟨rb, 0, none⟩) R rc) := (cell g 1 hg).trans (by simp [World.cell?, HG.out])
      have hct := (show Boxed W w.heap.size 31 (.pointer (some ⟨g, 0, none⟩)) from (HCH.out.block _ (by omega) (by omega)).trans HT5.out).cell
      have hco := hv.cell
      have hoI : (o : Int) < (m : Int) := by omega
      have ho0 : (0 : Int) ≤ (o : Int) := by omega
      have hltB : w.heap.size < W.heap.size := by omega
      have hltB1 : w.heap.size + 1 < W.heap.size := by omega
      have hgW : g < W.heap.size := by omega
      have hrW : rb < W.heap.size := by omega
      have hbW : b' < W.heap.size := by omega
      rw [getD_of hd0] at hpp
      have HPP := Go.Proofs.Ytjfplkndngmgdaa.hd hpp
      clear hss hpp hpl hown hch hv hkb hVB hr1 hr2 hr3 hps hR hk hs hP hp hd0 hd hcr0 hsd hsub0 hb' hm hbl cell HG
      simp
      gi_wp2
      refine wpIn_region_inv lr 1 [27, 28, 29, 30, 31, 32, 33, 34, 35, 36, 37, 38, 39] (fun done σ w' => (done 12 = false → Below W.heap.size W w') ∧
        (done 0 = true → σ 27 = v) ∧
        (done 1 = true → σ 28 = .pointer (some ⟨g, 0, none⟩)) ∧
        (done 2 = true → σ 29 = .pointer (some ⟨g, 0, none⟩)) ∧
        (done 3 = true → σ 30 = .pointer (some ⟨g, 1, none⟩)) ∧
        (done 4 = true → σ 31 = .slice (some ⟨rb, 0, none⟩) R rc) ∧
        (done 5 = true → σ 32 = .int .i64 (k : Int)) ∧
        (done 6 = true → σ 33 = .pointer (some ⟨rb, k, none⟩)) ∧
        (done 7 = true → σ 34 = .slice (some ⟨b', o', none⟩) m c') ∧
        (done 8 = true → σ 35 = .int .i64 (o : Int)) ∧
        (done 9 = true → σ 36 = .pointer (some ⟨b', o' + o * 32, none⟩)) ∧
        (done 10 = true → σ 37 = .agg (ucs d)) ∧
        (done 11 = true → done 12 = false → ∃ g', σ 38 = .slice (some ⟨g', 0, none⟩) 1 1 ∧ Cl w' (some ⟨g', 0, none⟩) (dcs [d])) ∧
        (done 12 = true → done 13 = false → ∃ w5, Below W.heap.size W w5 ∧ w5.grownBy w' v.ownBlock ∧ w'.ownsRow (w.heap.size + 5) 35 32 (σ 39) (s + 1) (dcs (P ++ [d]))) ∧
        (done 13 = true → PutD (w.heap.size + 5) (w.heap.size + 1) v.ownBlock W w' (s + 1) (P ++ [d]))) (by kernel_rfl) (by kernel_rfl) (by kernel_rfl) ?_ ?_ ?_
      · simp
        exact Below.drew (Below.refl _ _)
      · refine ⟨fun done σ w' a hi hA hC ha hσ ⟨hR, r0, r1, r2, r3, r4, r5, r6, r7, r8, r9, r10, r11, r12, r13⟩ => ?_, ?_⟩
        · have e0 := hσ 7 (by simp)
          simp only [List.getElem?_toArray] at e0
          have d12 := hC.at 0 12 _ rfl hi rfl
          have e9 := ((hR d12).cell (p := ⟨w.heap.size + 1, 0, none⟩) hltB1).trans hco
          refine stepG_plain rfl fun K hK => ?_
          go_simp
          refine hK _ _ ?_
          simp [mk, up]
          exact ⟨hR, r1, r2, r3, r4, r5, r6, r7, r8, r9, r10, r11, r12, r13⟩
        refine ⟨fun done σ w' a hi hA hC ha hσ ⟨hR, r0, r1, r2, r3, r4, r5, r6, r7, r8, r9, r10, r11, r12, r13⟩ => ?_, ?_⟩
        · have e0 := hσ 2 (by simp)
          simp only [List.getElem?_toArray] at e0
          have d2 := hC.at 1 2 _ rfl hi rfl
          have d3 := hC.at 2 3 _ rfl d2 rfl
          have d4 := hC.at 3 4 _ rfl d3 rfl
          have d6 := hC.at 4 6 _ rfl d4 rfl
          have d7 := hC.at 6 7 _ rfl d6 rfl
          have d9 := hC.at 7 9 _ rfl d7 rfl
          have d10 := hC.at 9 10 _ rfl d9 rfl
          have d11 := hC.at 10 11 _ rfl d10 rfl
          have d12 := hC.at 11 12 _ rfl d11 rfl
          have e9 := ((hR d12).cell (p := ⟨w.heap.size, 0, none⟩) hltB).trans hct
          refine stepG_plain rfl fun K hK => ?_
          go_simp
          refine hK _ _ ?_
          simp [mk, up]
          exact ⟨hR, r0, r2, r3, r4, r5, r6, r7, r8, r9, r10, r11, r12, r13⟩
        refine ⟨fun done σ w' a hi hA hC ha hσ ⟨hR, r0, r1, r2, r3, r4, r5, r6, r7, r8, r9, r10, r11, r12, r13⟩ => ?_, ?_⟩
        · simp [After, Region.binds] at hA
          have e0 := r1 (by first | exact hA | exact hA.1 | exact hA.2 | exact hA.2.1 | exact hA.2.2 | exact hA.2.2.1 | exact hA.2.2.2 | exact hA.2.2.2.1 | exact hA.2.2.2.2 | exact hA.2.2.2.2.1 | exact hA.2.2.2.2.2 | exact hA.2.2.2.2.2.1 | exact hA.2.2.2.2.2.2 | exact hA.2.2.2.2.2.2.1 | exact hA.2.2.2.2.2.2.2 | exact hA.2.2.2.2.2.2.2.1 | exact hA.2.2.2.2.2.2.2.2 | exact hA.2.2.2.2.2.2.2.2.1 | exact hA.2.2.2.2.2.2.2.2.2)
          refine stepG_plain rfl fun K hK => ?_
          go_simp
          refine hK _ _ ?_
          simp [mk, up]
          exact ⟨hR, r0, r1, r3, r4, r5, r6, r7, r8, r9, r10, r11, r12, r13⟩
        refine ⟨fun done σ w' a hi hA hC ha hσ ⟨hR, r0, r1, r2, r3, r4, r5, r6, r7, r8, r9, r10, r11, r12, r13⟩ => ?_, ?_⟩
        · simp [After, Region.binds] at hA
          have e0 := r2 (by first | exact hA | exact hA.1 | exact hA.2 | exact hA.2.1 | exact hA.2.2 | exact hA.2.2.1 | exact hA.2.2.2 | exact hA.2.2.2.1 | exact hA.2.2.2.2 | exact hA.2.2.2.2.1 | exact hA.2.2.2.2.2 | exact hA.2.2.2.2.2.1 | exact hA.2.2.2.2.2.2 | exact hA.2.2.2.2.2.2.1 | exact hA.2.2.2.2.2.2.2 | exact hA.2.2.2.2.2.2.2.1 | exact hA.2.2.2.2.2.2.2.2 | exact hA.2.2.2.2.2.2.2.2.1 | exact hA.2.2.2.2.2.2.2.2.2)
          refine stepG_plain rfl fun K hK => ?_
          go_simp
          refine hK _ _ ?_
          simp [mk, up]
          exact ⟨hR, r0, r1, r2, r4, r5, r6, r7, r8, r9, r10, r11, r12, r13⟩
        refine ⟨fun done σ w' a hi hA hC ha hσ ⟨hR, r0, r1, r2, r3, r4, r5, r6, r7, r8, r9, r10, r11, r12, r13⟩ => ?_, ?_⟩
        · simp [After, Region.binds] at hA
          have e0 := r3 (by first | exact hA | exact hA.1 | exact hA.2 | exact hA.2.1 | exact hA.2.2 | exact hA.2.2.1 | exact hA.2.2.2 | exact hA.2.2.2.1 | exact hA.2.2.2.2 | exact hA.2.2.2.2.1 | exact hA.2.2.2.2.2 | exact hA.2.2.2.2.2.1 | exact hA.2.2.2.2.2.2 | exact hA.2.2.2.2.2.2.1 | exact hA.2.2.2.2.2.2.2 | exact hA.2.2.2.2.2.2.2.1 | exact hA.2.2.2.2.2.2.2.2 | exact hA.2.2.2.2.2.2.2.2.1 | exact hA.2.2.2.2.2.2.2.2.2)
          have d6 := hC.at 4 6 _ rfl hi rfl
          have d7 := hC.at 6 7 _ rfl d6 rfl
          have d9 := hC.at 7 9 _ rfl d7 rfl
          have d10 := hC.at 9 10 _ rfl d9 rfl
          have d11 := hC.at 10 11 _ rfl d10 rfl
          have d12 := hC.at 11 12 _ rfl d11 rfl
          have e9 := ((hR d12).cell (p := ⟨g, 1, none⟩) hgW).trans hcg
          refine stepG_plain rfl fun K hK => ?_
          go_simp
          refine hK _ _ ?_
          simp [mk, up]
          exact ⟨hR, r0, r1, r2, r3, r5, r6, r7, r8, r9, r10, r11, r12, r13⟩
        refine ⟨fun done σ w' a hi hA hC ha hσ ⟨hR, r0, r1, r2, r3, r4, r5, r6, r7, r8, r9, r10, r11, r12, r13⟩ => ?_, ?_⟩
        · have e0 := hσ 8 (by simp)
          simp only [List.getElem?_toArray] at e0
          have d6 := hC.at 5 6 _ rfl hi rfl
          have d7 := hC.at 6 7 _ rfl d6 rfl
          have d9 := hC.at 7 9 _ rfl d7 rfl
          have d10 := hC.at 9 10 _ rfl d9 rfl
          have d11 := hC.at 10 11 _ rfl d10 rfl
          have d12 := hC.at 11 12 _ rfl d11 rfl
          have e9 := ((hR d12).cell (p := ⟨w.heap.size + 2, 0, none⟩) hltB2).trans hck
          refine stepG_plain rfl fun K hK => ?_
          go_simp
          refine hK _ _ ?_
          simp [mk, up]
          exact ⟨hR, r0, r1, r2, r3, r4, r6, r7, r8, r9, r10, r11, r12, r13⟩
        refine ⟨fun done σ w' a hi hA hC ha hσ ⟨hR, r0, r1, r2, r3, r4, r5, r6, r7, r8, r9, r10, r11, r12, r13⟩ => ?_, ?_⟩
        · simp [After, Region.binds] at hA
          have e0 := r4 (by first | exact hA | exact hA.1 | exact hA.2 | exact hA.2.1 | exact hA.2.2 | exact hA.2.2.1 | exact hA.2.2.2 | exact hA.2.2.2.1 | exact hA.2.2.2.2 | exact hA.2.2.2.2.1 | exact hA.2.2.2.2.2 | exact hA.2.2.2.2.2.1 | exact hA.2.2.2.2.2.2 | exact hA.2.2.2.2.2.2.1 | exact hA.2.2.2.2.2.2.2 | exact hA.2.2.2.2.2.2.2.1 | exact hA.2.2.2.2.2.2.2.2 | exact hA.2.2.2.2.2.2.2.2.1 | exact hA.2.2.2.2.2.2.2.2.2)
          have e1 := r5 (by first | exact hA | exact hA.1 | exact hA.2 | exact hA.2.1 | exact hA.2.2 | exact hA.2.2.1 | exact hA.2.2.2 | exact hA.2.2.2.1 | exact hA.2.2.2.2 | exact hA.2.2.2.2.1 | exact hA.2.2.2.2.2 | exact hA.2.2.2.2.2.1 | exact hA.2.2.2.2.2.2 | exact hA.2.2.2.2.2.2.1 | exact hA.2.2.2.2.2.2.2 | exact hA.2.2.2.2.2.2.2.1 | exact hA.2.2.2.2.2.2.2.2 | exact hA.2.2.2.2.2.2.2.2.1 | exact hA.2.2.2.2.2.2.2.2.2)
          refine stepG_plain rfl fun K hK => ?_
          go_simp
          refine hK _ _ ?_
          simp [mk, up]
          exact ⟨hR, r0, r1, r2, r3, r4, r5, r7, r8, r9, r10, r11, r12, r13⟩
        refine ⟨fun done σ w' a hi hA hC ha hσ ⟨hR, r0, r1, r2, r3, r4, r5, r6, r7, r8, r9, r10, r11, r12, r13⟩ => ?_, ?_⟩
        · simp [After, Region.binds] at hA
          have e0 := r6 (by first | exact hA | exact hA.1 | exact hA.2 | exact hA.2.1 | exact hA.2.2 | exact hA.2.2.1 | exact hA.2.2.2 | exact hA.2.2.2.1 | exact hA.2.2.2.2 | exact hA.2.2.2.2.1 | exact hA.2.2.2.2.2 | exact hA.2.2.2.2.2.1 | exact hA.2.2.2.2.2.2 | exact hA.2.2.2.2.2.2.1 | exact hA.2.2.2.2.2.2.2 | exact hA.2.2.2.2.2.2.2.1 | exact hA.2.2.2.2.2.2.2.2 | exact hA.2.2.2.2.2.2.2.2.1 | exact hA.2.2.2.2.2.2.2.2.2)
          have d9 := hC.at 7 9 _ rfl hi rfl
          have d10 := hC.at 9 10 _ rfl d9 rfl
          have d11 := hC.at 10 11 _ rfl d10 rfl
          have d12 := hC.at 11 12 _ rfl d11 rfl
          have e9 := ((hR d12).cell (p := ⟨rb, k, none⟩) hrW).trans hcr
          refine stepG_plain rfl fun K hK => ?_
          go_simp
          refine hK _ _ ?_
          simp [mk, up]
          exact ⟨hR, r0, r1, r2, r3, r4, r5, r6, r8, r9, r10, r11, r12, r13⟩
        refine ⟨fun done σ w' a hi hA hC ha hσ ⟨hR, r0, r1, r2, r3, r4, r5, r6, r7, r8, r9, r10, r11, r12, r13⟩ => ?_, ?_⟩
        · have e0 := hσ 9 (by simp)
          simp only [List.getElem?_toArray] at e0
          refine stepG_plain rfl fun K hK => ?_
          go_simp
          refine hK _ _ ?_
          simp [mk, up]
          exact ⟨hR, r0, r1, r2, r3, r4, r5, r6, r7, r9, r10, r11, r12, r13⟩
        refine ⟨fun done σ w' a hi hA hC ha hσ ⟨hR, r0, r1, r2, r3, r4, r5, r6, r7, r8, r9, r10, r11, r12, r13⟩ => ?_, ?_⟩
        · simp [After, Region.binds] at hA
          have e0 := r7 (by first | exact hA | exact hA.1 | exact hA.2 | exact hA.2.1 | exact hA.2.2 | exact hA.2.2.1 | exact hA.2.2.2 | exact hA.2.2.2.1 | exact hA.2.2.2.2 | exact hA.2.2.2.2.1 | exact hA.2.2.2.2.2 | exact hA.2.2.2.2.2.1 | exact hA.2.2.2.2.2.2 | exact hA.2.2.2.2.2.2.1 | exact hA.2.2.2.2.2.2.2 | exact hA.2.2.2.2.2.2.2.1 | exact hA.2.2.2.2.2.2.2.2 | exact hA.2.2.2.2.2.2.2.2.1 | exact hA.2.2.2.2.2.2.2.2.2)
          have e1 := r8 (by first | exact hA | exact hA.1 | exact hA.2 | exact hA.2.1 | exact hA.2.2 | exact hA.2.2.1 | exact hA.2.2.2 | exact hA.2.2.2.1 | exact hA.2.2.2.2 | exact hA.2.2.2.2.1 | exact hA.2.2.2.2.2 | exact hA.2.2.2.2.2.1 | exact hA.2.2.2.2.2.2 | exact hA.2.2.2.2.2.2.1 | exact hA.2.2.2.2.2.2.2 | exact hA.2.2.2.2.2.2.2.1 | exact hA.2.2.2.2.2.2.2.2 | exact hA.2.2.2.2.2.2.2.2.1 | exact hA.2.2.2.2.2.2.2.2.2)
          refine stepG_plain rfl fun K hK => ?_
          go_simp
          refine hK _ _ ?_
          simp [mk, up]
          exact ⟨hR, r0, r1, r2, r3, r4, r5, r6, r7, r8, r10, r11, r12, r13⟩
        refine ⟨fun done σ w' a hi hA hC ha hσ ⟨hR, r0, r1, r2, r3, r4, r5, r6, r7, r8, r9, r10, r11, r12, r13⟩ => ?_, ?_⟩
        · simp [After, Region.binds] at hA
          have e0 := r9 (by first | exact hA | exact hA.1 | exact hA.2 | exact hA.2.1 | exact hA.2.2 | exact hA.2.2.1 | exact hA.2.2.2 | exact hA.2.2.2.1 | exact hA.2.2.2.2 | exact hA.2.2.2.2.1 | exact hA.2.2.2.2.2 | exact hA.2.2.2.2.2.1 | exact hA.2.2.2.2.2.2 | exact hA.2.2.2.2.2.2.1 | exact hA.2.2.2.2.2.2.2 | exact hA.2.2.2.2.2.2.2.1 | exact hA.2.2.2.2.2.2.2.2 | exact hA.2.2.2.2.2.2.2.2.1 | exact hA.2.2.2.2.2.2.2.2.2)
          have d11 := hC.at 10 11 _ rfl hi rfl
          have d12 := hC.at 11 12 _ rfl d11 rfl
          have e9 := (sub_of_heap ((hR d12).block b' hbW)).trans hsub
          refine stepG_plain rfl fun K hK => ?_
          go_simp
          refine hK _ _ ?_
          simp [mk, up]
          exact ⟨hR, r0, r1, r2, r3, r4, r5, r6, r7, r8, r9, r11, r12, r13⟩
        refine ⟨fun done σ w' a hi hA hC ha hσ ⟨hR, r0, r1, r2, r3, r4, r5, r6, r7, r8, r9, r10, r11, r12, r13⟩ => ?_, ?_⟩
        · simp [After, Region.binds] at hA
          have e0 := r10 (by first | exact hA | exact hA.1 | exact hA.2 | exact hA.2.1 | exact hA.2.2 | exact hA.2.2.1 | exact hA.2.2.2 | exact hA.2.2.2.1 | exact hA.2.2.2.2 | exact hA.2.2.2.2.1 | exact hA.2.2.2.2.2 | exact hA.2.2.2.2.2.1 | exact hA.2.2.2.2.2.2 | exact hA.2.2.2.2.2.2.1 | exact hA.2.2.2.2.2.2.2 | exact hA.2.2.2.2.2.2.2.1 | exact hA.2.2.2.2.2.2.2.2 | exact hA.2.2.2.2.2.2.2.2.1 | exact hA.2.2.2.2.2.2.2.2.2)
          have d12 := hC.at 11 12 _ rfl hi rfl
          have d13 := hC.at 12 13 _ rfl d12 rfl
          refine stepG_plain rfl fun K hK => ?_
          go_simp
          refine hK _ _ ?_
          simp [mk, up]
          exact ⟨fun h => (hR h).alloc (hR h).size _, r0, r1, r2, r3, r4, r5, r6, r7, r8, r9, r10, fun _ => by rw [dcs_single]; exact row_cl (heap_alloc_new w' _), (fun h => by rw [d12] at h; cases h), (fun h => by rw [d13] at h; cases h)⟩
        refine ⟨fun done σ w' a hi hA hC ha hσ ⟨hR, r0, r1, r2, r3, r4, r5, r6, r7, r8, r9, r10, r11, r12, r13⟩ => ?_, ?_⟩
        · simp [After, Region.binds] at hA
          have d13 := hC.at 12 13 _ rfl hi rfl
          have e0 := r0 (by first | exact hA | exact hA.1 | exact hA.2 | exact hA.2.1 | exact hA.2.2 | exact hA.2.2.1 | exact hA.2.2.2 | exact hA.2.2.2.1 | exact hA.2.2.2.2 | exact hA.2.2.2.2.1 | exact hA.2.2.2.2.2 | exact hA.2.2.2.2.2.1 | exact hA.2.2.2.2.2.2 | exact hA.2.2.2.2.2.2.1 | exact hA.2.2.2.2.2.2.2 | exact hA.2.2.2.2.2.2.2.1 | exact hA.2.2.2.2.2.2.2.2 | exact hA.2.2.2.2.2.2.2.2.1 | exact hA.2.2.2.2.2.2.2.2.2)
          obtain ⟨g', e1, hcl⟩ := r11 (by first | exact hA | exact hA.1 | exact hA.2 | exact hA.2.1 | exact hA.2.2 | exact hA.2.2.1 | exact hA.2.2.2 | exact hA.2.2.2.1 | exact hA.2.2.2.2 | exact hA.2.2.2.2.1 | exact hA.2.2.2.2.2 | exact hA.2.2.2.2.2.1 | exact hA.2.2.2.2.2.2 | exact hA.2.2.2.2.2.2.1 | exact hA.2.2.2.2.2.2.2 | exact hA.2.2.2.2.2.2.2.1 | exact hA.2.2.2.2.2.2.2.2 | exact hA.2.2.2.2.2.2.2.2.1 | exact hA.2.2.2.2.2.2.2.2.2) hi
          have HO := own_below HOWN.out (hR hi)
          refine stepG_plain rfl fun K hK => ?_
          refine wp_app (.tmp 27) (.tmp 38) 30 rfl (w.heap.size + 5) 35 (.agg (ucs (List.replicate 32 0))) 32 32 (by kernel_rfl) infoD rfl (by decide) v s _ ((ev_tmp ha).trans e0) HO (some ⟨g', 0, none⟩) 1 1 (dcs [d]) ((ev_tmp ha).trans e1) (by rw [dcs_single, bcs_length, h32]) (fun e => nomatch e) hcl (dcs_one _) (by unfold maxLen; omega) (by omega) (Nat.le_trans (by omega) (hR hi).size) ?_
          intro v' w2 ho2 hg2 _
          refine hK _ _ ?_
          simp [mk, up]
          exact ⟨r0, r1, r2, r3, r4, r5, r6, r7, r8, r9, r10, fun _ => ⟨w', hR hi, hg2, by rw [← dcs_append] at ho2; exact ho2⟩, (fun h => by rw [d13] at h; cases h)⟩
        refine ⟨fun done σ w' a hi hA hC ha hσ ⟨hR, r0, r1, r2, r3, r4, r5, r6, r7, r8, r9, r10, r11, r12, r13⟩ => ?_, trivial⟩
        · simp [After, Region.binds] at hA
          obtain ⟨w5, hb5, hg5, ho5⟩ := r12 (by first | exact hA | exact hA.1 | exact hA.2 | exact hA.2.1 | exact hA.2.2 | exact hA.2.2.1 | exact hA.2.2.2 | exact hA.2.2.2.1 | exact hA.2.2.2.2 | exact hA.2.2.2.2.1 | exact hA.2.2.2.2.2 | exact hA.2.2.2.2.2.1 | exact hA.2.2.2.2.2.2 | exact hA.2.2.2.2.2.2.1 | exact hA.2.2.2.2.2.2.2 | exact hA.2.2.2.2.2.2.2.1 | exact hA.2.2.2.2.2.2.2.2 | exact hA.2.2.2.2.2.2.2.2.1 | exact hA.2.2.2.2.2.2.2.2.2) hi
          have q12 : done 12 = true := (by first | exact hA | exact hA.1 | exact hA.2 | exact hA.2.1 | exact hA.2.2 | exact hA.2.2.1 | exact hA.2.2.2 | exact hA.2.2.2.1 | exact hA.2.2.2.2 | exact hA.2.2.2.2.1 | exact hA.2.2.2.2.2 | exact hA.2.2.2.2.2.1 | exact hA.2.2.2.2.2.2 | exact hA.2.2.2.2.2.2.1 | exact hA.2.2.2.2.2.2.2 | exact hA.2.2.2.2.2.2.2.1 | exact hA.2.2.2.2.2.2.2.2 | exact hA.2.2.2.2.2.2.2.2.1 | exact hA.2.2.2.2.2.2.2.2.2)
          have e0 := hσ 7 (by simp)
          simp only [List.getElem?_toArray] at e0
          have hbx : Boxed w' (w.heap.size + 1) 30 v := (hg5.block _ (Nat.lt_of_lt_of_le hltB1 hb5.size) (fun e => by have := (HVB.out _ e.symm).1; omega)).trans ((hb5.block _ hltB1).trans HV.out)
          have hcx := hbx.cell
          have hfx := hbx.frozen
          obtain ⟨A', c', e1, _⟩ := own_cl ho5
          refine stepG_plain rfl fun K hK => ?_
          go_simp
          refine hK undef _ ?_
          simp [mk, up_none]
          exact ⟨(fun h => by rw [q12] at h; cases h), r0, r1, r2, r3, r4, r5, r6, r7, r8, r9, r10, (fun _ h => by rw [q12] at h; cases h), ⟨w5, w', σ 39, hb5, hg5, ho5, by rw [e1]⟩⟩
      · rintro done σ w' hall hσ ⟨hR, r0, r1, r2, r3, r4, r5, r6, r7, r8, r9, r10, r11, r12, r13⟩
        obtain ⟨w5, w6, v', hb5, hg6, ho6, rfl⟩ := r13 (hall 13 (by simp))
        clear hσ r0 r1 r2 r3 r4 r5 r6 r7 r8 r9 r10 r11 r12 r13 hall hR
        simp only [putF, List.foldl_cons, List.foldl_nil, Act.put, List.setIfInBounds_toArray, List.set_cons_succ, List.set_cons_zero]
        have c1 : Chg (fun j => v.ownBlock = some j) W w6 := (Chg.below (p := fun j => v.ownBlock = some j) hb5).trans (Chg.grown hg6) (fun j _ e => e)
        have hb6 : Boxed w6 (w.heap.size + 1) 30 v := (c1.block _ hltB1 (fun e => by have := (HVB.out _ e).1; omega)).trans HV.out
        have hk6 : Boxed w6 (w.heap.size + 2) 3 (.int .i64 (k : Int)) := (c1.block _ hltB2 (fun e => by have := (HVB.out _ e).1; omega)).trans HKB.out
        obtain ⟨W7, hW7⟩ : ∃ W7, w6.setCell ⟨w.heap.size + 1, 0, none⟩ v' = W7 := ⟨_, rfl⟩
        have c2 : Chg (fun j => v.ownBlock = some j ∨ j = w.heap.size + 1) W W7 := by
          rw [← hW7]
          exact (c1.mono (q := fun j => v.ownBlock = some j ∨ j = w.heap.size + 1) (fun j _ e => .inl e)).trans (Chg.grown (grownBy_setCell' _ _ _)) (fun j _ e => .inr (by simpa using e.symm))
        have hb7 : Boxed W7 (w.heap.size + 1) 30 v' := by rw [← hW7]; exact hb6.set _
        have hk7 : Boxed W7 (w.heap.size + 2) 3 (.int .i64 (k : Int)) := by rw [← hW7]; exact (Below.heap_setCell _ _ _ _ (by show w.heap.size + 2 ≠ w.heap.size + 1; omega)).trans hk6
        have ho7 : W7.ownsRow (w.heap.size + 5) 35 32 v' (s + 1) (dcs (P ++ [d])) := by
          rw [← hW7]
          exact own_keep ho6 fun q hq _ _ => Below.heap_setCell _ _ _ _ (by show q ≠ w.heap.size + 1; omega)
        rw [hW7]
        have hc7 := hk7.cell
        have hf7 := hk7.frozen
        have C2 := Go.Proofs.Ytjfplkndngmgdaa.hd c2
        have HB7 := Go.Proofs.Ytjfplkndngmgdaa.hd hb7
        have HK7 := Go.Proofs.Ytjfplkndngmgdaa.hd hk7
        have HO7 := Go.Proofs.Ytjfplkndngmgdaa.hd ho7
        have hsz7 := c2.size
        clear hW7 c1 hb6 hk6 c2 hb7 hk7 ho7 hb5 hg6 ho6 hck hfk hct hcg hcr hco hsub
        gi_wp2
        have c3 : Chg (fun j => v.ownBlock = some j ∨ j = w.heap.size + 1 ∨ j = w.heap.size + 2) W (W7.setCell ⟨w.heap.size + 2, 0, none⟩ (.int .i64 ((k : Int) + 1))) :=
          (C2.out.mono (q := fun j => v.ownBlock = some j ∨ j = w.heap.size + 1 ∨ j = w.heap.size + 2) (fun j _ e => by rcases e with e | e <;> simp [e])).trans (Chg.grown (grownBy_setCell' _ _ _)) (fun j _ e => .inr (.inr (by simpa using e.symm)))
        refine ⟨c3.keeps _ (fun j ob h1 h2 h3 => ?_), c3.kept (fun j e => ⟨by omega, fun h => ?_⟩), v', ?_, ?_, ?_, HCH.out.trans c3 (fun j hj e => ?_)⟩
        · rcases h3 with h3 | h3 | h3
          · obtain ⟨c', t', fr', h4⟩ := own_isCells HOWN.out h3
            rw [h1] at h4; cases h4; cases h2
          · subst h3
            rw [show W.heap[w.heap.size + 1]? = _ from HV.out] at h1; cases h1; cases h2
          · subst h3
            rw [show W.heap[w.heap.size + 2]? = _ from HKB.out] at h1; cases h1; cases h2
        · rcases h with h | h | h
          · have := (HVB.out _ h).1; omega
          · omega
          · omega
        · exact (Below.heap_setCell _ _ _ _ (by show w.heap.size + 1 ≠ w.heap.size + 2; omega)).trans HB7.out
        · rw [HPL.out]; exact HK7.out.set _
        · rw [HSS.out, HPP.out, if_pos trivial, if_pos trivial]
          exact own_keep HO7.out fun q hq _ _ => Below.heap_setCell _ _ _ _ (by show q ≠ w.heap.size + 2; omega)
        · rcases e with e | e | e
          · have := (HVB.out _ e).1; omega
          · omega
          · omega
  case done =>
    rintro D W hD ⟨v, hv, -, hown, hch⟩ hK
    simp only [Exit.inBlock, Exit.then]
    have hco := hv.cell
    have HOWN := hd hown
    have HCH := hd hch
    have HK := hd hK
    clear hv hown hch hK
    go_wp2_with fail
    refine ⟨by simp, .inl ⟨_, _, rfl, run_takeDeferred HK.out, ?_⟩⟩
    refine ⟨_, results_tmp2 rfl _ _ _, v, rfl, ?_, ?_⟩
    · have h1 := own_keep (w' := W.putObj D (.deferred none)) HOWN.out (fun g _ _ hv => World.putObj_heap_other (fun e => by
        obtain ⟨c', t', fr', h4⟩ := own_isCells HOWN.out hv
        subst e
        rw [HK.out] at h4; cases h4))
      have h2 := own_mono h1 (show w.heap.size ≤ w.heap.size + 5 by omega)
      rw [show pathOf ds i = pathFrom (rows ds) 0 (oth n i n) by unfold pathOf oths; rw [HN.out]]
      exact h2
    · have h2 : Below w.heap.size w W := HB5.out.trans (HCH.out.toBelow (by omega) (fun k hk e => by omega))
      exact h2.trans ((Chg.grown (grownBy_putObj' _ D (.deferred none))).toBelow (n := w.heap.size) h2.size (fun k hk e => by
        have e' : D = k := by simpa using e
        omega))
  case stop =>
    rintro D c pre W _ _ h _
    exact h.elim

theorem tpath_range (w : World) (B0 T g : Nat) (ds : List Dg) (h : TreeAt w B0 T g ds) (i : Int) (h0 : 0 < ds.length) (hi : i < 0 ∨ (ds.length : Int) ≤ i) :
    Calls Try.prog 19 #[.pointer (some ⟨g, 0, none⟩), .int .i64 i] w fun e w' => e = .returned (.tuple #[.slice none 0 0, .int .i64 4]) ∧ Below w.heap.size w w' := by
  obtain ⟨b, o, c, rb, rc, h1, h2, h3, h3', h4⟩ := h.open h0
  refine tpath_no w _ i 4 (by decide) ⟨_, rfl⟩ fun W hW => ?_
  have h5 := asked_tree W g _ _ _ _ ((hW.block g (blk_lt h1)).trans h1) h0 i
  rwa [if_pos hi] at h5
theorem leaf_range (w : World) (B0 T g : Nat) (ds : List Dg) (h : TreeAt w B0 T g ds) (i : Int) (h0 : 0 < ds.length) (hi : i < 0 ∨ (ds.length : Int) ≤ i) :
    Calls Try.prog 29 #[.pointer (some ⟨g, 0, none⟩), .int .i64 i] w fun e w' => e = .returned (.tuple #[.agg (ucs (List.replicate 32 0)), .int .i64 4]) ∧ Below w.heap.size w w' := by
  obtain ⟨b, o, c, rb, rc, h1, h2, h3, h3', h4⟩ := h.open h0
  refine leaf_no w _ i 4 (by decide) fun W hW => ?_
  have h5 := asked_tree W g _ _ _ _ ((hW.block g (blk_lt h1)).trans h1) h0 i
  rwa [if_pos hi] at h5

end Go.Proofs.Ytjfplkndngmgdaa

namespace Go.Proofs.Ytjfplkndngmgdaa
set_option maxRecDepth 20000
open Go.RowKit Go.Shelf Sp

attribute [local go_sem ↓] ldD stD
attribute [local go_sem] run_ldA run_stA arrD loadX_at loadY_some storeX_at storeY_true ucs_size ones_ucs sha_length
attribute [local go_sem] Oper.semAt_some

theorem upStep32 {s : Dg × List Dg} {x : Nat × Bool} (h : s.1.length = 32) : (upStep s x).1.length = 32 := by
  unfold upStep
  split
  · simp only []
    split <;> exact bth_length _ _
  · exact h
theorem upAll32 : ∀ (xs : List (Nat × Bool)) (d : Dg) (p : List Dg), d.length = 32 → (upAll xs d p).1.length = 32
  | [], _, _, h => h
  | x :: xs, d, p, h => by rw [upAll_cons]; exact upAll32 xs _ _ (upStep32 h)
theorem SlD.zero {w w' : World} {v : Value} {ds : List Dg} (h : SlD w v ds 0) : SlD w' v ds 0 := by
  obtain ⟨A, c, rfl, h2, h3, h4, h5, h6, h7⟩ := h
  obtain rfl := List.eq_nil_of_length_eq_zero h2
  exact ⟨A, c, rfl, rfl, h3, h4, h5, h6, Cl.nil _ _⟩
/-- A slice's tail. -/
theorem SlD.tl {w : World} {b o r c : Nat} {e : Dg} {ds : List Dg} (h : SlD w (.slice (some ⟨b, o, none⟩) (r + 1) c) (e :: ds) (r + 1)) :
    SlD w (.slice (if c = 1 then some ⟨b, o, none⟩ else some ⟨b, o + 32, none⟩) r (c - 1)) ds r := by
  have h2 := h.cut 1 r (c - 1)
  obtain ⟨A, c', e', h3, h4, h5, h6, h7, h8⟩ := h
  cases e'
  by_cases hc : c = 1
  · obtain rfl : r = 0 := by omega
    have hn : ds = [] := List.eq_nil_of_length_eq_zero (by simpa using h3)
    subst hn
    rw [if_pos hc]
    exact ⟨_, _, rfl, rfl, All32.nil, Nat.zero_le _, by omega, (fun e => nomatch e), Cl.nil _ _⟩
  · rw [if_neg hc]
    have h9 := h2 (by omega) (by omega) (by omega)
    simp only [Nat.one_mul, List.drop_succ_cons, List.drop_zero] at h9
    rwa [List.take_of_length_le (by simp at h3; omega)] at h9

def StoD (D : Nat) (W w' : World) (nw : Dg) : Prop := ∃ w5, Below W.heap.size W w5 ∧ w' = putSub w5 D 0 (ucs nw)
theorem Chg.putSub (W : World) (D : Nat) (c : Array Value) : Chg (fun k => k = D) W (Go.Proofs.Ytjfplkndngmgdaa.putSub W D 0 c) :=
  ⟨rfl, rfl, rfl, by rw [putSub_size]; exact Nat.le_refl _, fun k _ hk => putSub_far D c hk⟩

/-- How a round of Up ends. -/
theorem upf {B D m s b o r r0 cc c2 wz : Nat} {A2 : Option Addr} {W W5 W7 : World} {cur nw : Dg} {rest path : List Dg} {dl : Dg} {pre : List (Nat × Bool)} {x : Nat × Bool} {a : Act} {Ix : Code → List (Nat × Bool) → World → Prop}
    (hch : Chg (fun k => k = wz + 1 ∨ D ≤ k ∧ k < D + 3) W5 W) (c7 : Chg (fun k => k = D) W W7) (hd7 : W7.heap[D]? = some (.cells (ucs nw) 35 (0, 0)))
    (hp7 : Boxed W7 (wz + 1) 30 (.slice (some ⟨b, o, none⟩) r0 cc)) (hv : Boxed W (wz + 1) 30 (.slice (some ⟨b, o, none⟩) r0 cc)) (hdd : W.heap[D]? = some (.cells (ucs cur) 35 (0, 0)))
    (htl : SlD W (.slice A2 r c2) rest r) (hA2 : ∀ a, A2 = some a → a.block = b) (hb : b < wz) (hWs : D + 3 ≤ W.heap.size)
    (hnw : upAll (pre ++ [x]) dl path = (nw, rest)) (e1 : steps (pre ++ [x]) = s + 1) (hr : m - (s + 1) = r) (hD : wz + 3 ≤ D) :
    ownPostT B (fun k => k = D + 1 + 1 ∨ k = D + 1) (fun pre W => W.heap[D]? = some (.cells (ucs (upAll pre dl path).1) 35 (0, 0)) ∧ (∃ v, Boxed W (wz + 1) 30 v ∧ SlD W v (upAll pre dl path).2 (m - steps pre) ∧ (∀ k, v.ownBlock = some k → 0 < m - steps pre → k < wz)) ∧ Chg (fun k => k = wz + 1 ∨ D ≤ k ∧ k < D + 3) W5 W)
      Ix (pre ++ [x]) W .normal a (W7.setCell ⟨wz + 1, 0, none⟩ (.slice A2 r c2)) := by
  have c8 : Chg (fun k => k = D ∨ k = wz + 1) W (W7.setCell ⟨wz + 1, 0, none⟩ (.slice A2 r c2)) := (c7.mono (q := fun k => k = D ∨ k = wz + 1) (fun j _ e => .inl e)).trans (Chg.grown (grownBy_setCell' _ _ _)) (fun j _ e => .inr (by simpa using e.symm))
  have hob : ∀ k, (Value.slice A2 r c2).ownBlock = some k → k = b := fun k hk => by
    cases A2 with
    | none => cases hk
    | some q =>
      have h1 := hA2 q rfl
      have h2 : q.block = k := by simpa [Value.ownBlock] using hk
      omega
  refine ⟨c8.keeps _ (fun j ob h1 h2 h3 => ?_), c8.kept (fun j e => ⟨by omega, by omega⟩), ?_⟩
  · rcases h3 with rfl | rfl
    · rw [hdd] at h1; cases h1; cases h2
    · rw [show W.heap[wz + 1]? = _ from hv] at h1; cases h1; cases h2
  · dsimp only
    rw [hnw, e1, hr]
    refine ⟨(Below.heap_setCell _ _ _ _ (by show D ≠ wz + 1; omega)).trans hd7, ⟨_, hp7.set _, htl.keep (fun k hk hlt => c8.block k hlt (by have := hob k hk; omega)), fun k hk _ => by have := hob k hk; omega⟩, hch.trans c8 (fun j _ e => by omega)⟩

set_option maxHeartbeats 2000000 in
set_option maxRecDepth 100000 in
theorem up_ok (w : World) (d : Dg) (hd0 : d.length = 32) (i n m c : Nat) (A : Option Addr) (path : List Dg) (hs : SlD w (.slice A m c) path m) (hi : i < n) (hn : n ≤ 16) (hm : m = steps (oths i n)) :
    Calls Try.prog 20 #[.agg (ucs d), .int .i64 (i : Int), .int .i64 (n : Int), .slice A m c] w fun e w' => e = .returned (.tuple #[.agg (ucs (upAll (oths i n) (mrk d) path).1), .int .i64 0]) ∧ Below w.heap.size w w' := by
  have hE := stE_ok hi hn
  have hN := stN_ok hi hn
  rw [← hm] at hN
  have HSL := hd hs
  have HM := hd hm
  have hm16 : m ≤ 16 := by
    have h1 := steps_le (oths i n)
    have h2 : (oths i n).length ≤ n := oth_len n i n
    omega
  have HST := hd (fun (W : World) => show Calls Try.prog 13 #[.int .i64 (i : Int), .int .i64 (n : Int)] W fun e w' => e = .returned (.tuple #[.int .i64 (m : Int), .int .i64 0]) ∧ Below W.heap.size W w' from by
    have h := steps_any W (i : Int) (n : Int)
    rwa [hE, hN] at h)
  clear hs hm hE hN
  refine (callsIn_wide (n := 3)).1 ?_
  refine callsIn_of_wp_marks Try.func20 rfl trivial ?_ rfl
  refine wpIn_wide.2 ?_
  simp only [Try.ntmps20, List.size_toArray, List.length_cons, List.length_nil, Nat.reduceAdd, Nat.reduceSub, Array.replicate_succ, Array.replicate_zero, List.push_toArray, List.append_toArray, List.nil_append, List.cons_append]
  go_upto_region 0 with (fail)
  go_cut [4, 7, 8, 9] from 4 to 9 (fun v4 v7 v8 v9 wx => v4 = .pointer (some ⟨w.heap.size, 0, none⟩) ∧ v7 = .pointer (some ⟨w.heap.size + 1, 0, none⟩) ∧ v8 = .pointer (some ⟨w.heap.size + 2, 0, none⟩) ∧ v9 = .int .i64 0 ∧ wx.heap[w.heap.size]? = some (.cells (ucs d) 35 (0, 0)) ∧ Boxed wx (w.heap.size + 1) 30 (.slice A m c) ∧ wx.heap[w.heap.size + 2]? = some (.cells (ucs (List.replicate 32 0)) 35 (0, 0)) ∧ wx.heap.size = w.heap.size + 3 ∧ Below w.heap.size w wx)
  case first =>
    go_wp2_with fail
    go_meet
    have h3 := heap_alloc_new ((w.alloc (.cells (ucs d) 35)).alloc (.cells #[.slice A m c] 30)) (.cells (ucs (List.replicate 32 0)) 35)
    rw [World.size_alloc, World.size_alloc] at h3
    have h2 := Boxed.new (w.alloc (.cells (ucs d) 35)) 30 (.slice A m c)
    rw [World.size_alloc] at h2
    exact ⟨rfl, rfl, rfl, rfl, blk_alloc (blk_alloc (heap_alloc_new w _) _) _, h2.alloc _, h3, by simp, (((Below.refl _ _).alloc (Nat.le_refl _) _).alloc (by simp) _).alloc (by simp; omega) _⟩
  case rest =>
    obtain ⟨rfl, rfl, rfl, rfl, hE, hP, hD, hz, hB⟩ := hcut
    have HE := hd hE
    have HD := hd hD
    have HP := hd hP
    have HB := hd hB
    have hcp := hP.cell
    have hlt0 : w.heap.size < wc.heap.size := by omega
    have hlt1 : w.heap.size + 1 < wc.heap.size := by omega
    clear hE hP hD hB
    go_upto_block 1 with (first
      | (go_at_call 13; refine (HST.out _).mono ?_; rintro e w1 ⟨rfl, hb1⟩; have HB1 := hd hb1; have hsub := sub_row (n := 32) ((hb1.block _ hlt0).trans HE.out) (by rw [ucs_size, hd0]); have hcp1 := (hb1.cell (p := ⟨w.heap.size + 1, 0, none⟩) hlt1).trans hcp; clear hb1 hcp)
      | (go_at_call 34; refine (mark_any _ d hd0).mono ?_; rintro e w2 ⟨rfl, hb2⟩; have HB2 := hd hb2; have hcan := can_row (o := 0) (n := 32) (heap_alloc_new w2 (.cells (ucs (List.replicate 32 0)) 35)) (by simp [ucs_size]); clear hb2)
      | (go_at_call 30; refine (others_any _ _ _).mono ?_; rintro e w3 ⟨rfl, rfl⟩))
    obtain ⟨D, hDq⟩ : ∃ D, w2.heap.size = D := ⟨_, rfl⟩
    obtain ⟨W3, hW3⟩ : ∃ W3, w2.alloc (.cells (ucs (sha (0 :: d))) 35) = W3 := ⟨_, rfl⟩
    obtain ⟨W4, hW4⟩ : ∃ W4, W3.alloc (.cells #[.int .i64 (i : Int)] 3) = W4 := ⟨_, rfl⟩
    obtain ⟨W5, hW5⟩ : ∃ W5, W4.alloc (.cells #[.int .i64 (n : Int)] 3) = W5 := ⟨_, rfl⟩
    have z3 : W3.heap.size = D + 1 := by rw [← hW3, ← hDq]; simp
    have l3 : Below D w2 W3 := by rw [← hW3, ← hDq]; exact (Below.refl _ _).alloc (Nat.le_refl _) _
    have b3 : W3.heap[D]? = some (.cells (ucs (upAll [] (mrk d) path).1) 35 (0, 0)) := by rw [← hW3, ← hDq]; exact heap_alloc_new w2 _
    obtain ⟨z4, b4, l4⟩ := alloc_box hW4
    obtain ⟨z5, b5, l5⟩ := alloc_box hW5
    rw [hW3, hW4, hW5]
    rw [z3] at b4 z4
    rw [z4] at b5 z5
    have l35 : Below W3.heap.size W3 W5 := l4.trans (l5.mono (by omega))
    have hi5 : Boxed W5 (D + 1) 3 (.int .i64 (i : Int)) := (l5.block _ (by omega)).trans b4
    have hn5 : Boxed W5 (D + 1 + 1) 3 (.int .i64 (n : Int)) := b5
    have hd5 : W5.heap[D]? = some (.cells (ucs (upAll [] (mrk d) path).1) 35 (0, 0)) := (l35.block _ (by omega)).trans b3
    have hsz1 : wc.heap.size ≤ w1.heap.size := HB1.out.size
    have hsz2 : w1.heap.size ≤ D := by rw [← hDq]; exact HB2.out.size
    have lc2 : Below wc.heap.size wc W5 := HB1.out.trans ((HB2.out.mono hsz1).trans ((l3.mono (by omega)).trans (l35.mono (by omega))))
    have HD5 := hd hd5
    have HL := hd (HB.out.trans (lc2.mono (by omega)))
    have HP5 := hd ((lc2.block _ hlt1).trans HP.out)
    have HSL5 := hd (HSL.out.below HL.out)
    have hDlt : w.heap.size + 3 ≤ D := by omega
    have HRES := hd ((lc2.block (w.heap.size + 2) (by omega)).trans HD.out)
    rw [hDq]
    clear hcp1 hsub hcan hDq hW3 hW4 hW5 z3 z4 b4 b3 b5 l3 l4 l5 l35 hd5 lc2 HB HB1 HB2 HD HP HE hsz1 hsz2 hlt0 hlt1 HST hz
    refine wp_block ?_
    refine (wpIn_wide (n := 3)).1 ?_
    refine wpIn_rangeT1 (F := Fence.wide) rfl (by omega) (gf := 43) (lb := #[.pointer (some ⟨D + 1 + 1, 0, none⟩), .pointer (some ⟨D + 1, 0, none⟩)]) rfl trivial (enters_of Try.func43 (by kernel_rfl) rfl)
      (oth_any (3 - 1) (D + 1 + 1) (D + 1) n i n (by omega) hn (Nat.le_refl _) (by omega) W5 hn5 hi5) (fun k e => by omega) (fun k e => by omega) (Below.refl _ _) (fun _ => rfl)
      (fun pre W => W.heap[D]? = some (.cells (ucs (upAll pre (mrk d) path).1) 35 (0, 0)) ∧ (∃ v, Boxed W (w.heap.size + 1) 30 v ∧ SlD W v (upAll pre (mrk d) path).2 (m - steps pre) ∧ (∀ k, v.ownBlock = some k → 0 < m - steps pre → k < w.heap.size)) ∧ Chg (fun k => k = w.heap.size + 1 ∨ D ≤ k ∧ k < D + 3) W5 W)
      (fun _ _ _ => False) ?hI (fun _ => turns_false) ?h0 (fun t => (t.setIfInBounds 13 (t.getD 37 undef)).setIfInBounds 14 (t.getD 38 undef)) ?assign ?body ?done ?stop
    case hI =>
      rintro pre X Y row ⟨h1, ⟨v, h2, h3, h4⟩, h5⟩ hg hr
      have hx := h5.size
      have far : ∀ k, k ≤ D → row ≠ some k := fun k hk e => by
        rcases hr _ e with h | ⟨h6, _⟩
        · omega
        · omega
      refine ⟨(hg.block _ (blk_lt h1) (fun e => far _ (Nat.le_refl _) e.symm)).trans h1, ⟨v, (hg.block _ h2.lt (fun e => far _ (by omega) e.symm)).trans h2, ?_, h4⟩, h5.trans (Chg.grown hg) (fun j hj e => ?_)⟩
      · by_cases h0 : 0 < m - steps pre
        · exact h3.keep fun k hk hlt => hg.block k hlt (fun e => far k (by have := h4 k hk h0; omega) e.symm)
        · have e0 : m - steps pre = 0 := by omega
          rw [e0] at h3 ⊢
          exact h3.zero
      · rcases hr _ e with h | ⟨h6, _⟩
        · omega
        · omega
    case h0 =>
      refine ⟨HD5.out, ⟨_, HP5.out, HSL5.out, fun k hk hm0 => ?_⟩, Chg.refl _ _⟩
      obtain ⟨b, o, rfl, hb⟩ := HSL.out.at (by simpa [steps] using hm0)
      cases hk; exact hb
    case assign =>
      intro lr x W K hK
      simp at hK
      gi_wp2
      exact hK
    case body =>
      rintro lr pre x W hlr - ⟨hdd, ⟨v, hv, hsl, hvo⟩, hch⟩ hp
      have hpre : pre <+: oths i n := List.IsPrefix.trans (List.prefix_append pre [x]) hp
      have hs1 : steps (pre ++ [x]) ≤ m := by rw [HM.out]; exact steps_prefix hp
      have hss := steps_snoc pre x
      have hcur32 := upAll32 pre (mrk d) path (mrk_length d)
      have hsnd := upAll_snd pre (mrk d) path
      obtain ⟨s, hs⟩ : ∃ s, steps pre = s := ⟨_, rfl⟩
      rw [hs] at hss hsl hvo hsnd
      have hsz := hch.size
      have HCH := hd hch
      have HDD := hd hdd
      have HV := hd hv
      have HSL := hd hsl
      have HVO := hd hvo
      have HSS := hd hss
      have hltP : w.heap.size + 1 < W.heap.size := by omega
      have hltD : D < W.heap.size := by omega
      obtain ⟨oo, bo⟩ := x
      cases bo
      · simp
        clear hdd hv hsl hvo hch hss hsnd hs hs1 hpre hp hcur32
        gi_wp2
        refine ⟨KeepsFrom.refl _ _, Kept.refl _ _, ?_⟩
        have e1 : steps (pre ++ [(oo, false)]) = s := by rw [HSS.out]; rfl
        dsimp only
        rw [e1, show upAll (pre ++ [(oo, false)]) (mrk d) path = upAll pre (mrk d) path by rw [upAll_snoc]; rfl]
        exact ⟨HDD.out, ⟨v, HV.out, HSL.out, HVO.out⟩, HCH.out⟩
      have e1 : steps (pre ++ [(oo, true)]) = s + 1 := by rw [HSS.out]; rfl
      rw [e1] at hs1
      obtain ⟨r, hr⟩ : ∃ r, m - s = r + 1 := ⟨m - s - 1, by omega⟩
      have hr' : m - (s + 1) = r := by omega
      rw [hr] at hsl hvo
      have hplen := hsl.len
      obtain ⟨cur, hcq⟩ : ∃ cur, (upAll pre (mrk d) path).1 = cur := ⟨_, rfl⟩
      obtain ⟨eh, rest, hpl⟩ : ∃ eh rest, (upAll pre (mrk d) path).2 = eh :: rest := by
        cases hq : (upAll pre (mrk d) path).2 with
        | nil => rw [hq] at hplen; cases hplen
        | cons a l => exact ⟨a, l, rfl⟩
      have hcur2 : upAll pre (mrk d) path = (cur, eh :: rest) := by rw [← hcq, ← hpl]
      rw [hcq] at hcur32 hdd
      rw [hpl] at hsl
      obtain ⟨A0, cc, rfl, hmc, hcM⟩ := hsl.val
      obtain ⟨b, o, rfl, hltb⟩ := hsl.at (Nat.succ_pos r)
      have hbw : b < w.heap.size := hvo b rfl (Nat.succ_pos r)
      have hsube := hsl.sub 0 rfl
      rw [Nat.zero_mul, Nat.add_zero] at hsube
      have h32 := hsl.all.get (k := 0) rfl
      have hcur := hcur32
      have HDD := hd hdd
      have HSL := hd hsl
      have hcv := hv.cell
      have HTL := hd hsl.tl
      have hcc : (1 : Int) ≤ ((r + 1 : Nat) : Int) := by omega
      clear hdd hv hsl hvo hch hss hsnd hs hpre hp hcur32 hr hplen hcq hpl HSS HVO
      simp
      by_cases hoe : oo % 2 = 0
      · have hev : ((oo : Int) % 2 == 0) = true := by simp; omega
        have hnw : upAll (pre ++ [(oo, true)]) (mrk d) path = (bth eh cur, rest) := by
          rw [upAll_snoc, hcur2]
          simp only [upStep, if_pos, List.headD_cons, List.tail_cons]
          rw [if_pos (by omega)]
        obtain ⟨nw, hnq⟩ : ∃ nw, bth eh cur = nw := ⟨_, rfl⟩
        have HBOTH := (fun W' : World => show Calls Try.prog 36 #[.agg (ucs eh), .agg (ucs cur)] W' fun e w' => e = .returned (.agg (ucs nw)) ∧ Below W'.heap.size W' w' from by
          rw [← hnq]; exact both_any W' _ _ h32 hcur)
        have hnl : nw.length = 32 := by rw [← hnq]; exact bth_length _ _
        rw [hnq] at hnw
        have HNW := Go.Proofs.Ytjfplkndngmgdaa.hd hnw
        have HBOTH := Go.Proofs.Ytjfplkndngmgdaa.hd HBOTH
        clear hnw hnq hcur2
        gi_wp2
        refine wpIn_region_inv lr 1 [51, 52, 53, 54, 55] (fun done σ w' => (done 5 = false → Below W.heap.size W w') ∧
          (done 0 = true → σ 51 = .slice (some ⟨b, o, none⟩) (r + 1) cc) ∧
          (done 1 = true → σ 52 = .pointer (some ⟨b, o, none⟩)) ∧
          (done 2 = true → σ 53 = .agg (ucs eh)) ∧
          (done 3 = true → σ 54 = .agg (ucs cur)) ∧
          (done 4 = true → σ 55 = .agg (ucs nw)) ∧
          (done 5 = true → StoD D W w' nw)) (by kernel_rfl) (by kernel_rfl) (by kernel_rfl) ?_ ?_ ?_
        · simp
          exact Below.drew (Below.refl _ _)
        · refine ⟨fun done σ w' a hi hA hC ha hσ ⟨hR, r0, r1, r2, r3, r4, r5⟩ => ?_, ?_⟩
          · have e0 := hσ 7 (by simp)
            simp only [List.getElem?_toArray] at e0
            have d5 := hC.at 0 5 _ rfl hi rfl
            have e9 := ((hR d5).cell (p := ⟨w.heap.size + 1, 0, none⟩) hltP).trans hcv
            refine stepG_plain rfl fun K hK => ?_
            go_simp
            refine hK _ _ ?_
            simp [mk, up]
            exact ⟨hR, r1, r2, r3, r4, r5⟩
          refine ⟨fun done σ w' a hi hA hC ha hσ ⟨hR, r0, r1, r2, r3, r4, r5⟩ => ?_, ?_⟩
          · simp [After, Region.binds] at hA
            have e0 := r0 (by first | exact hA | exact hA.1 | exact hA.2 | exact hA.2.1 | exact hA.2.2 | exact hA.2.2.1 | exact hA.2.2.2 | exact hA.2.2.2.1 | exact hA.2.2.2.2 | exact hA.2.2.2.2.1 | exact hA.2.2.2.2.2 | exact hA.2.2.2.2.2.1 | exact hA.2.2.2.2.2.2 | exact hA.2.2.2.2.2.2.1 | exact hA.2.2.2.2.2.2.2 | exact hA.2.2.2.2.2.2.2.1 | exact hA.2.2.2.2.2.2.2.2 | exact hA.2.2.2.2.2.2.2.2.1 | exact hA.2.2.2.2.2.2.2.2.2)
            refine stepG_plain rfl fun K hK => ?_
            go_simp
            refine hK _ _ ?_
            simp [mk, up]
            exact ⟨hR, r0, r2, r3, r4, r5⟩
          refine ⟨fun done σ w' a hi hA hC ha hσ ⟨hR, r0, r1, r2, r3, r4, r5⟩ => ?_, ?_⟩
          · simp [After, Region.binds] at hA
            have e0 := r1 (by first | exact hA | exact hA.1 | exact hA.2 | exact hA.2.1 | exact hA.2.2 | exact hA.2.2.1 | exact hA.2.2.2 | exact hA.2.2.2.1 | exact hA.2.2.2.2 | exact hA.2.2.2.2.1 | exact hA.2.2.2.2.2 | exact hA.2.2.2.2.2.1 | exact hA.2.2.2.2.2.2 | exact hA.2.2.2.2.2.2.1 | exact hA.2.2.2.2.2.2.2 | exact hA.2.2.2.2.2.2.2.1 | exact hA.2.2.2.2.2.2.2.2 | exact hA.2.2.2.2.2.2.2.2.1 | exact hA.2.2.2.2.2.2.2.2.2)
            have d5 := hC.at 2 5 _ rfl hi rfl
            have e9 := (sub_of_heap ((hR d5).block b hltb)).trans hsube
            refine stepG_plain rfl fun K hK => ?_
            go_simp
            refine hK _ _ ?_
            simp [mk, up]
            exact ⟨hR, r0, r1, r3, r4, r5⟩
          refine ⟨fun done σ w' a hi hA hC ha hσ ⟨hR, r0, r1, r2, r3, r4, r5⟩ => ?_, ?_⟩
          · have e0 := hσ 12 (by simp)
            simp only [List.getElem?_toArray] at e0
            have d5 := hC.at 3 5 _ rfl hi rfl
            have e9 := sub_row (n := 32) (((hR d5).block D hltD).trans HDD.out) (by rw [ucs_size, hcur])
            refine stepG_plain rfl fun K hK => ?_
            go_simp
            refine hK _ _ ?_
            simp [mk, up]
            exact ⟨hR, r0, r1, r2, r4, r5⟩
          refine ⟨fun done σ w' a hi hA hC ha hσ ⟨hR, r0, r1, r2, r3, r4, r5⟩ => ?_, ?_⟩
          · simp [After, Region.binds] at hA
            have e0 := r2 (by first | exact hA | exact hA.1 | exact hA.2 | exact hA.2.1 | exact hA.2.2 | exact hA.2.2.1 | exact hA.2.2.2 | exact hA.2.2.2.1 | exact hA.2.2.2.2 | exact hA.2.2.2.2.1 | exact hA.2.2.2.2.2 | exact hA.2.2.2.2.2.1 | exact hA.2.2.2.2.2.2 | exact hA.2.2.2.2.2.2.1 | exact hA.2.2.2.2.2.2.2 | exact hA.2.2.2.2.2.2.2.1 | exact hA.2.2.2.2.2.2.2.2 | exact hA.2.2.2.2.2.2.2.2.1 | exact hA.2.2.2.2.2.2.2.2.2)
            have e1 := r3 (by first | exact hA | exact hA.1 | exact hA.2 | exact hA.2.1 | exact hA.2.2 | exact hA.2.2.1 | exact hA.2.2.2 | exact hA.2.2.2.1 | exact hA.2.2.2.2 | exact hA.2.2.2.2.1 | exact hA.2.2.2.2.2 | exact hA.2.2.2.2.2.1 | exact hA.2.2.2.2.2.2 | exact hA.2.2.2.2.2.2.1 | exact hA.2.2.2.2.2.2.2 | exact hA.2.2.2.2.2.2.2.1 | exact hA.2.2.2.2.2.2.2.2 | exact hA.2.2.2.2.2.2.2.2.1 | exact hA.2.2.2.2.2.2.2.2.2)
            have d5 := hC.at 4 5 _ rfl hi rfl
            refine stepG_plain rfl fun K hK => ?_
            go_simp
            refine (HBOTH.out w').mono ?_
            rintro e w2 ⟨rfl, hb2⟩
            refine hK _ _ ?_
            simp [mk, up]
            exact ⟨fun h => (hR h).trans (hb2.mono (hR h).size), r0, r1, r2, r3, (fun h => by rw [d5] at h; cases h)⟩
          refine ⟨fun done σ w' a hi hA hC ha hσ ⟨hR, r0, r1, r2, r3, r4, r5⟩ => ?_, trivial⟩
          · simp [After, Region.binds] at hA
            have e0 := hσ 12 (by simp)
            simp only [List.getElem?_toArray] at e0
            have e1 := r4 (by first | exact hA | exact hA.1 | exact hA.2 | exact hA.2.1 | exact hA.2.2 | exact hA.2.2.1 | exact hA.2.2.2 | exact hA.2.2.2.1 | exact hA.2.2.2.2 | exact hA.2.2.2.2.1 | exact hA.2.2.2.2.2 | exact hA.2.2.2.2.2.1 | exact hA.2.2.2.2.2.2 | exact hA.2.2.2.2.2.2.1 | exact hA.2.2.2.2.2.2.2 | exact hA.2.2.2.2.2.2.2.1 | exact hA.2.2.2.2.2.2.2.2 | exact hA.2.2.2.2.2.2.2.2.1 | exact hA.2.2.2.2.2.2.2.2.2)
            have q4 : done 4 = true := (by first | exact hA | exact hA.1 | exact hA.2 | exact hA.2.1 | exact hA.2.2 | exact hA.2.2.1 | exact hA.2.2.2 | exact hA.2.2.2.1 | exact hA.2.2.2.2 | exact hA.2.2.2.2.1 | exact hA.2.2.2.2.2 | exact hA.2.2.2.2.2.1 | exact hA.2.2.2.2.2.2 | exact hA.2.2.2.2.2.2.1 | exact hA.2.2.2.2.2.2.2 | exact hA.2.2.2.2.2.2.2.1 | exact hA.2.2.2.2.2.2.2.2 | exact hA.2.2.2.2.2.2.2.2.1 | exact hA.2.2.2.2.2.2.2.2.2)
            have hD5 := ((hR hi).block D hltD).trans HDD.out
            have hcan := can_row (o := 0) (n := 32) hD5 (by rw [ucs_size, hcur]; omega)
            refine stepG_plain rfl fun K hK => ?_
            go_simp
            refine hK undef _ ?_
            simp [mk, up_none]
            exact ⟨r0, r1, r2, r3, r4, ⟨w', hR hi, rfl⟩⟩
        · rintro done σ w' hall hσ ⟨hR, r0, r1, r2, r3, r4, r5⟩
          obtain ⟨w5, hb5, rfl⟩ := r5 (hall 5 (by simp))
          clear hσ r0 r1 r2 r3 r4 r5 hall hR
          simp only [putF, List.foldl_cons, List.foldl_nil, Act.put, List.setIfInBounds_toArray, List.set_cons_succ, List.set_cons_zero]
          obtain ⟨W7, hW7⟩ : ∃ W7, putSub w5 D 0 (ucs nw) = W7 := ⟨_, rfl⟩
          have hd7 : W7.heap[D]? = some (.cells (ucs nw) 35 (0, 0)) := by rw [← hW7]; exact putSub_row ((hb5.block D hltD).trans HDD.out) (by rw [ucs_size, ucs_size, hcur, hnl])
          have c7 : Chg (fun k => k = D) W W7 := by rw [← hW7]; exact (Chg.below (p := fun k => k = D) hb5).trans (Chg.putSub _ _ _) (fun j _ e => e)
          have hp7 : Boxed W7 (w.heap.size + 1) 30 (.slice (some ⟨b, o, none⟩) (r + 1) cc) := (c7.block _ hltP (by omega)).trans HV.out
          have hcp7 := hp7.cell
          have hfp7 := hp7.frozen
          have HD7 := Go.Proofs.Ytjfplkndngmgdaa.hd hd7
          have HP7 := Go.Proofs.Ytjfplkndngmgdaa.hd hp7
          have C7 := Go.Proofs.Ytjfplkndngmgdaa.hd c7
          rw [hW7]
          clear hW7 hb5 hd7 hp7 c7 hcv hsube HBOTH
          gi_wp2
          all_goals (
            refine upf HCH.out C7.out HD7.out HP7.out HV.out HDD.out (r := r) ?_ (fun a e => by cases e; rfl) hbw (by omega) HNW.out e1 hr' hDlt
            first
              | (have h9 := HTL.out; rw [if_pos rfl] at h9; exact h9)
              | (have h9 := HTL.out; rw [if_pos (by assumption), show cc - 1 = 0 by omega] at h9; exact h9)
              | (have h9 := HTL.out; rw [if_neg (by assumption)] at h9; exact h9))
      · have hev : ((oo : Int) % 2 == 0) = false := by simp; omega
        have hnw : upAll (pre ++ [(oo, true)]) (mrk d) path = (bth cur eh, rest) := by
          rw [upAll_snoc, hcur2]
          simp only [upStep, if_pos, List.headD_cons, List.tail_cons]
          rw [if_neg (by omega)]
        obtain ⟨nw, hnq⟩ : ∃ nw, bth cur eh = nw := ⟨_, rfl⟩
        have HBOTH := (fun W' : World => show Calls Try.prog 36 #[.agg (ucs cur), .agg (ucs eh)] W' fun e w' => e = .returned (.agg (ucs nw)) ∧ Below W'.heap.size W' w' from by
          rw [← hnq]; exact both_any W' _ _ hcur h32)
        have hnl : nw.length = 32 := by rw [← hnq]; exact bth_length _ _
        rw [hnq] at hnw
        have HNW := Go.Proofs.Ytjfplkndngmgdaa.hd hnw
        have HBOTH := Go.Proofs.Ytjfplkndngmgdaa.hd HBOTH
        clear hnw hnq hcur2
        gi_wp2
        refine wpIn_region_inv lr 1 [39, 40, 41, 42, 43] (fun done σ w' => (done 5 = false → Below W.heap.size W w') ∧
          (done 0 = true → σ 39 = .agg (ucs cur)) ∧
          (done 1 = true → σ 40 = .slice (some ⟨b, o, none⟩) (r + 1) cc) ∧
          (done 2 = true → σ 41 = .pointer (some ⟨b, o, none⟩)) ∧
          (done 3 = true → σ 42 = .agg (ucs eh)) ∧
          (done 4 = true → σ 43 = .agg (ucs nw)) ∧
          (done 5 = true → StoD D W w' nw)) (by kernel_rfl) (by kernel_rfl) (by kernel_rfl) ?_ ?_ ?_
        · simp
          exact Below.drew (Below.refl _ _)
        · refine ⟨fun done σ w' a hi hA hC ha hσ ⟨hR, r0, r1, r2, r3, r4, r5⟩ => ?_, ?_⟩
          · have e0 := hσ 12 (by simp)
            simp only [List.getElem?_toArray] at e0
            have d5 := hC.at 0 5 _ rfl hi rfl
            have e9 := sub_row (n := 32) (((hR d5).block D hltD).trans HDD.out) (by rw [ucs_size, hcur])
            refine stepG_plain rfl fun K hK => ?_
            go_simp
            refine hK _ _ ?_
            simp [mk, up]
            exact ⟨hR, r1, r2, r3, r4, r5⟩
          refine ⟨fun done σ w' a hi hA hC ha hσ ⟨hR, r0, r1, r2, r3, r4, r5⟩ => ?_, ?_⟩
          · have e0 := hσ 7 (by simp)
            simp only [List.getElem?_toArray] at e0
            have d5 := hC.at 1 5 _ rfl hi rfl
            have e9 := ((hR d5).cell (p := ⟨w.heap.size + 1, 0, none⟩) hltP).trans hcv
            refine stepG_plain rfl fun K hK => ?_
            go_simp
            refine hK _ _ ?_
            simp [mk, up]
            exact ⟨hR, r0, r2, r3, r4, r5⟩
          refine ⟨fun done σ w' a hi hA hC ha hσ ⟨hR, r0, r1, r2, r3, r4, r5⟩ => ?_, ?_⟩
          · simp [After, Region.binds] at hA
            have e0 := r1 (by first | exact hA | exact hA.1 | exact hA.2 | exact hA.2.1 | exact hA.2.2 | exact hA.2.2.1 | exact hA.2.2.2 | exact hA.2.2.2.1 | exact hA.2.2.2.2 | exact hA.2.2.2.2.1 | exact hA.2.2.2.2.2 | exact hA.2.2.2.2.2.1 | exact hA.2.2.2.2.2.2 | exact hA.2.2.2.2.2.2.1 | exact hA.2.2.2.2.2.2.2 | exact hA.2.2.2.2.2.2.2.1 | exact hA.2.2.2.2.2.2.2.2 | exact hA.2.2.2.2.2.2.2.2.1 | exact hA.2.2.2.2.2.2.2.2.2)
            refine stepG_plain rfl fun K hK => ?_
            go_simp
            refine hK _ _ ?_
            simp [mk, up]
            exact ⟨hR, r0, r1, r3, r4, r5⟩
          refine ⟨fun done σ w' a hi hA hC ha hσ ⟨hR, r0, r1, r2, r3, r4, r5⟩ => ?_, ?_⟩
          · simp [After, Region.binds] at hA
            have e0 := r2 (by first | exact hA | exact hA.1 | exact hA.2 | exact hA.2.1 | exact hA.2.2 | exact hA.2.2.1 | exact hA.2.2.2 | exact hA.2.2.2.1 | exact hA.2.2.2.2 | exact hA.2.2.2.2.1 | exact hA.2.2.2.2.2 | exact hA.2.2.2.2.2.1 | exact hA.2.2.2.2.2.2 | exact hA.2.2.2.2.2.2.1 | exact hA.2.2.2.2.2.2.2 | exact hA.2.2.2.2.2.2.2.1 | exact hA.2.2.2.2.2.2.2.2 | exact hA.2.2.2.2.2.2.2.2.1 | exact hA.2.2.2.2.2.2.2.2.2)
            have d5 := hC.at 3 5 _ rfl hi rfl
            have e9 := (sub_of_heap ((hR d5).block b hltb)).trans hsube
            refine stepG_plain rfl fun K hK => ?_
            go_simp
            refine hK _ _ ?_
            simp [mk, up]
            exact ⟨hR, r0, r1, r2, r4, r5⟩
          refine ⟨fun done σ w' a hi hA hC ha hσ ⟨hR, r0, r1, r2, r3, r4, r5⟩ => ?_, ?_⟩
          · simp [After, Region.binds] at hA
            have e0 := r0 (by first | exact hA | exact hA.1 | exact hA.2 | exact hA.2.1 | exact hA.2.2 | exact hA.2.2.1 | exact hA.2.2.2 | exact hA.2.2.2.1 | exact hA.2.2.2.2 | exact hA.2.2.2.2.1 | exact hA.2.2.2.2.2 | exact hA.2.2.2.2.2.1 | exact hA.2.2.2.2.2.2 | exact hA.2.2.2.2.2.2.1 | exact hA.2.2.2.2.2.2.2 | exact hA.2.2.2.2.2.2.2.1 | exact hA.2.2.2.2.2.2.2.2 | exact hA.2.2.2.2.2.2.2.2.1 | exact hA.2.2.2.2.2.2.2.2.2)
            have e1 := r3 (by first | exact hA | exact hA.1 | exact hA.2 | exact hA.2.1 | exact hA.2.2 | exact hA.2.2.1 | exact hA.2.2.2 | exact hA.2.2.2.1 | exact hA.2.2.2.2 | exact hA.2.2.2.2.1 | exact hA.2.2.2.2.2 | exact hA.2.2.2.2.2.1 | exact hA.2.2.2.2.2.2 | exact hA.2.2.2.2.2.2.1 | exact hA.2.2.2.2.2.2.2 | exact hA.2.2.2.2.2.2.2.1 | exact hA.2.2.2.2.2.2.2.2 | exact hA.2.2.2.2.2.2.2.2.1 | exact hA.2.2.2.2.2.2.2.2.2)
            have d5 := hC.at 4 5 _ rfl hi rfl
            refine stepG_plain rfl fun K hK => ?_
            go_simp
            refine (HBOTH.out w').mono ?_
            rintro e w2 ⟨rfl, hb2⟩
            refine hK _ _ ?_
            simp [mk, up]
            exact ⟨fun h => (hR h).trans (hb2.mono (hR h).size), r0, r1, r2, r3, (fun h => by rw [d5] at h; cases h)⟩
          refine ⟨fun done σ w' a hi hA hC ha hσ ⟨hR, r0, r1, r2, r3, r4, r5⟩ => ?_, trivial⟩
          · simp [After, Region.binds] at hA
            have e0 := hσ 12 (by simp)
            simp only [List.getElem?_toArray] at e0
            have e1 := r4 (by first | exact hA | exact hA.1 | exact hA.2 | exact hA.2.1 | exact hA.2.2 | exact hA.2.2.1 | exact hA.2.2.2 | exact hA.2.2.2.1 | exact hA.2.2.2.2 | exact hA.2.2.2.2.1 | exact hA.2.2.2.2.2 | exact hA.2.2.2.2.2.1 | exact hA.2.2.2.2.2.2 | exact hA.2.2.2.2.2.2.1 | exact hA.2.2.2.2.2.2.2 | exact hA.2.2.2.2.2.2.2.1 | exact hA.2.2.2.2.2.2.2.2 | exact hA.2.2.2.2.2.2.2.2.1 | exact hA.2.2.2.2.2.2.2.2.2)
            have q4 : done 4 = true := (by first | exact hA | exact hA.1 | exact hA.2 | exact hA.2.1 | exact hA.2.2 | exact hA.2.2.1 | exact hA.2.2.2 | exact hA.2.2.2.1 | exact hA.2.2.2.2 | exact hA.2.2.2.2.1 | exact hA.2.2.2.2.2 | exact hA.2.2.2.2.2.1 | exact hA.2.2.2.2.2.2 | exact hA.2.2.2.2.2.2.1 | exact hA.2.2.2.2.2.2.2 | exact hA.2.2.2.2.2.2.2.1 | exact hA.2.2.2.2.2.2.2.2 | exact hA.2.2.2.2.2.2.2.2.1 | exact hA.2.2.2.2.2.2.2.2.2)
            have hD5 := ((hR hi).block D hltD).trans HDD.out
            have hcan := can_row (o := 0) (n := 32) hD5 (by rw [ucs_size, hcur]; omega)
            refine stepG_plain rfl fun K hK => ?_
            go_simp
            refine hK undef _ ?_
            simp [mk, up_none]
            exact ⟨r0, r1, r2, r3, r4, ⟨w', hR hi, rfl⟩⟩
        · rintro done σ w' hall hσ ⟨hR, r0, r1, r2, r3, r4, r5⟩
          obtain ⟨w5, hb5, rfl⟩ := r5 (hall 5 (by simp))
          clear hσ r0 r1 r2 r3 r4 r5 hall hR
          simp only [putF, List.foldl_cons, List.foldl_nil, Act.put, List.setIfInBounds_toArray, List.set_cons_succ, List.set_cons_zero]
          obtain ⟨W7, hW7⟩ : ∃ W7, putSub w5 D 0 (ucs nw) = W7 := ⟨_, rfl⟩
          have hd7 : W7.heap[D]? = some (.cells (ucs nw) 35 (0, 0)) := by rw [← hW7]; exact putSub_row ((hb5.block D hltD).trans HDD.out) (by rw [ucs_size, ucs_size, hcur, hnl])
          have c7 : Chg (fun k => k = D) W W7 := by rw [← hW7]; exact (Chg.below (p := fun k => k = D) hb5).trans (Chg.putSub _ _ _) (fun j _ e => e)
          have hp7 : Boxed W7 (w.heap.size + 1) 30 (.slice (some ⟨b, o, none⟩) (r + 1) cc) := (c7.block _ hltP (by omega)).trans HV.out
          have hcp7 := hp7.cell
          have hfp7 := hp7.frozen
          have HD7 := Go.Proofs.Ytjfplkndngmgdaa.hd hd7
          have HP7 := Go.Proofs.Ytjfplkndngmgdaa.hd hp7
          have C7 := Go.Proofs.Ytjfplkndngmgdaa.hd c7
          rw [hW7]
          clear hW7 hb5 hd7 hp7 c7 hcv hsube HBOTH
          gi_wp2
          all_goals (
            refine upf HCH.out C7.out HD7.out HP7.out HV.out HDD.out (r := r) ?_ (fun a e => by cases e; rfl) hbw (by omega) HNW.out e1 hr' hDlt
            first
              | (have h9 := HTL.out; rw [if_pos rfl] at h9; exact h9)
              | (have h9 := HTL.out; rw [if_pos (by assumption), show cc - 1 = 0 by omega] at h9; exact h9)
              | (have h9 := HTL.out; rw [if_neg (by assumption)] at h9; exact h9))
    case done =>
      rintro D' W hD ⟨hdd, -, hch⟩ hK
      simp only [Exit.inBlock, Exit.then]
      have hf32 := upAll32 (oth n i n) (mrk d) path (mrk_length d)
      obtain ⟨fin, hfq⟩ : ∃ fin, (upAll (oth n i n) (mrk d) path).1 = fin := ⟨_, rfl⟩
      rw [hfq] at hdd hf32
      have hR : W.heap[w.heap.size + 2]? = some (.cells (ucs (List.replicate 32 0)) 35 (0, 0)) := (hch.block _ (by omega) (by omega)).trans HRES.out
      have hsub := sub_row (n := 32) hdd (by rw [ucs_size, hf32])
      have hcan := can_row (o := 0) (n := 32) hR (by simp [ucs_size])
      have HR := hd hR
      have HCH := hd hch
      have HK := hd hK
      have HFQ := hd hfq
      clear hR hdd hch hK hfq
      go_wp2_with fail
      have hrow := putSub_row (w := W) (c := ucs fin) HR.out (by simp [ucs_size, hf32])
      have hne : D' ≠ w.heap.size + 2 := by omega
      have hK2 : (putSub W (w.heap.size + 2) 0 (ucs fin)).heap[D']? = some (.deferred (some [])) := (putSub_far _ _ hne).trans HK.out
      refine ⟨by simp, .inl ⟨_, _, rfl, run_takeDeferred hK2, ?_⟩⟩
      refine ⟨_, ret_row2 rfl (n := 32) (by kernel_rfl) _ _ (w.heap.size + 2) 0 (ucs fin) rfl _ rfl (sub_row ((World.putObj_heap_other (fun e => hne e.symm)).trans hrow) (by rw [ucs_size, hf32])), by rw [← HFQ.out]; rfl, ?_⟩
      have h2 : Below w.heap.size w W := HL.out.trans (HCH.out.toBelow (by omega) (fun k hk e => by omega))
      exact (Below.putSub h2 (by omega)).trans ((Chg.grown (grownBy_putObj' _ D' (.deferred none))).toBelow (n := w.heap.size) (by rw [putSub_size]; exact h2.size) (fun k hk e => by
        have e' : D' = k := by simpa using e
        omega))
    case stop =>
      rintro D c pre W _ _ h _
      exact h.elim


set_option maxHeartbeats 2000000 in
set_option maxRecDepth 100000 in
theorem up_err (w : World) (d : Dg) (i n : Int) (m c : Nat) (A : Option Addr) (h : stE i n ≠ 0) :
    Calls Try.prog 20 #[.agg (ucs d), .int .i64 i, .int .i64 n, .slice A m c] w fun e w' => e = .returned (.tuple #[.agg (ucs (List.replicate 32 0)), .int .i64 (stE i n)]) ∧ Below w.heap.size w w' := by
  have HST := hd (fun (W : World) => steps_any W i n)
  obtain ⟨k, hk⟩ : ∃ k, stE i n = k := ⟨_, rfl⟩
  rw [hk] at h HST ⊢
  have h1 : (k == 0) = false := by simpa using h
  have h2 : (k != 0) = true := by simpa using h
  clear h hk
  go_enter Try.func20, Try.ntmps20
  go_upto_region 0 with (fail)
  go_cut [4, 7, 8, 9] from 4 to 9 (fun v4 v7 v8 v9 wx => v4 = .pointer (some ⟨w.heap.size, 0, none⟩) ∧ v7 = .pointer (some ⟨w.heap.size + 1, 0, none⟩) ∧ v8 = .pointer (some ⟨w.heap.size + 2, 0, none⟩) ∧ v9 = .int .i64 0 ∧ Boxed wx (w.heap.size + 1) 30 (.slice A m c) ∧ wx.heap[w.heap.size + 2]? = some (.cells (ucs (List.replicate 32 0)) 35 (0, 0)) ∧ wx.heap.size = w.heap.size + 3 ∧ Below w.heap.size w wx)
  case first =>
    go_wp2_with fail
    go_meet
    have h3 := heap_alloc_new ((w.alloc (.cells (ucs d) 35)).alloc (.cells #[.slice A m c] 30)) (.cells (ucs (List.replicate 32 0)) 35)
    rw [World.size_alloc, World.size_alloc] at h3
    have h2 := Boxed.new (w.alloc (.cells (ucs d) 35)) 30 (.slice A m c)
    rw [World.size_alloc] at h2
    exact ⟨rfl, rfl, rfl, rfl, h2.alloc _, h3, by simp, (((Below.refl _ _).alloc (Nat.le_refl _) _).alloc (by simp) _).alloc (by simp; omega) _⟩
  case rest =>
    obtain ⟨rfl, rfl, rfl, rfl, hP, hD, hz, hB⟩ := hcut
    have HD := hd hD
    have HP := hd hP
    have HB := hd hB
    have hlt1 : w.heap.size + 1 < wc.heap.size := by omega
    have hlt2 : w.heap.size + 2 < wc.heap.size := by omega
    clear hP hD hB
    go_wp2_with (first
      | (go_at_call 13; refine (HST.out _).mono ?_; rintro e w1 ⟨rfl, hb1⟩; have HB1 := hd hb1; have hD1 := (hb1.block _ hlt2).trans HD.out; have hcan := can_row (o := 0) (n := 32) hD1 (by simp [ucs_size]); have HD1 := hd hD1; have hcp1 := (hb1.cell (p := ⟨w.heap.size + 1, 0, none⟩) hlt1).trans HP.out.cell; clear hb1 hD1)
      | (refine wpList_built rfl 35 _ rfl (ucs (List.replicate 32 0)) (by kernel_rfl) ?_))
    have hrow := putSub_row (w := w1) (c := ucs (List.replicate 32 0)) HD1.out (by simp [ucs_size])
    refine bodyPost_ret (ret_row2 rfl (n := 32) (by kernel_rfl) _ _ (w.heap.size + 2) 0 (ucs (List.replicate 32 0)) rfl _ rfl (sub_row hrow (by simp [ucs_size]))) rfl ⟨rfl, Below.putSub (HB.out.trans (HB1.out.mono HB.out.size)) (by omega)⟩

set_option maxHeartbeats 2000000 in
set_option maxRecDepth 100000 in
theorem up_len (w : World) (d : Dg) (i n : Int) (m c : Nat) (A : Option Addr) (h : stE i n = 0) (hm : m ≠ stN i n) :
    Calls Try.prog 20 #[.agg (ucs d), .int .i64 i, .int .i64 n, .slice A m c] w fun e w' => e = .returned (.tuple #[.agg (ucs (List.replicate 32 0)), .int .i64 140]) ∧ Below w.heap.size w w' := by
  have HST := hd (fun (W : World) => steps_any W i n)
  rw [h] at HST
  obtain ⟨k, hk⟩ : ∃ k, stN i n = k := ⟨_, rfl⟩
  rw [hk] at hm HST
  have h1 : ((m : Int) == (k : Int)) = false := by simp; omega
  have h2 : ((m : Int) != (k : Int)) = true := by simp; omega
  clear hm hk h
  go_enter Try.func20, Try.ntmps20
  go_upto_region 0 with (fail)
  go_cut [4, 7, 8, 9] from 4 to 9 (fun v4 v7 v8 v9 wx => v4 = .pointer (some ⟨w.heap.size, 0, none⟩) ∧ v7 = .pointer (some ⟨w.heap.size + 1, 0, none⟩) ∧ v8 = .pointer (some ⟨w.heap.size + 2, 0, none⟩) ∧ v9 = .int .i64 0 ∧ Boxed wx (w.heap.size + 1) 30 (.slice A m c) ∧ wx.heap[w.heap.size + 2]? = some (.cells (ucs (List.replicate 32 0)) 35 (0, 0)) ∧ wx.heap.size = w.heap.size + 3 ∧ Below w.heap.size w wx)
  case first =>
    go_wp2_with fail
    go_meet
    have h3 := heap_alloc_new ((w.alloc (.cells (ucs d) 35)).alloc (.cells #[.slice A m c] 30)) (.cells (ucs (List.replicate 32 0)) 35)
    rw [World.size_alloc, World.size_alloc] at h3
    have h2 := Boxed.new (w.alloc (.cells (ucs d) 35)) 30 (.slice A m c)
    rw [World.size_alloc] at h2
    exact ⟨rfl, rfl, rfl, rfl, h2.alloc _, h3, by simp, (((Below.refl _ _).alloc (Nat.le_refl _) _).alloc (by simp) _).alloc (by simp; omega) _⟩
  case rest =>
    obtain ⟨rfl, rfl, rfl, rfl, hP, hD, hz, hB⟩ := hcut
    have HD := hd hD
    have HP := hd hP
    have HB := hd hB
    have hlt1 : w.heap.size + 1 < wc.heap.size := by omega
    have hlt2 : w.heap.size + 2 < wc.heap.size := by omega
    clear hP hD hB
    go_wp2_with (first
      | (go_at_call 13; refine (HST.out _).mono ?_; rintro e w1 ⟨rfl, hb1⟩; have HB1 := hd hb1; have hD1 := (hb1.block _ hlt2).trans HD.out; have hcan := can_row (o := 0) (n := 32) hD1 (by simp [ucs_size]); have HD1 := hd hD1; have hcp1 := (hb1.cell (p := ⟨w.heap.size + 1, 0, none⟩) hlt1).trans HP.out.cell; clear hb1 hD1)
      | (refine wpList_built rfl 35 _ rfl (ucs (List.replicate 32 0)) (by kernel_rfl) ?_))
    have hrow := putSub_row (w := w1) (c := ucs (List.replicate 32 0)) HD1.out (by simp [ucs_size])
    refine bodyPost_ret (ret_row2 rfl (n := 32) (by kernel_rfl) _ _ (w.heap.size + 2) 0 (ucs (List.replicate 32 0)) rfl _ rfl (sub_row hrow (by simp [ucs_size]))) rfl ⟨rfl, Below.putSub (HB.out.trans (HB1.out.mono HB.out.size)) (by omega)⟩


/-- The answer of Up. -/
def upE (i n : Int) (m : Nat) : Int := if stE i n ≠ 0 then stE i n else if m ≠ stN i n then 140 else 0
def upD (d : Dg) (i n : Int) (path : List Dg) : Dg := if upE i n path.length = 0 then (upAll (oths i.toNat n.toNat) (mrk d) path).1 else List.replicate 32 0
theorem upD_length (d : Dg) (i n : Int) (path : List Dg) : (upD d i n path).length = 32 := by
  unfold upD
  split
  · exact upAll32 _ _ _ (mrk_length d)
  · simp
theorem up_any (w : World) (d : Dg) (hd0 : d.length = 32) (i n : Int) (m c : Nat) (A : Option Addr) (path : List Dg) (hs : SlD w (.slice A m c) path m) :
    Calls Try.prog 20 #[.agg (ucs d), .int .i64 i, .int .i64 n, .slice A m c] w fun e w' => e = .returned (.tuple #[.agg (ucs (upD d i n path)), .int .i64 (upE i n m)]) ∧ Below w.heap.size w w' := by
  have hl := hs.len
  unfold upD
  rw [hl]
  by_cases h0 : stE i n = 0
  · by_cases h1 : m = stN i n
    · have he : upE i n m = 0 := by unfold upE; rw [if_neg (by simpa using h0), if_neg (by simpa using h1)]
      rw [he, if_pos rfl]
      rcases stE_cases i n with ⟨h, _⟩ | ⟨h, _⟩ | ⟨_, a, b, rfl, rfl, h2, h3⟩
      · rw [h0] at h; cases h
      · rw [h0] at h; cases h
      · rw [stN_ok h2 h3] at h1
        exact up_ok w d hd0 a b m c A path hs h2 h3 h1
    · have he : upE i n m = 140 := by unfold upE; rw [if_neg (by simpa using h0), if_pos h1]
      rw [he, if_neg (by decide)]
      exact up_len w d i n m c A h0 h1
  · have he : upE i n m = stE i n := by unfold upE; rw [if_pos h0]
    rw [he, if_neg h0]
    exact up_err w d i n m c A h0

end Go.Proofs.Ytjfplkndngmgdaa

namespace Go.Proofs.Ytjfplkndngmgdaa
set_option maxRecDepth 20000
open Go.RowKit Go.Shelf Sp

attribute [local go_sem ↓] ldD stD
attribute [local go_sem] run_ldA run_stA arrD loadX_at loadY_some storeX_at storeY_true ucs_size ones_ucs sha_length

theorem ret_int {k : IntKind} {a b : Int} (h : a = b) : Ending.returned (.int k a) = .returned (.int k b) := by rw [h]
/-- The answer of Check. -/
def ckE (root d : Dg) (i n : Int) (path : List Dg) : Int := if upE i n path.length ≠ 0 then upE i n path.length else if upD d i n path = root then 0 else 140

set_option maxHeartbeats 2000000 in
set_option maxRecDepth 100000 in
theorem check_any (w : World) (root d : Dg) (hr0 : root.length = 32) (hd0 : d.length = 32) (i n : Int) (m c : Nat) (A : Option Addr) (path : List Dg) (hs : SlD w (.slice A m c) path m) :
    Calls Try.prog 21 #[.agg (ucs root), .agg (ucs d), .int .i64 i, .int .i64 n, .slice A m c] w fun e w' => e = .returned (.int .i64 (ckE root d i n path)) ∧ Below w.heap.size w w' := by
  have hl := hs.len
  have hul := upD_length d i n path
  obtain ⟨U, hU⟩ : ∃ U, upD d i n path = U := ⟨_, rfl⟩
  obtain ⟨E, hE⟩ : ∃ E, upE i n m = E := ⟨_, rfl⟩
  have HUP := hd (fun (W : World) (h : Below w.heap.size w W) => show Calls Try.prog 20 #[.agg (ucs d), .int .i64 i, .int .i64 n, .slice A m c] W fun e w' => e = .returned (.tuple #[.agg (ucs U), .int .i64 E]) ∧ Below W.heap.size W w' from by
    have h1 := up_any W d hd0 i n m c A path (hs.below h)
    rwa [hU, hE] at h1)
  have hck : ckE root d i n path = if E ≠ 0 then E else if U = root then 0 else 140 := by unfold ckE; rw [hl, hE, hU]
  rw [hck]
  obtain ⟨R, hRq⟩ : ∃ R, (if E ≠ 0 then E else if U = root then 0 else 140) = R := ⟨_, rfl⟩
  have HRQ := hd hRq
  rw [hRq]
  rw [hU] at hul
  clear hRq
  clear hs hl hU hE hck
  go_enter Try.func21, Try.ntmps21
  go_upto_region 0 with (fail)
  go_cut [5, 6, 10] from 5 to 10 (fun v5 v6 v10 wx => v5 = .pointer (some ⟨w.heap.size, 0, none⟩) ∧ v6 = .pointer (some ⟨w.heap.size + 1, 0, none⟩) ∧ v10 = .int .i64 0 ∧ wx.heap[w.heap.size]? = some (.cells (ucs root) 35 (0, 0)) ∧ wx.heap[w.heap.size + 1]? = some (.cells (ucs d) 35 (0, 0)) ∧ wx.heap.size = w.heap.size + 2 ∧ Below w.heap.size w wx)
  case first =>
    go_wp2_with fail
    go_meet
    have h2 := heap_alloc_new (w.alloc (.cells (ucs root) 35)) (.cells (ucs d) 35)
    rw [World.size_alloc] at h2
    exact ⟨rfl, rfl, rfl, blk_alloc (heap_alloc_new w _) _, h2, by simp, ((Below.refl _ _).alloc (Nat.le_refl _) _).alloc (by simp) _⟩
  case rest =>
    obtain ⟨rfl, rfl, rfl, hR, hD, hz, hB⟩ := hcut
    have HR := hd hR
    have HB := hd hB
    have hsubd := sub_row (n := 32) hD (by rw [ucs_size, hd0])
    have hlt0 : w.heap.size < wc.heap.size := by omega
    clear hR hD hB hz
    go_upto_region 2 with (go_at_call 20; refine (HUP.out _ HB.out).mono ?_; rintro e w1 ⟨rfl, hb1⟩; have HB1 := hd hb1; have HR1 := hd ((hb1.block _ hlt0).trans HR.out); have hlt1 := Nat.lt_of_lt_of_le hlt0 hb1.size; have hcan := can_row (o := 0) (n := 32) (heap_alloc_new w1 (.cells (ucs (List.replicate 32 0)) 35)) (by simp [ucs_size]); clear hb1)
    have hBF := HB.out.trans (HB1.out.mono HB.out.size)
    obtain ⟨W2, hW2⟩ : ∃ W2, w1.alloc (.cells (ucs U) 35) = W2 := ⟨_, rfl⟩
    have hBW : Below w.heap.size w W2 := by rw [← hW2]; exact hBF.alloc hBF.size _
    have hsU : sub? W2 w1.heap.size 0 32 = some (ucs U) := by rw [← hW2]; exact sub_row (heap_alloc_new w1 _) (by rw [ucs_size, hul])
    have hsR : sub? W2 w.heap.size 0 32 = some (ucs root) := by rw [← hW2]; exact sub_row (blk_alloc HR1.out _) (by rw [ucs_size, hr0])
    rw [hW2]
    have HBW := hd hBW
    clear hBF hcan hW2 hBW
    by_cases hE0 : E = 0
    · subst hE0
      have hq := fun W : World => eq_dig U root hul hr0 W
      by_cases hUR : U = root
      · rw [decide_eq_true hUR] at hq
        have hres := HRQ.out
        rw [if_neg (by decide), if_pos hUR] at hres
        have HRES := hd hres
        clear hUR hres
        go_wp2_with fail
        go_ret
        exact ⟨ret_int HRES.out, HBW.out⟩
      · rw [decide_eq_false hUR] at hq
        have hres := HRQ.out
        rw [if_neg (by decide), if_neg hUR] at hres
        have HRES := hd hres
        clear hUR hres
        go_wp2_with fail
        go_ret
        exact ⟨ret_int HRES.out, HBW.out⟩
    · have hres := HRQ.out
      rw [if_pos hE0] at hres
      have HRES := hd hres
      have hE1 : (E == 0) = false := by simpa using hE0
      clear hE0 hres
      go_wp2_with fail
      go_ret
      exact ⟨ret_int HRES.out, HBW.out⟩

end Go.Proofs.Ytjfplkndngmgdaa

namespace Go.Proofs.Ytjfplkndngmgdaa.Sp
set_option maxRecDepth 20000

theorem upw_get : ∀ (l : List Dg) (i : Nat), i < l.length → (upw l).getD (i / 2) [] = if i % 2 = 0 then (if i + 1 < l.length then bth (l.getD i []) (l.getD (i + 1) []) else l.getD i []) else bth (l.getD (i - 1) []) (l.getD i [])
  | [], i, h => by simp at h
  | [x], i, h => by
    obtain rfl : i = 0 := by simpa using h
    simp [upw]
  | x :: y :: r, 0, _ => by simp [upw]
  | x :: y :: r, 1, _ => by simp [upw]
  | x :: y :: r, i + 2, h => by
    have h1 := upw_get r i (by simpa using h)
    rw [upw, show (i + 2) / 2 = i / 2 + 1 by omega, List.getD_cons_succ, h1]
    have e1 : (i + 2) % 2 = i % 2 := by omega
    rw [e1]
    by_cases h2 : i % 2 = 0
    · rw [if_pos h2, if_pos h2]
      simp only [List.getD_cons_succ, List.length_cons, show i + 2 + 1 = (i + 1) + 1 + 1 by omega, Nat.add_lt_add_iff_right]
    · rw [if_neg h2, if_neg h2]
      obtain ⟨j, rfl⟩ : ∃ j, i = j + 1 := ⟨i - 1, by omega⟩
      simp only [List.getD_cons_succ, Nat.add_sub_cancel, show j + 1 + 2 - 1 = j + 1 + 1 by omega]
theorem pathFrom_cons (l : List Dg) (rs : List (List Dg)) : ∀ (xs : List (Nat × Bool)) (k : Nat), pathFrom (l :: rs) (k + 1) xs = pathFrom rs k xs
  | [], _ => rfl
  | x :: xs, k => by rw [pathFrom, pathFrom, pathFrom_cons l rs xs (k + 1), List.getElem?_cons_succ]
def rootUp (f : Nat) (l : List Dg) : Dg := ((rowsUp f l).getLastD []).headD []
theorem rootUp_step (f : Nat) (l : List Dg) (h : 1 < l.length) : rootUp (f + 1) l = rootUp f (upw l) := by
  unfold rootUp
  rw [rowsUp, if_neg (by omega)]
  have hp : rowsUp f (upw l) ≠ [] := by
    cases f with
    | zero => simp [rowsUp]
    | succ f => rw [rowsUp]; split <;> simp
  cases hq : rowsUp f (upw l) with
  | nil => exact absurd hq hp
  | cons a r => simp [List.getLastD]
theorem up_leads : ∀ (f i : Nat) (l : List Dg), i < l.length → l.length ≤ f → (upAll (oth f i l.length) (l.getD i []) (pathFrom (rowsUp f l) 0 (oth f i l.length))).1 = rootUp f l
  | 0, i, l, hi, hf => by omega
  | f + 1, i, l, hi, hf => by
    by_cases h1 : l.length ≤ 1
    · have h0 : i = 0 := by omega
      subst h0
      rw [oth_done _ _ _ h1, upAll_nil]
      unfold rootUp
      rw [rowsUp_len1 _ _ h1]
      cases l with
      | nil => simp at hi
      | cons a r => simp
    · rw [rootUp_step f l (by omega), rowsUp, if_neg h1, oth, if_neg h1, upAll_cons]
      have hu := upw_length l
      have ih := up_leads f (i / 2) (upw l) (by omega) (by omega)
      rw [hu] at ih
      have hg := upw_get l i hi
      rw [← ih, hg]
      rw [pathFrom, pathFrom_cons]
      by_cases h2 : sib i < l.length
      · have e1 : (upStep (l.getD i [], (if decide (sib i < l.length) = true then [((l :: rowsUp f (upw l))[0]?.getD []).getD (sib i) []] else []) ++ pathFrom (rowsUp f (upw l)) 0 (oth f (i / 2) ((l.length + 1) / 2))) (sib i, decide (sib i < l.length)))
            = ((if i % 2 = 0 then (if i + 1 < l.length then bth (l.getD i []) (l.getD (i + 1) []) else l.getD i []) else bth (l.getD (i - 1) []) (l.getD i [])), pathFrom (rowsUp f (upw l)) 0 (oth f (i / 2) ((l.length + 1) / 2))) := by
          simp only [decide_eq_true h2, if_true, upStep, List.getElem?_cons_zero, Option.getD_some, List.singleton_append, List.headD_cons, List.tail_cons]
          by_cases h3 : i % 2 = 0
          · have hs : sib i = i + 1 := by unfold sib; rw [if_pos h3]
            rw [hs] at h2 ⊢
            rw [if_neg (by omega), if_pos h3, if_pos h2]
          · have hs : sib i = i - 1 := by unfold sib; rw [if_neg h3]
            rw [hs]
            rw [if_pos (by omega), if_neg h3]
        rw [e1]
      · have h3 : i % 2 = 0 := by
          by_cases h3 : i % 2 = 0
          · exact h3
          · exfalso; apply h2; unfold sib; rw [if_neg h3]; omega
        have hs : sib i = i + 1 := by unfold sib; rw [if_pos h3]
        have e1 : (upStep (l.getD i [], (if decide (sib i < l.length) = true then [((l :: rowsUp f (upw l))[0]?.getD []).getD (sib i) []] else []) ++ pathFrom (rowsUp f (upw l)) 0 (oth f (i / 2) ((l.length + 1) / 2))) (sib i, decide (sib i < l.length)))
            = ((if i % 2 = 0 then (if i + 1 < l.length then bth (l.getD i []) (l.getD (i + 1) []) else l.getD i []) else bth (l.getD (i - 1) []) (l.getD i [])), pathFrom (rowsUp f (upw l)) 0 (oth f (i / 2) ((l.length + 1) / 2))) := by
          simp only [decide_eq_false h2, Bool.false_eq_true, if_false, upStep, List.nil_append]
          rw [if_pos h3, if_neg (by omega)]
        rw [e1]
/-- The stage's theorem. -/
theorem leads (ds : List Dg) (i : Nat) (d : Dg) (hd : ds[i]? = some d) : (upAll (oths i ds.length) (mrk d) (pathOf ds i)).1 = ((rows ds).getLastD []).headD [] := by
  have hi := (List.getElem?_eq_some_iff.1 hd).1
  have h := up_leads ds.length i (ds.map mrk) (by simpa using hi) (by simp)
  rw [List.length_map] at h
  have e : (ds.map mrk).getD i [] = mrk d := by rw [List.getD_eq_getElem?_getD, List.getElem?_map, hd]; rfl
  rw [e] at h
  exact h
theorem pathOf_length (ds : List Dg) (i : Nat) : (pathOf ds i).length = steps (oths i ds.length) := pathFrom_length _ _ _

end Go.Proofs.Ytjfplkndngmgdaa.Sp
