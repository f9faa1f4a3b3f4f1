/- ShaCuts: it does not matter how bytes are cut; and texts go there and back: it returns true. -/
import Derived.Test.YtolboolbapbniaaTextsLaw
namespace Go.Proofs.Ytolboolbapbniaa
open Go.RowKit Sp

theorem dig_back (c : UInt8) : 0 ≤ digI c → hexd (digI c).toNat = c ∧ (digI c).toNat < 16 := by
  revert c
  have : ∀ n : Nat, n < 256 → 0 ≤ digI (UInt8.ofNat n) → hexd (digI (UInt8.ofNat n)).toNat = UInt8.ofNat n ∧ (digI (UInt8.ofNat n)).toNat < 16 := by decide +kernel
  intro c h
  have h2 := this c.toNat c.toNat_lt
  rw [UInt8.ofNat_toNat] at h2
  exact h2 h
theorem pk_get (s : List UInt8) (i : Nat) (h : i < 32) : bg (pk s 32) i = pb s i := by
  unfold pk bg
  rw [List.getD_eq_getElem?_getD, List.getElem?_append_left (by simp; omega)]
  simp [h]
theorem hexT_pk (s : List UInt8) (hl : s.length = 64) (h : okB s 32 = true) : hexT (pk s 32) = s := by
  have hlen : (pk s 32).length = 32 := pk_length s 32 (Nat.le_refl _)
  have hall : ∀ i, i < 32 → 0 ≤ digI (bg s (2 * i)) ∧ 0 ≤ digI (bg s (2 * i + 1)) := fun i hi => by
    unfold okB at h
    rw [List.all_eq_true] at h
    have := h i (by simpa using hi)
    simpa using this
  have key : ∀ i, i < 64 → bg (hexT (pk s 32)) i = bg s i := fun i hi => by
    have h3 := hexT_bg (pk s 32) (i / 2) (by omega)
    rw [pk_get s (i / 2) (by omega)] at h3
    obtain ⟨h4, h5⟩ := hall (i / 2) (by omega)
    obtain ⟨h6, h7⟩ := dig_back _ h4
    obtain ⟨h8, h9⟩ := dig_back _ h5
    have e1 : (pb s (i / 2)).toNat = (digI (bg s (2 * (i / 2)))).toNat * 16 + (digI (bg s (2 * (i / 2) + 1))).toNat := by
      unfold pb
      rw [UInt8.toNat_ofNat']
      omega
    rw [e1] at h3
    rcases Nat.mod_two_eq_zero_or_one i with e | e
    · have e2 : 2 * (i / 2) = i := by omega
      have := h3.1
      rw [show ((digI (bg s (2 * (i / 2)))).toNat * 16 + (digI (bg s (2 * (i / 2) + 1))).toNat) / 16 = (digI (bg s (2 * (i / 2)))).toNat by omega, h6, e2] at this
      exact this
    · have e2 : 2 * (i / 2) + 1 = i := by omega
      have := h3.2
      rw [show ((digI (bg s (2 * (i / 2)))).toNat * 16 + (digI (bg s (2 * (i / 2) + 1))).toNat) % 16 = (digI (bg s (2 * (i / 2) + 1))).toNat by omega, h8, e2] at this
      exact this
  apply List.ext_getElem?
  intro i
  by_cases hi : i < 64
  · have := key i hi
    unfold bg at this
    rw [List.getD_eq_getElem?_getD, List.getD_eq_getElem?_getD, List.getElem?_eq_getElem (by rw [hexT_length, hlen]; omega), List.getElem?_eq_getElem (by omega)] at this
    rw [List.getElem?_eq_getElem (by rw [hexT_length, hlen]; omega), List.getElem?_eq_getElem (by omega)]
    simpa using this
  · rw [List.getElem?_eq_none (by rw [hexT_length, hlen]; omega), List.getElem?_eq_none (by omega)]
/-- A text is a digest's, and its digest's text; or it is none. -/
theorem parse_back (s : List UInt8) : ∃ (y : List UInt8) (e : Int), y.length = 32 ∧ parseV s = .tuple #[.agg (ucs y), .int .i64 e] ∧ ((e = 0 ∧ hexT y = s) ∨ e = 110) := by
  by_cases h : s.length = 64 ∧ okB s 32 = true
  · exact ⟨_, 0, pk_length s 32 (Nat.le_refl _), parse_yes s h.1 h.2, .inl ⟨rfl, hexT_pk s h.1 h.2⟩⟩
  · exact ⟨_, 110, List.length_replicate, if_neg h, .inr rfl⟩

theorem infoS : (Try.prog.info? 33).map (fun i => (i.zero, i.size, i.bytes)) = some (some (.slice none 0 0), 1, 24) := by kernel_rfl
theorem HashAt.farAll {w : World} {hb : Nat} {l : List UInt8} {N : Nat → Prop} (h : HashAt w hb l) (hN : ∀ k, N k) : HashFar w hb l N := by
  obtain ⟨A, c, h1, h2, h3, h4⟩ := h
  exact ⟨A, c, h1, h2, fun a e => ⟨(h3 a e).1, (h3 a e).2, hN _⟩, h4⟩
theorem HashFar.mono {w : World} {hb : Nat} {l : List UInt8} {N M : Nat → Prop} (h : HashFar w hb l N) (hN : ∀ k, k < w.heap.size → N k → M k) : HashFar w hb l M := by
  obtain ⟨A, c, h1, h2, h3, h4⟩ := h
  exact ⟨A, c, h1, h2, fun a e => ⟨(h3 a e).1, (h3 a e).2.1, hN _ (h3 a e).2.1 (h3 a e).2.2⟩, h4⟩
theorem flat_snoc (ps : List (Value × List UInt8)) (p : Value × List UInt8) : flat (ps ++ [p]) = flat ps ++ p.2 := by simp [flat]

/-- A slice of a slice. -/
def cutOf (A : Option Addr) (c q : Nat) : Option Addr := if c = q then A else A.map (·.add q)
theorem cut_sl {w : World} {A : Option Addr} {n c : Nat} {l : List UInt8} (hl : l.length = n) (h : SlW w (.slice A n c) l n) (q r : Nat) (h1 : q ≤ r) (h2 : r ≤ n) :
    SlW w (.slice (cutOf A c q) (r - q) (c - q)) ((l.drop q).take (r - q)) (r - q) := by
  obtain ⟨A', c', e, h3, h4, h5, h6⟩ := h
  cases e
  refine ⟨_, _, rfl, by omega, by omega, fun e => ?_, ?_⟩
  · have : A = none := by
      unfold cutOf at e
      split at e
      · exact e
      · simpa using e
    have := h5 this
    omega
  · by_cases h0 : r = q
    · subst h0; simp [bcs]; exact Cl.nil _ _
    · obtain ⟨b, o, rfl, _, _⟩ := h6.at (by intro e; have := congrArg List.length e; rw [bcs_length, hl] at this; simp at this; omega)
      have e1 : cutOf (some ⟨b, o, none⟩) c q = some ⟨b, o + q, none⟩ := by
        unfold cutOf
        rw [if_neg (by omega)]
        simp [add_lit]
      rw [e1, ← bcs_take, ← bcs_drop]
      exact (h6.drop q).take _
/-- Between two cuts. -/
theorem cut_at (q n : Nat) (z : Int) (h : q ≤ n) : ∃ r : Nat, q ≤ r ∧ r ≤ n ∧ (if (q : Int) < (if z < (n : Int) then z else (n : Int)) then (if z < (n : Int) then z else (n : Int)) else (q : Int)) = (r : Int) :=
  ⟨(if (q : Int) < (if z < (n : Int) then z else (n : Int)) then (if z < (n : Int) then z else (n : Int)) else (q : Int)).toNat, by split <;> split at * <;> omega, by split <;> split at * <;> omega, by split <;> split at * <;> omega⟩

theorem own_block {w : World} {base e size n : Nat} {v : Value} {xs : List Value} (h : w.ownsRow base e size v n xs) : ∀ g, v.ownBlock = some g → base ≤ g ∧ g < w.heap.size := by
  intro g hg
  obtain ⟨A, c, rfl, _, _, _, hb, _⟩ := own_cl h
  cases A with
  | none => cases hg
  | some a => cases hg; exact hb a rfl
theorem HashFar.below {w w' : World} {hb : Nat} {l : List UInt8} {N : Nat → Prop} (h : HashFar w hb l N) (hB : Below w.heap.size w w') : HashFar w' hb l N := by
  obtain ⟨A, c, h1, h2, h3, h4⟩ := h
  exact ⟨A, c, (hB.block hb (blk_lt h1)).trans h1, h2.below hB, fun a e => ⟨(h3 a e).1, Nat.lt_of_lt_of_le (h3 a e).2.1 hB.size, (h3 a e).2.2⟩, h4⟩
theorem HashFar.keepRow {w w' : World} {hb : Nat} {l : List UInt8} {N : Nat → Prop} {row : Option Nat} (h : HashFar w hb l N) (hg : w.grownBy w' row) (hk : row ≠ some hb) (hN : ∀ k, row = some k → ¬ N k) : HashAt w' hb l := by
  obtain ⟨A, c, h1, h2, h3, h4⟩ := h
  exact ⟨A, c, (hg.block hb (blk_lt h1) (fun e => hk e.symm)).trans h1, h2.grown hg (fun a e e' => hN _ e'.symm (h3 a e).2.2), fun a e => ⟨(h3 a e).1, Nat.lt_of_lt_of_le (h3 a e).2.1 hg.size⟩, h4⟩
theorem take_cut (l : List UInt8) (q r : Nat) (h : q ≤ r) : l.take q ++ (l.drop q).take (r - q) = l.take r := by
  rw [← List.take_add, show q + (r - q) = r by omega]

attribute [local go_sem ↓] ldSt stSt ldD stD
attribute [local go_sem] run_ldA run_stA arrSt arrD loadX_at loadY_some storeX_at storeY_true wcs_size ones_wcs St.list_length ucs_size ones_ucs dg_length sha_length

set_option maxHeartbeats 2000000 in
set_option maxRecDepth 100000 in
theorem cuts_big (w : World) (A : Option Addr) (n c : Nat) (C : Option Addr) (kn kc : Nat) (s : List UInt8) (h : ¬ (n ≤ 2000 ∧ kn ≤ 30 ∧ s.length ≤ 1000)) :
    Calls Try.prog 6 #[.slice A n c, .slice C kn kc, .string ⟨s.toArray⟩] w fun e w' => e = .returned (.bool true) ∧ Below w.heap.size w w' := by
  have hsz : (⟨s.toArray⟩ : ByteArray).size = s.length := by simp [ByteArray.size]
  rcases (show (2000 : Int) < (n : Int) ∨ ((n : Int) ≤ 2000 ∧ (30 : Int) < (kn : Int)) ∨ ((n : Int) ≤ 2000 ∧ (kn : Int) ≤ 30 ∧ (1000 : Int) < (s.length : Int)) by omega) with h1 | ⟨h1, h2⟩ | ⟨h1, h2, h3⟩ <;> clear h
  all_goals
    go_enter Try.func6, Try.ntmps6
    go_wp2_with (go_at_call 15; refine (works_any _).mono ?_; rintro e w9 ⟨rfl, hb9⟩; have HB9 := hd hb9; clear hb9)
    go_ret
    exact ⟨rfl, HB9.out⟩

set_option maxHeartbeats 2000000 in
set_option maxRecDepth 100000 in
theorem cuts_any (w : World) (A : Option Addr) (n c : Nat) (l : List UInt8) (hl : l.length = n) (hs : SlW w (.slice A n c) l n) (C : Option Addr) (kn kc : Nat) (zs : List Int)
    (hz : ∀ i, i < kn → ∃ b o, C = some ⟨b, o, none⟩ ∧ w.cell? ⟨b, o + i, none⟩ = some (.int .i64 (zs.getD i 0))) (s : List UInt8) (hn : n ≤ 2000) (hk : kn ≤ 30) (hsl : s.length ≤ 1000) :
    Calls Try.prog 6 #[.slice A n c, .slice C kn kc, .string ⟨s.toArray⟩] w fun e w' => e = .returned (.bool true) ∧ Below w.heap.size w w' := by
  have hsz : (⟨s.toArray⟩ : ByteArray).size = s.length := by simp [ByteArray.size]
  have hnI : (n : Int) ≤ 2000 := by omega
  have hkI : (kn : Int) ≤ 30 := by omega
  have hsI : (s.length : Int) ≤ 1000 := by omega
  have HS := hd hs
  have HZ := hd hz
  clear hs hz
  go_enter Try.func6, Try.ntmps6
  go_upto_block 0 with (go_at_call 23; refine (new_any _).mono ?_; rintro e w2 ⟨hb, rfl, hh2, hb2, hB2⟩; have H2 := hd hh2; have HB2 := hd hB2; clear hh2 hB2)
  have hhb : hb < w2.heap.size := H2.out.lt
  go_wp2_with fail
  go_loopw [8, 9, 10] (fun v at_ i wr => ∃ (k q : Nat) (ps : List (Value × List UInt8)), k ≤ kn ∧ q ≤ n ∧ i = .int .i64 k ∧ at_ = .int .i64 q ∧ ps.length = k ∧ flat ps = l.take q ∧ (∀ p ∈ ps, SlW w p.1 p.2 p.2.length) ∧
      wr.ownsRow w2.heap.size 33 1 v k (ps.map (·.1)) ∧ HashFar wr hb (l.take q) (fun j => v.ownBlock ≠ some j) ∧ Below w.heap.size w wr ∧ w2.heap.size ≤ wr.heap.size) (fun _ _ i _ => kn - (intOf i).toNat)
  case atStart =>
    exact ⟨0, 0, [], Nat.zero_le _, Nat.zero_le _, rfl, rfl, rfl, rfl, (fun p hp => by cases hp), ⟨rfl, .inl ⟨rfl, rfl⟩⟩, H2.out.farAll (fun k => nofun), HB2.out, Nat.le_refl _⟩
  case round =>
    obtain ⟨k, q, ps, hkk, hq, rfl, rfl, hpl, hfl, hps, ho, hf, hg, hw2⟩ := hrel
    have HO := hd ho
    have HF := hd hf
    have HG := hd hg
    have HPS := hd hps
    have HFL := hd hfl
    clear ho hf hg hps hfl
    by_cases hlt : k < kn
    · obtain ⟨b, o, rfl, hc⟩ := HZ.out k hlt
      have hltI : (k : Int) < (kn : Int) := by omega
      have hc' := (HG.out.cell (World.block_lt_of_cell? w _ hc)).trans hc
      obtain ⟨r, hqr, hrn, hr⟩ := cut_at q n (zs.getD k 0) hq
      obtain ⟨z, hzk⟩ : ∃ z, zs.getD k 0 = z := ⟨_, rfl⟩
      rw [hzk] at hc' hr
      clear hc hzk
      obtain ⟨_, _, e0, hnc, hcm, hA0, hA1⟩ := HS.out
      cases e0
      have hqrI : (q : Int) ≤ (r : Int) := by omega
      have hrcI : (r : Int) ≤ (c : Int) := by omega
      obtain ⟨X, hX⟩ : ∃ X, (if c = q then A else A.map (·.add q)) = X := ⟨_, rfl⟩
      have HP : Hid (SlW w (.slice X (r - q) (c - q)) ((l.drop q).take (r - q)) (r - q)) := hd (by rw [← hX]; exact cut_sl hl HS.out q r hqr hrn)
      clear hA0 hA1
      have HOa := hd (own_below HO.out ((Below.refl wr.heap.size wr).alloc (Nat.le_refl _) (.cells #[.slice X (r - q) (c - q)] 33)))
      have HC1 : Hid (Cl (wr.alloc (.cells #[.slice X (r - q) (c - q)] 33)) (some ⟨wr.heap.size, 0, none⟩) [.slice X (r - q) (c - q)]) := hd (Cl.mk fun j u hj => by
        cases j with
        | zero => cases hj; exact (Boxed.new _ _ _).cell
        | succ j => cases hj)
      go_upto_region 11 with (at_builtin; refine wpList_app rfl (.tmp 47) (.tmp 52) 40 rfl w2.heap.size 33 (.slice none 0 0) 1 24 (by kernel_rfl) infoS rfl (by decide) u8 k (ps.map (·.1)) rfl HOa.out (some ⟨wr.heap.size, 0, none⟩) 1 1 [.slice X (r - q) (c - q)] rfl rfl (fun e => nomatch e) HC1.out (fun u hu => by rw [List.mem_singleton.1 hu]; rfl) (by unfold maxLen; omega) (by omega) (by simp; omega) ?_; intro v3 w3 ho3 hg3 _; have HO3 := hd ho3; have HG3 := hd hg3; clear ho3 hg3)
      have HB3 : Hid (Below w.heap.size w w3) := hd ((HG.out.alloc HG.out.size _).grown HG3.out (by simp; have := HG.out.size; omega) (fun g e => by have := (own_block HO.out g e).1; have := HB2.out.size; omega))
      have h3s : wr.heap.size < w3.heap.size := by have := HG3.out.size; simp at this; omega
      have HH3 : Hid (HashAt w3 hb (l.take q)) := hd ((HF.out.below ((Below.refl _ _).alloc (Nat.le_refl _) _)).keepRow HG3.out (fun e => by have := (own_block HO.out hb e).1; omega) (fun j e h => h e))
      obtain ⟨_, _, e0, hxc, hxm, hx0, hx1⟩ := HP.out.below HB3.out
      cases e0
      have HW := hd (write_far w3 hb (l.take q) X (r - q) (c - q) ((l.drop q).take (r - q)) HH3.out (by simp; omega) hx0 hx1 (by omega) (by simp; omega))
      clear hx0 hx1 hxc hxm
      go_wp2_with (go_at_call 24; refine HW.out.mono ?_; rintro e w4 ⟨rfl, hh4, hg4⟩; have H4 := hd hh4; have HG4 := hd hg4; clear hh4 hg4)
      go_roundw
      case rel =>
        have h4 := H4.out
        rw [take_cut l q r hqr] at h4
        refine ⟨k + 1, r, ps ++ [(.slice X (r - q) (c - q), (l.drop q).take (r - q))], hlt, hrn, by go_num, rfl, by simp [hpl], by rw [flat_snoc, HFL.out]; exact take_cut l q r hqr, ?_, ?_, ?_, ?_, ?_⟩
        · intro p hp
          rcases List.mem_append.1 hp with hp | hp
          · exact HPS.out p hp
          · rw [List.mem_singleton.1 hp]
            have := HP.out
            rwa [show ((l.drop q).take (r - q)).length = r - q by simp; omega]
        · rw [List.map_append]
          exact own_keep HO3.out (fun g h5 h6 _ => HG4.out.block g h6 (fun e => by have e' : g = hb := (by simpa using e); omega))
        · exact h4.mono (fun j _ h5 h6 => by have := (own_block HO3.out j h6).2; omega)
        · exact HB3.out.grown HG4.out HB3.out.size (fun g e => by cases e; exact hb2)
        · have := HG4.out.size; omega
      case measure => simp [intOf]; omega
    · obtain rfl : k = kn := by omega
      obtain ⟨_, _, e0, hnc, hcm, hA0, hA1⟩ := HS.out
      cases e0
      have hqnI : (q : Int) ≤ (n : Int) := by omega
      obtain ⟨X, hX⟩ : ∃ X, (if c = q then A else A.map (·.add q)) = X := ⟨_, rfl⟩
      have HP : Hid (SlW w (.slice X (n - q) (c - q)) (l.drop q) (n - q)) := hd (by
        have h9 := cut_sl hl HS.out q n hq (Nat.le_refl _)
        rw [List.take_of_length_le (by simp; omega)] at h9
        rw [← hX]; exact h9)
      have hlq : (l.drop q).length = n - q := by simp; omega
      clear hA0 hA1
      have HOa := hd (own_below HO.out ((Below.refl wr.heap.size wr).alloc (Nat.le_refl _) (.cells #[.slice X (n - q) (c - q)] 33)))
      have HC1 : Hid (Cl (wr.alloc (.cells #[.slice X (n - q) (c - q)] 33)) (some ⟨wr.heap.size, 0, none⟩) [.slice X (n - q) (c - q)]) := hd (Cl.mk fun j u hj => by
        cases j with
        | zero => cases hj; exact (Boxed.new _ _ _).cell
        | succ j => cases hj)
      go_upto_region 14 with (at_builtin; refine wpList_app rfl (.tmp 61) (.tmp 65) 40 rfl w2.heap.size 33 (.slice none 0 0) 1 24 (by kernel_rfl) infoS rfl (by decide) u8 k (ps.map (·.1)) rfl HOa.out (some ⟨wr.heap.size, 0, none⟩) 1 1 [.slice X (n - q) (c - q)] rfl rfl (fun e => nomatch e) HC1.out (fun u hu => by rw [List.mem_singleton.1 hu]; rfl) (by unfold maxLen; omega) (by omega) (by simp; omega) ?_; intro v3 w3 ho3 hg3 _; have HO3 := hd ho3; have HG3 := hd hg3; clear ho3 hg3)
      have HB3 : Hid (Below w.heap.size w w3) := hd ((HG.out.alloc HG.out.size _).grown HG3.out (by simp; have := HG.out.size; omega) (fun g e => by have := (own_block HO.out g e).1; have := HB2.out.size; omega))
      have h3s : wr.heap.size < w3.heap.size := by have := HG3.out.size; simp at this; omega
      have HH3 : Hid (HashAt w3 hb (l.take q)) := hd ((HF.out.below ((Below.refl _ _).alloc (Nat.le_refl _) _)).keepRow HG3.out (fun e => by have := (own_block HO.out hb e).1; omega) (fun j e h => h e))
      obtain ⟨_, _, e0, hxc, hxm, hx0, hx1⟩ := HP.out.below HB3.out
      cases e0
      have HW := hd (write_any w3 hb (l.take q) X (n - q) (c - q) (l.drop q) HH3.out hlq hx0 hx1 (by omega) (by simp; omega))
      rw [List.take_append_drop] at HW
      clear hx0 hx1 hxc hxm
      go_upto_region 15 with (go_at_call 24; refine HW.out.mono ?_; rintro e w4 ⟨rfl, hh4, hg4⟩; have H4 := hd hh4; have HG4 := hd hg4; clear hh4 hg4)
      have HB4 : Hid (Below w.heap.size w w4) := hd (HB3.out.grown HG4.out HB3.out.size (fun g e => by cases e; exact hb2))
      have HO4 := hd (own_keep HO3.out (fun g h5 h6 _ => HG4.out.block g h6 (fun e => by have e' : g = hb := (by simpa using e); omega)))
      have HPA : Hid (∃ P pc, v3 = .slice P (k + 1) pc ∧ PartsAt w4 P (ps ++ [(.slice X (n - q) (c - q), l.drop q)])) := hd (by
        obtain ⟨P, pc, e1, _, _, h5, _, _⟩ := own_cl HO4.out
        refine ⟨P, pc, e1, fun j p hj => ⟨?_, ?_⟩⟩
        · have h6 : (ps.map (·.1) ++ [Value.slice X (n - q) (c - q)])[j]? = some p.1 := by
            have : (ps ++ [((.slice X (n - q) (c - q) : Value), l.drop q)]).map (·.1) = ps.map (·.1) ++ [.slice X (n - q) (c - q)] := by simp
            rw [← this, List.getElem?_map, hj]; rfl
          exact h5 j p.1 h6
        · refine SlW.below ?_ HB4.out
          rcases List.mem_append.1 (List.mem_of_getElem? hj) with hp | hp
          · exact HPS.out p hp
          · rw [List.mem_singleton.1 hp, hlq]
            exact HP.out)
      have hflat : flat (ps ++ [((.slice X (n - q) (c - q) : Value), l.drop q)]) = l := by rw [flat_snoc, HFL.out, List.take_append_drop]
      obtain ⟨P, pc, rfl, hPA⟩ := HPA.out
      obtain ⟨pl, hpl2⟩ : ∃ pl, ps ++ [((.slice X (n - q) (c - q) : Value), l.drop q)] = pl := ⟨_, rfl⟩
      have hpl3 : pl.length = k + 1 := by rw [← hpl2]; simp [hpl]
      rw [hpl2] at hPA hflat
      have HPA' := hd hPA
      have hsum := shasum_any w4 A n c l hl (HS.out.below HB4.out) (by omega)
      have hdl : (sha l).length = 32 := sha_length l
      have HOF : Hid (∀ W, Below w4.heap.size w4 W → Calls Try.prog 26 #[.slice P (k + 1) pc] W fun e w' => e = .returned (.agg (ucs (sha l))) ∧ Below W.heap.size W w') := hd (fun W hb => by
        have h9 := of_any W P (k + 1) pc pl hpl3 (HPA'.out.below hb) (by rw [hflat]; omega) (by omega)
        rwa [hflat] at h9)
      have HHS : Hid (∀ W, Below w4.heap.size w4 W → Calls Try.prog 27 #[.pointer (some ⟨hb, 0, none⟩)] W fun e w' => e = .returned (.agg (ucs (sha l))) ∧ Below W.heap.size W w') := hd (fun W hb => sum_any W _ l (H4.out.below hb) (by omega))
      have HHL : Hid (∀ W, Below w4.heap.size w4 W → Calls Try.prog 28 #[.pointer (some ⟨hb, 0, none⟩)] W fun e w' => e = .returned (.int .i64 n) ∧ W = w') := hd (fun W hb => by
        have h9 := len_any W _ l (H4.out.below hb)
        rwa [hl] at h9)
      revert hsum hdl HOF HHS
      generalize sha l = dg0
      intro hsum hdl HOF HHS
      have HSUM := hd hsum
      have htx := fun W => text_any W dg0 hdl
      have hpa := fun W => parse_any W (hexT dg0)
      rw [parse_hexT dg0 hdl] at hpa
      have hpb := fun W => parse_any W s
      obtain ⟨y, ey, hy, hp, hyb⟩ := parse_back s
      rw [hp] at hpb
      have hty := fun W => text_any W y hy
      unfold str at htx hty
      revert htx hpa
      generalize hexT dg0 = t
      intro htx hpa
      have HTX := hd htx
      have HPT := hd hpa
      have HPB := hd hpb
      have HTY := hd hty
      have q1 := eq_digIn dg0 hdl
      clear hsum htx hpa hpb hp hPA hflat hpl2 hpl3 HOa HC1 HH3 HW HG4 HO4 HO3 HG3 HPA HP HPS HFL HO HF HZ HPA' hX
      go_upto_region 16 with (go_at_call 25; refine HSUM.out.mono ?_; rintro e w5 ⟨rfl, hb5⟩; have HB5 := hd hb5; clear hb5)
      have Y12 := hd (show HoldS 32 w5.heap.size 0 (ucs dg0) (w5.alloc (.cells (ucs dg0) 23)) from ⟨sub_alloc_new rfl (by rw [ucs_size, hdl]), by simp⟩)
      go_upto_region 17 with (go_at_call 17; refine (HPB.out _).mono ?_; rintro e w6 ⟨rfl, hb6⟩; have HB6 := hd hb6; clear hb6)
      obtain ⟨wx, hwx⟩ : ∃ W, w6.alloc (.cells (ucs y) 23) = W := ⟨_, rfl⟩
      have X13 := hd (show HoldS 32 w6.heap.size 0 (ucs y) wx by rw [← hwx]; exact ⟨sub_alloc_new rfl (by rw [ucs_size, hy]), by simp⟩)
      have X12 := hd (show HoldS 32 w5.heap.size 0 (ucs dg0) wx by rw [← hwx]; exact (Y12.out.below HB6.out).alloc _)
      have HBX := hd (show Below w4.heap.size w4 wx by
        have h1 := HB5.out.alloc HB5.out.size (.cells (ucs dg0) 23)
        have h2 := h1.trans (HB6.out.mono h1.size)
        rw [← hwx]
        exact h2.alloc h2.size _)
      rw [hwx]
      have s13 := X13.out.sub
      clear HB5 HB6 Y12 hwx HSUM HPB
      go_cut [87] (fun b wy => b = .bool false ∧ Below wx.heap.size wx wy)
      case first =>
        rcases hyb with ⟨rfl, hyt⟩ | rfl
        · rw [hyt] at HTY
          go_wp2_with (first
            | (go_at_call 20; refine (num_any _ _).mono ?_; rintro e w' ⟨rfl, rfl⟩)
            | (go_at_call 16; refine (HTY.out _).mono ?_; rintro e w7 ⟨rfl, hb7⟩; have HB7 := hd hb7; clear hb7))
          go_meet
          exact ⟨rfl, HB7.out⟩
        · go_wp2_with (first
            | (go_at_call 20; refine (num_any _ _).mono ?_; rintro e w' ⟨rfl, rfl⟩))
          go_meet
          exact ⟨rfl, Below.refl _ _⟩
      case rest =>
        obtain ⟨rfl, hbc⟩ := hcut
        have HBC := hd hbc
        have X12c := hd (X12.out.below hbc)
        have s12 := X12c.out.sub
        clear hbc
        go_upto_region 20 with (first
          | (go_at_call 16; refine (HTX.out _).mono ?_; rintro e w7 ⟨rfl, hb7⟩; have HB7 := hd hb7; clear hb7)
          | (go_at_call 17; refine (HPT.out _).mono ?_; rintro e w8 ⟨rfl, hb8⟩; have HB8 := hd hb8; clear hb8))
        obtain ⟨wr2, hwr2⟩ : ∃ W, w8.alloc (.cells (ucs dg0) 23) = W := ⟨_, rfl⟩
        have XX15 := hd (show HoldS 32 w8.heap.size 0 (ucs dg0) wr2 by rw [← hwr2]; exact ⟨sub_alloc_new rfl (by rw [ucs_size, hdl]), by simp⟩)
        have XX12 := hd (show HoldS 32 w5.heap.size 0 (ucs dg0) wr2 by rw [← hwr2]; exact (((X12c.out.below HB7.out).below HB8.out).alloc _))
        have HBZ := hd (show Below w4.heap.size w4 wr2 by
          have h1 := HBX.out.trans (HBC.out.mono HBX.out.size)
          have h2 := h1.trans (HB7.out.mono h1.size)
          have h3 := h2.trans (HB8.out.mono h2.size)
          rw [← hwr2]
          exact h3.alloc h3.size _)
        rw [hwr2]
        clear HBX HBC HB7 HB8 hwr2 X12 X12c HTX HPT s12 s13
        refine wp_region_inv [94, 95, 96, 97, 98, 99, 100, 101, 102, 103, 104, 105, 106, 107, 108, 109, 110, 111, 112, 113, 114, 115, 116, 117, 118, 119, 120, 121, 122, 123, 6] (fun done σ w' => Below wr2.heap.size wr2 w' ∧
          (done 0 = true → σ 94 = .slice P (k + 1) pc) ∧
          (done 1 = true → σ 95 = .agg (ucs dg0)) ∧
          (done 2 = true → σ 96 = .agg (ucs dg0)) ∧
          (done 3 = true → σ 97 = .bool true) ∧
          (done 4 = true → σ 98 = .bool true) ∧
          (done 5 = true → σ 99 = .pointer (some ⟨hb, 0, none⟩)) ∧
          (done 6 = true → σ 100 = .agg (ucs dg0)) ∧
          (done 7 = true → σ 101 = .agg (ucs dg0)) ∧
          (done 8 = true → σ 102 = .bool true) ∧
          (done 9 = true → σ 103 = .bool true) ∧
          (done 10 = true → σ 104 = .bool true) ∧
          (done 11 = true → σ 105 = .pointer (some ⟨hb, 0, none⟩)) ∧
          (done 12 = true → σ 106 = .int .i64 n) ∧
          (done 13 = true → σ 107 = .slice A n c) ∧
          (done 14 = true → σ 108 = .int .i64 n) ∧
          (done 15 = true → σ 109 = .bool true) ∧
          (done 16 = true → σ 110 = .bool true) ∧
          (done 17 = true → σ 111 = .bool true) ∧
          (done 18 = true → σ 112 = .agg (ucs dg0)) ∧
          (done 19 = true → σ 113 = .agg (ucs dg0)) ∧
          (done 20 = true → σ 114 = .bool true) ∧
          (done 21 = true → σ 115 = .bool true) ∧
          (done 22 = true → σ 116 = .bool true) ∧
          (done 23 = true → σ 117 = .int .i64 0) ∧
          (done 24 = true → σ 118 = .int .i64 0) ∧
          (done 25 = true → σ 119 = .bool true) ∧
          (done 26 = true → σ 120 = .bool true) ∧
          (done 27 = true → σ 121 = .bool true) ∧
          (done 28 = true → σ 122 = .bool true) ∧
          (done 29 = true → σ 123 = .bool true) ∧
          (done 30 = true → σ 6 = .bool true)) (by kernel_rfl) (by kernel_rfl) ?_ ?_ ?_
        · simp
          exact Below.drew (Below.refl _ _)
        · refine ⟨fun done σ w' a hi hA hC ha hσ ⟨hR, r0, r1, r2, r3, r4, r5, r6, r7, r8, r9, r10, r11, r12, r13, r14, r15, r16, r17, r18, r19, r20, r21, r22, r23, r24, r25, r26, r27, r28, r29, r30⟩ => ?_, ?_⟩
          · have e0 := hσ 8 (by simp)
            simp only [List.getElem?_toArray] at e0
            refine stepG_plain rfl fun K hK => ?_
            go_simp
            refine hK _ _ ?_
            simp [mk, up]
            exact ⟨hR, r1, r2, r3, r4, r5, r6, r7, r8, r9, r10, r11, r12, r13, r14, r15, r16, r17, r18, r19, r20, r21, r22, r23, r24, r25, r26, r27, r28, r29, r30⟩
          refine ⟨fun done σ w' a hi hA hC ha hσ ⟨hR, r0, r1, r2, r3, r4, r5, r6, r7, r8, r9, r10, r11, r12, r13, r14, r15, r16, r17, r18, r19, r20, r21, r22, r23, r24, r25, r26, r27, r28, r29, r30⟩ => ?_, ?_⟩
          · simp [After, Region.binds] at hA
            have e0 := r0 (by first | exact hA | exact hA.1 | exact hA.2 | exact hA.2.1 | exact hA.2.2 | exact hA.2.2.1 | exact hA.2.2.2 | exact hA.2.2.2.1 | exact hA.2.2.2.2)
            have HX := hd (HOF.out w' (HBZ.out.trans (hR.mono HBZ.out.size)))
            refine stepG_plain rfl fun K hK => ?_
            go_simp
            refine HX.out.mono ?_
            rintro e w2 ⟨rfl, hb2⟩
            refine hK _ _ ?_
            simp [mk, up]
            exact ⟨hR.trans (hb2.mono hR.size), r0, r2, r3, r4, r5, r6, r7, r8, r9, r10, r11, r12, r13, r14, r15, r16, r17, r18, r19, r20, r21, r22, r23, r24, r25, r26, r27, r28, r29, r30⟩
          refine ⟨fun done σ w' a hi hA hC ha hσ ⟨hR, r0, r1, r2, r3, r4, r5, r6, r7, r8, r9, r10, r11, r12, r13, r14, r15, r16, r17, r18, r19, r20, r21, r22, r23, r24, r25, r26, r27, r28, r29, r30⟩ => ?_, ?_⟩
          · have e0 := hσ 12 (by simp)
            simp only [List.getElem?_toArray] at e0
            have e9 := (XX12.out.below hR).sub
            refine stepG_plain rfl fun K hK => ?_
            go_simp
            refine hK _ _ ?_
            simp [mk, up]
            exact ⟨hR, r0, r1, r3, r4, r5, r6, r7, r8, r9, r10, r11, r12, r13, r14, r15, r16, r17, r18, r19, r20, r21, r22, r23, r24, r25, r26, r27, r28, r29, r30⟩
          refine ⟨fun done σ w' a hi hA hC ha hσ ⟨hR, r0, r1, r2, r3, r4, r5, r6, r7, r8, r9, r10, r11, r12, r13, r14, r15, r16, r17, r18, r19, r20, r21, r22, r23, r24, r25, r26, r27, r28, r29, r30⟩ => ?_, ?_⟩
          · simp [After, Region.binds] at hA
            have e0 := r1 (by first | exact hA | exact hA.1 | exact hA.2 | exact hA.2.1 | exact hA.2.2 | exact hA.2.2.1 | exact hA.2.2.2 | exact hA.2.2.2.1 | exact hA.2.2.2.2)
            have e1 := r2 (by first | exact hA | exact hA.1 | exact hA.2 | exact hA.2.1 | exact hA.2.2 | exact hA.2.2.1 | exact hA.2.2.2 | exact hA.2.2.2.1 | exact hA.2.2.2.2)
            have e9 := q1 w'
            refine stepG_plain rfl fun K hK => ?_
            go_simp
            refine hK _ _ ?_
            simp [mk, up]
            exact ⟨hR, r0, r1, r2, r4, r5, r6, r7, r8, r9, r10, r11, r12, r13, r14, r15, r16, r17, r18, r19, r20, r21, r22, r23, r24, r25, r26, r27, r28, r29, r30⟩
          refine ⟨fun done σ w' a hi hA hC ha hσ ⟨hR, r0, r1, r2, r3, r4, r5, r6, r7, r8, r9, r10, r11, r12, r13, r14, r15, r16, r17, r18, r19, r20, r21, r22, r23, r24, r25, r26, r27, r28, r29, r30⟩ => ?_, ?_⟩
          · simp [After, Region.binds] at hA
            have e0 := r3 (by first | exact hA | exact hA.1 | exact hA.2 | exact hA.2.1 | exact hA.2.2 | exact hA.2.2.1 | exact hA.2.2.2 | exact hA.2.2.2.1 | exact hA.2.2.2.2)
            refine stepG_plain rfl fun K hK => ?_
            go_simp
            refine hK _ _ ?_
            simp [mk, up]
            exact ⟨hR, r0, r1, r2, r3, r5, r6, r7, r8, r9, r10, r11, r12, r13, r14, r15, r16, r17, r18, r19, r20, r21, r22, r23, r24, r25, r26, r27, r28, r29, r30⟩
          refine ⟨fun done σ w' a hi hA hC ha hσ ⟨hR, r0, r1, r2, r3, r4, r5, r6, r7, r8, r9, r10, r11, r12, r13, r14, r15, r16, r17, r18, r19, r20, r21, r22, r23, r24, r25, r26, r27, r28, r29, r30⟩ => ?_, ?_⟩
          · simp [After, Region.binds] at hA
            have e0 := hσ 7 (by simp)
            simp only [List.getElem?_toArray] at e0
            refine stepG_on 4 98 rfl rfl (r4 (by first | exact hA | exact hA.1 | exact hA.2 | exact hA.2.1 | exact hA.2.2 | exact hA.2.2.1 | exact hA.2.2.2 | exact hA.2.2.2.1 | exact hA.2.2.2.2)) ha fun K hK => ?_
            go_simp
            refine hK _ _ ?_
            simp [mk, up]
            exact ⟨hR, r0, r1, r2, r3, r4, r6, r7, r8, r9, r10, r11, r12, r13, r14, r15, r16, r17, r18, r19, r20, r21, r22, r23, r24, r25, r26, r27, r28, r29, r30⟩
          refine ⟨fun done σ w' a hi hA hC ha hσ ⟨hR, r0, r1, r2, r3, r4, r5, r6, r7, r8, r9, r10, r11, r12, r13, r14, r15, r16, r17, r18, r19, r20, r21, r22, r23, r24, r25, r26, r27, r28, r29, r30⟩ => ?_, ?_⟩
          · simp [After, Region.binds] at hA
            have e0 := r5 (by first | exact hA | exact hA.1 | exact hA.2 | exact hA.2.1 | exact hA.2.2 | exact hA.2.2.1 | exact hA.2.2.2 | exact hA.2.2.2.1 | exact hA.2.2.2.2)
            have HX := hd (HHS.out w' (HBZ.out.trans (hR.mono HBZ.out.size)))
            refine stepG_on 4 98 rfl rfl (r4 (by first | exact hA | exact hA.1 | exact hA.2 | exact hA.2.1 | exact hA.2.2 | exact hA.2.2.1 | exact hA.2.2.2 | exact hA.2.2.2.1 | exact hA.2.2.2.2)) ha fun K hK => ?_
            go_simp
            refine HX.out.mono ?_
            rintro e w2 ⟨rfl, hb2⟩
            refine hK _ _ ?_
            simp [mk, up]
            exact ⟨hR.trans (hb2.mono hR.size), r0, r1, r2, r3, r4, r5, r7, r8, r9, r10, r11, r12, r13, r14, r15, r16, r17, r18, r19, r20, r21, r22, r23, r24, r25, r26, r27, r28, r29, r30⟩
          refine ⟨fun done σ w' a hi hA hC ha hσ ⟨hR, r0, r1, r2, r3, r4, r5, r6, r7, r8, r9, r10, r11, r12, r13, r14, r15, r16, r17, r18, r19, r20, r21, r22, r23, r24, r25, r26, r27, r28, r29, r30⟩ => ?_, ?_⟩
          · simp [After, Region.binds] at hA
            have e0 := hσ 12 (by simp)
            simp only [List.getElem?_toArray] at e0
            have e9 := (XX12.out.below hR).sub
            refine stepG_on 4 98 rfl rfl (r4 (by first | exact hA | exact hA.1 | exact hA.2 | exact hA.2.1 | exact hA.2.2 | exact hA.2.2.1 | exact hA.2.2.2 | exact hA.2.2.2.1 | exact hA.2.2.2.2)) ha fun K hK => ?_
            go_simp
            refine hK _ _ ?_
            simp [mk, up]
            exact ⟨hR, r0, r1, r2, r3, r4, r5, r6, r8, r9, r10, r11, r12, r13, r14, r15, r16, r17, r18, r19, r20, r21, r22, r23, r24, r25, r26, r27, r28, r29, r30⟩
          refine ⟨fun done σ w' a hi hA hC ha hσ ⟨hR, r0, r1, r2, r3, r4, r5, r6, r7, r8, r9, r10, r11, r12, r13, r14, r15, r16, r17, r18, r19, r20, r21, r22, r23, r24, r25, r26, r27, r28, r29, r30⟩ => ?_, ?_⟩
          · simp [After, Region.binds] at hA
            have e0 := r6 (by first | exact hA | exact hA.1 | exact hA.2 | exact hA.2.1 | exact hA.2.2 | exact hA.2.2.1 | exact hA.2.2.2 | exact hA.2.2.2.1 | exact hA.2.2.2.2)
            have e1 := r7 (by first | exact hA | exact hA.1 | exact hA.2 | exact hA.2.1 | exact hA.2.2 | exact hA.2.2.1 | exact hA.2.2.2 | exact hA.2.2.2.1 | exact hA.2.2.2.2)
            have e9 := q1 w'
            refine stepG_on 4 98 rfl rfl (r4 (by first | exact hA | exact hA.1 | exact hA.2 | exact hA.2.1 | exact hA.2.2 | exact hA.2.2.1 | exact hA.2.2.2 | exact hA.2.2.2.1 | exact hA.2.2.2.2)) ha fun K hK => ?_
            go_simp
            refine hK _ _ ?_
            simp [mk, up]
            exact ⟨hR, r0, r1, r2, r3, r4, r5, r6, r7, r9, r10, r11, r12, r13, r14, r15, r16, r17, r18, r19, r20, r21, r22, r23, r24, r25, r26, r27, r28, r29, r30⟩
          refine ⟨fun done σ w' a hi hA hC ha hσ ⟨hR, r0, r1, r2, r3, r4, r5, r6, r7, r8, r9, r10, r11, r12, r13, r14, r15, r16, r17, r18, r19, r20, r21, r22, r23, r24, r25, r26, r27, r28, r29, r30⟩ => ?_, ?_⟩
          · simp [After, Region.binds] at hA
            have e0 := r4 (by first | exact hA | exact hA.1 | exact hA.2 | exact hA.2.1 | exact hA.2.2 | exact hA.2.2.1 | exact hA.2.2.2 | exact hA.2.2.2.1 | exact hA.2.2.2.2)
            have e1 := r8 (by first | exact hA | exact hA.1 | exact hA.2 | exact hA.2.1 | exact hA.2.2 | exact hA.2.2.1 | exact hA.2.2.2 | exact hA.2.2.2.1 | exact hA.2.2.2.2)
            refine stepG_plain rfl fun K hK => ?_
            go_simp
            refine hK _ _ ?_
            simp [mk, up]
            exact ⟨hR, r0, r1, r2, r3, r4, r5, r6, r7, r8, r10, r11, r12, r13, r14, r15, r16, r17, r18, r19, r20, r21, r22, r23, r24, r25, r26, r27, r28, r29, r30⟩
          refine ⟨fun done σ w' a hi hA hC ha hσ ⟨hR, r0, r1, r2, r3, r4, r5, r6, r7, r8, r9, r10, r11, r12, r13, r14, r15, r16, r17, r18, r19, r20, r21, r22, r23, r24, r25, r26, r27, r28, r29, r30⟩ => ?_, ?_⟩
          · simp [After, Region.binds] at hA
            have e0 := r9 (by first | exact hA | exact hA.1 | exact hA.2 | exact hA.2.1 | exact hA.2.2 | exact hA.2.2.1 | exact hA.2.2.2 | exact hA.2.2.2.1 | exact hA.2.2.2.2)
            refine stepG_plain rfl fun K hK => ?_
            go_simp
            refine hK _ _ ?_
            simp [mk, up]
            exact ⟨hR, r0, r1, r2, r3, r4, r5, r6, r7, r8, r9, r11, r12, r13, r14, r15, r16, r17, r18, r19, r20, r21, r22, r23, r24, r25, r26, r27, r28, r29, r30⟩
          refine ⟨fun done σ w' a hi hA hC ha hσ ⟨hR, r0, r1, r2, r3, r4, r5, r6, r7, r8, r9, r10, r11, r12, r13, r14, r15, r16, r17, r18, r19, r20, r21, r22, r23, r24, r25, r26, r27, r28, r29, r30⟩ => ?_, ?_⟩
          · simp [After, Region.binds] at hA
            have e0 := hσ 7 (by simp)
            simp only [List.getElem?_toArray] at e0
            refine stepG_on 10 104 rfl rfl (r10 (by first | exact hA | exact hA.1 | exact hA.2 | exact hA.2.1 | exact hA.2.2 | exact hA.2.2.1 | exact hA.2.2.2 | exact hA.2.2.2.1 | exact hA.2.2.2.2)) ha fun K hK => ?_
            go_simp
            refine hK _ _ ?_
            simp [mk, up]
            exact ⟨hR, r0, r1, r2, r3, r4, r5, r6, r7, r8, r9, r10, r12, r13, r14, r15, r16, r17, r18, r19, r20, r21, r22, r23, r24, r25, r26, r27, r28, r29, r30⟩
          refine ⟨fun done σ w' a hi hA hC ha hσ ⟨hR, r0, r1, r2, r3, r4, r5, r6, r7, r8, r9, r10, r11, r12, r13, r14, r15, r16, r17, r18, r19, r20, r21, r22, r23, r24, r25, r26, r27, r28, r29, r30⟩ => ?_, ?_⟩
          · simp [After, Region.binds] at hA
            have e0 := r11 (by first | exact hA | exact hA.1 | exact hA.2 | exact hA.2.1 | exact hA.2.2 | exact hA.2.2.1 | exact hA.2.2.2 | exact hA.2.2.2.1 | exact hA.2.2.2.2)
            have HX := hd (HHL.out w' (HBZ.out.trans (hR.mono HBZ.out.size)))
            refine stepG_on 10 104 rfl rfl (r10 (by first | exact hA | exact hA.1 | exact hA.2 | exact hA.2.1 | exact hA.2.2 | exact hA.2.2.1 | exact hA.2.2.2 | exact hA.2.2.2.1 | exact hA.2.2.2.2)) ha fun K hK => ?_
            go_simp
            refine HX.out.mono ?_
            rintro e w2 ⟨rfl, rfl⟩
            refine hK _ _ ?_
            simp [mk, up]
            exact ⟨hR, r0, r1, r2, r3, r4, r5, r6, r7, r8, r9, r10, r11, r13, r14, r15, r16, r17, r18, r19, r20, r21, r22, r23, r24, r25, r26, r27, r28, r29, r30⟩
          refine ⟨fun done σ w' a hi hA hC ha hσ ⟨hR, r0, r1, r2, r3, r4, r5, r6, r7, r8, r9, r10, r11, r12, r13, r14, r15, r16, r17, r18, r19, r20, r21, r22, r23, r24, r25, r26, r27, r28, r29, r30⟩ => ?_, ?_⟩
          · simp [After, Region.binds] at hA
            have e0 := hσ 0 (by simp)
            simp only [List.getElem?_toArray] at e0
            refine stepG_on 10 104 rfl rfl (r10 (by first | exact hA | exact hA.1 | exact hA.2 | exact hA.2.1 | exact hA.2.2 | exact hA.2.2.1 | exact hA.2.2.2 | exact hA.2.2.2.1 | exact hA.2.2.2.2)) ha fun K hK => ?_
            go_simp
            refine hK _ _ ?_
            simp [mk, up]
            exact ⟨hR, r0, r1, r2, r3, r4, r5, r6, r7, r8, r9, r10, r11, r12, r14, r15, r16, r17, r18, r19, r20, r21, r22, r23, r24, r25, r26, r27, r28, r29, r30⟩
          refine ⟨fun done σ w' a hi hA hC ha hσ ⟨hR, r0, r1, r2, r3, r4, r5, r6, r7, r8, r9, r10, r11, r12, r13, r14, r15, r16, r17, r18, r19, r20, r21, r22, r23, r24, r25, r26, r27, r28, r29, r30⟩ => ?_, ?_⟩
          · simp [After, Region.binds] at hA
            have e0 := r13 (by first | exact hA | exact hA.1 | exact hA.2 | exact hA.2.1 | exact hA.2.2 | exact hA.2.2.1 | exact hA.2.2.2 | exact hA.2.2.2.1 | exact hA.2.2.2.2)
            refine stepG_on 10 104 rfl rfl (r10 (by first | exact hA | exact hA.1 | exact hA.2 | exact hA.2.1 | exact hA.2.2 | exact hA.2.2.1 | exact hA.2.2.2 | exact hA.2.2.2.1 | exact hA.2.2.2.2)) ha fun K hK => ?_
            go_simp
            refine hK _ _ ?_
            simp [mk, up]
            exact ⟨hR, r0, r1, r2, r3, r4, r5, r6, r7, r8, r9, r10, r11, r12, r13, r15, r16, r17, r18, r19, r20, r21, r22, r23, r24, r25, r26, r27, r28, r29, r30⟩
          refine ⟨fun done σ w' a hi hA hC ha hσ ⟨hR, r0, r1, r2, r3, r4, r5, r6, r7, r8, r9, r10, r11, r12, r13, r14, r15, r16, r17, r18, r19, r20, r21, r22, r23, r24, r25, r26, r27, r28, r29, r30⟩ => ?_, ?_⟩
          · simp [After, Region.binds] at hA
            have e0 := r12 (by first | exact hA | exact hA.1 | exact hA.2 | exact hA.2.1 | exact hA.2.2 | exact hA.2.2.1 | exact hA.2.2.2 | exact hA.2.2.2.1 | exact hA.2.2.2.2)
            have e1 := r14 (by first | exact hA | exact hA.1 | exact hA.2 | exact hA.2.1 | exact hA.2.2 | exact hA.2.2.1 | exact hA.2.2.2 | exact hA.2.2.2.1 | exact hA.2.2.2.2)
            refine stepG_on 10 104 rfl rfl (r10 (by first | exact hA | exact hA.1 | exact hA.2 | exact hA.2.1 | exact hA.2.2 | exact hA.2.2.1 | exact hA.2.2.2 | exact hA.2.2.2.1 | exact hA.2.2.2.2)) ha fun K hK => ?_
            go_simp
            refine hK _ _ ?_
            simp [mk, up]
            exact ⟨hR, r0, r1, r2, r3, r4, r5, r6, r7, r8, r9, r10, r11, r12, r13, r14, r16, r17, r18, r19, r20, r21, r22, r23, r24, r25, r26, r27, r28, r29, r30⟩
          refine ⟨fun done σ w' a hi hA hC ha hσ ⟨hR, r0, r1, r2, r3, r4, r5, r6, r7, r8, r9, r10, r11, r12, r13, r14, r15, r16, r17, r18, r19, r20, r21, r22, r23, r24, r25, r26, r27, r28, r29, r30⟩ => ?_, ?_⟩
          · simp [After, Region.binds] at hA
            have e0 := r10 (by first | exact hA | exact hA.1 | exact hA.2 | exact hA.2.1 | exact hA.2.2 | exact hA.2.2.1 | exact hA.2.2.2 | exact hA.2.2.2.1 | exact hA.2.2.2.2)
            have e1 := r15 (by first | exact hA | exact hA.1 | exact hA.2 | exact hA.2.1 | exact hA.2.2 | exact hA.2.2.1 | exact hA.2.2.2 | exact hA.2.2.2.1 | exact hA.2.2.2.2)
            refine stepG_plain rfl fun K hK => ?_
            go_simp
            refine hK _ _ ?_
            simp [mk, up]
            exact ⟨hR, r0, r1, r2, r3, r4, r5, r6, r7, r8, r9, r10, r11, r12, r13, r14, r15, r17, r18, r19, r20, r21, r22, r23, r24, r25, r26, r27, r28, r29, r30⟩
          refine ⟨fun done σ w' a hi hA hC ha hσ ⟨hR, r0, r1, r2, r3, r4, r5, r6, r7, r8, r9, r10, r11, r12, r13, r14, r15, r16, r17, r18, r19, r20, r21, r22, r23, r24, r25, r26, r27, r28, r29, r30⟩ => ?_, ?_⟩
          · simp [After, Region.binds] at hA
            have e0 := r16 (by first | exact hA | exact hA.1 | exact hA.2 | exact hA.2.1 | exact hA.2.2 | exact hA.2.2.1 | exact hA.2.2.2 | exact hA.2.2.2.1 | exact hA.2.2.2.2)
            refine stepG_plain rfl fun K hK => ?_
            go_simp
            refine hK _ _ ?_
            simp [mk, up]
            exact ⟨hR, r0, r1, r2, r3, r4, r5, r6, r7, r8, r9, r10, r11, r12, r13, r14, r15, r16, r18, r19, r20, r21, r22, r23, r24, r25, r26, r27, r28, r29, r30⟩
          refine ⟨fun done σ w' a hi hA hC ha hσ ⟨hR, r0, r1, r2, r3, r4, r5, r6, r7, r8, r9, r10, r11, r12, r13, r14, r15, r16, r17, r18, r19, r20, r21, r22, r23, r24, r25, r26, r27, r28, r29, r30⟩ => ?_, ?_⟩
          · simp [After, Region.binds] at hA
            have e0 := hσ 15 (by simp)
            simp only [List.getElem?_toArray] at e0
            have e9 := (XX15.out.below hR).sub
            refine stepG_on 17 111 rfl rfl (r17 (by first | exact hA | exact hA.1 | exact hA.2 | exact hA.2.1 | exact hA.2.2 | exact hA.2.2.1 | exact hA.2.2.2 | exact hA.2.2.2.1 | exact hA.2.2.2.2)) ha fun K hK => ?_
            go_simp
            refine hK _ _ ?_
            simp [mk, up]
            exact ⟨hR, r0, r1, r2, r3, r4, r5, r6, r7, r8, r9, r10, r11, r12, r13, r14, r15, r16, r17, r19, r20, r21, r22, r23, r24, r25, r26, r27, r28, r29, r30⟩
          refine ⟨fun done σ w' a hi hA hC ha hσ ⟨hR, r0, r1, r2, r3, r4, r5, r6, r7, r8, r9, r10, r11, r12, r13, r14, r15, r16, r17, r18, r19, r20, r21, r22, r23, r24, r25, r26, r27, r28, r29, r30⟩ => ?_, ?_⟩
          · simp [After, Region.binds] at hA
            have e0 := hσ 12 (by simp)
            simp only [List.getElem?_toArray] at e0
            have e9 := (XX12.out.below hR).sub
            refine stepG_on 17 111 rfl rfl (r17 (by first | exact hA | exact hA.1 | exact hA.2 | exact hA.2.1 | exact hA.2.2 | exact hA.2.2.1 | exact hA.2.2.2 | exact hA.2.2.2.1 | exact hA.2.2.2.2)) ha fun K hK => ?_
            go_simp
            refine hK _ _ ?_
            simp [mk, up]
            exact ⟨hR, r0, r1, r2, r3, r4, r5, r6, r7, r8, r9, r10, r11, r12, r13, r14, r15, r16, r17, r18, r20, r21, r22, r23, r24, r25, r26, r27, r28, r29, r30⟩
          refine ⟨fun done σ w' a hi hA hC ha hσ ⟨hR, r0, r1, r2, r3, r4, r5, r6, r7, r8, r9, r10, r11, r12, r13, r14, r15, r16, r17, r18, r19, r20, r21, r22, r23, r24, r25, r26, r27, r28, r29, r30⟩ => ?_, ?_⟩
          · simp [After, Region.binds] at hA
            have e0 := r18 (by first | exact hA | exact hA.1 | exact hA.2 | exact hA.2.1 | exact hA.2.2 | exact hA.2.2.1 | exact hA.2.2.2 | exact hA.2.2.2.1 | exact hA.2.2.2.2)
            have e1 := r19 (by first | exact hA | exact hA.1 | exact hA.2 | exact hA.2.1 | exact hA.2.2 | exact hA.2.2.1 | exact hA.2.2.2 | exact hA.2.2.2.1 | exact hA.2.2.2.2)
            have e9 := q1 w'
            refine stepG_on 17 111 rfl rfl (r17 (by first | exact hA | exact hA.1 | exact hA.2 | exact hA.2.1 | exact hA.2.2 | exact hA.2.2.1 | exact hA.2.2.2 | exact hA.2.2.2.1 | exact hA.2.2.2.2)) ha fun K hK => ?_
            go_simp
            refine hK _ _ ?_
            simp [mk, up]
            exact ⟨hR, r0, r1, r2, r3, r4, r5, r6, r7, r8, r9, r10, r11, r12, r13, r14, r15, r16, r17, r18, r19, r21, r22, r23, r24, r25, r26, r27, r28, r29, r30⟩
          refine ⟨fun done σ w' a hi hA hC ha hσ ⟨hR, r0, r1, r2, r3, r4, r5, r6, r7, r8, r9, r10, r11, r12, r13, r14, r15, r16, r17, r18, r19, r20, r21, r22, r23, r24, r25, r26, r27, r28, r29, r30⟩ => ?_, ?_⟩
          · simp [After, Region.binds] at hA
            have e0 := r17 (by first | exact hA | exact hA.1 | exact hA.2 | exact hA.2.1 | exact hA.2.2 | exact hA.2.2.1 | exact hA.2.2.2 | exact hA.2.2.2.1 | exact hA.2.2.2.2)
            have e1 := r20 (by first | exact hA | exact hA.1 | exact hA.2 | exact hA.2.1 | exact hA.2.2 | exact hA.2.2.1 | exact hA.2.2.2 | exact hA.2.2.2.1 | exact hA.2.2.2.2)
            refine stepG_plain rfl fun K hK => ?_
            go_simp
            refine hK _ _ ?_
            simp [mk, up]
            exact ⟨hR, r0, r1, r2, r3, r4, r5, r6, r7, r8, r9, r10, r11, r12, r13, r14, r15, r16, r17, r18, r19, r20, r22, r23, r24, r25, r26, r27, r28, r29, r30⟩
          refine ⟨fun done σ w' a hi hA hC ha hσ ⟨hR, r0, r1, r2, r3, r4, r5, r6, r7, r8, r9, r10, r11, r12, r13, r14, r15, r16, r17, r18, r19, r20, r21, r22, r23, r24, r25, r26, r27, r28, r29, r30⟩ => ?_, ?_⟩
          · simp [After, Region.binds] at hA
            have e0 := r21 (by first | exact hA | exact hA.1 | exact hA.2 | exact hA.2.1 | exact hA.2.2 | exact hA.2.2.1 | exact hA.2.2.2 | exact hA.2.2.2.1 | exact hA.2.2.2.2)
            refine stepG_plain rfl fun K hK => ?_
            go_simp
            refine hK _ _ ?_
            simp [mk, up]
            exact ⟨hR, r0, r1, r2, r3, r4, r5, r6, r7, r8, r9, r10, r11, r12, r13, r14, r15, r16, r17, r18, r19, r20, r21, r23, r24, r25, r26, r27, r28, r29, r30⟩
          refine ⟨fun done σ w' a hi hA hC ha hσ ⟨hR, r0, r1, r2, r3, r4, r5, r6, r7, r8, r9, r10, r11, r12, r13, r14, r15, r16, r17, r18, r19, r20, r21, r22, r23, r24, r25, r26, r27, r28, r29, r30⟩ => ?_, ?_⟩
          · simp [After, Region.binds] at hA
            have e0 := hσ 16 (by simp)
            simp only [List.getElem?_toArray] at e0
            refine stepG_on 22 116 rfl rfl (r22 (by first | exact hA | exact hA.1 | exact hA.2 | exact hA.2.1 | exact hA.2.2 | exact hA.2.2.1 | exact hA.2.2.2 | exact hA.2.2.2.1 | exact hA.2.2.2.2)) ha fun K hK => ?_
            go_simp
            refine hK _ _ ?_
            simp [mk, up]
            exact ⟨hR, r0, r1, r2, r3, r4, r5, r6, r7, r8, r9, r10, r11, r12, r13, r14, r15, r16, r17, r18, r19, r20, r21, r22, r24, r25, r26, r27, r28, r29, r30⟩
          refine ⟨fun done σ w' a hi hA hC ha hσ ⟨hR, r0, r1, r2, r3, r4, r5, r6, r7, r8, r9, r10, r11, r12, r13, r14, r15, r16, r17, r18, r19, r20, r21, r22, r23, r24, r25, r26, r27, r28, r29, r30⟩ => ?_, ?_⟩
          · simp [After, Region.binds] at hA
            have e0 := r23 (by first | exact hA | exact hA.1 | exact hA.2 | exact hA.2.1 | exact hA.2.2 | exact hA.2.2.1 | exact hA.2.2.2 | exact hA.2.2.2.1 | exact hA.2.2.2.2)
            refine stepG_on 22 116 rfl rfl (r22 (by first | exact hA | exact hA.1 | exact hA.2 | exact hA.2.1 | exact hA.2.2 | exact hA.2.2.1 | exact hA.2.2.2 | exact hA.2.2.2.1 | exact hA.2.2.2.2)) ha fun K hK => ?_
            go_simp
            refine (num_any w' 0).mono ?_
            rintro e w2 ⟨rfl, rfl⟩
            refine hK _ _ ?_
            simp [mk, up]
            exact ⟨hR, r0, r1, r2, r3, r4, r5, r6, r7, r8, r9, r10, r11, r12, r13, r14, r15, r16, r17, r18, r19, r20, r21, r22, r23, r25, r26, r27, r28, r29, r30⟩
          refine ⟨fun done σ w' a hi hA hC ha hσ ⟨hR, r0, r1, r2, r3, r4, r5, r6, r7, r8, r9, r10, r11, r12, r13, r14, r15, r16, r17, r18, r19, r20, r21, r22, r23, r24, r25, r26, r27, r28, r29, r30⟩ => ?_, ?_⟩
          · simp [After, Region.binds] at hA
            have e0 := r24 (by first | exact hA | exact hA.1 | exact hA.2 | exact hA.2.1 | exact hA.2.2 | exact hA.2.2.1 | exact hA.2.2.2 | exact hA.2.2.2.1 | exact hA.2.2.2.2)
            refine stepG_on 22 116 rfl rfl (r22 (by first | exact hA | exact hA.1 | exact hA.2 | exact hA.2.1 | exact hA.2.2 | exact hA.2.2.1 | exact hA.2.2.2 | exact hA.2.2.2.1 | exact hA.2.2.2.2)) ha fun K hK => ?_
            go_simp
            refine hK _ _ ?_
            simp [mk, up]
            exact ⟨hR, r0, r1, r2, r3, r4, r5, r6, r7, r8, r9, r10, r11, r12, r13, r14, r15, r16, r17, r18, r19, r20, r21, r22, r23, r24, r26, r27, r28, r29, r30⟩
          refine ⟨fun done σ w' a hi hA hC ha hσ ⟨hR, r0, r1, r2, r3, r4, r5, r6, r7, r8, r9, r10, r11, r12, r13, r14, r15, r16, r17, r18, r19, r20, r21, r22, r23, r24, r25, r26, r27, r28, r29, r30⟩ => ?_, ?_⟩
          · simp [After, Region.binds] at hA
            have e0 := r22 (by first | exact hA | exact hA.1 | exact hA.2 | exact hA.2.1 | exact hA.2.2 | exact hA.2.2.1 | exact hA.2.2.2 | exact hA.2.2.2.1 | exact hA.2.2.2.2)
            have e1 := r25 (by first | exact hA | exact hA.1 | exact hA.2 | exact hA.2.1 | exact hA.2.2 | exact hA.2.2.1 | exact hA.2.2.2 | exact hA.2.2.2.1 | exact hA.2.2.2.2)
            refine stepG_plain rfl fun K hK => ?_
            go_simp
            refine hK _ _ ?_
            simp [mk, up]
            exact ⟨hR, r0, r1, r2, r3, r4, r5, r6, r7, r8, r9, r10, r11, r12, r13, r14, r15, r16, r17, r18, r19, r20, r21, r22, r23, r24, r25, r27, r28, r29, r30⟩
          refine ⟨fun done σ w' a hi hA hC ha hσ ⟨hR, r0, r1, r2, r3, r4, r5, r6, r7, r8, r9, r10, r11, r12, r13, r14, r15, r16, r17, r18, r19, r20, r21, r22, r23, r24, r25, r26, r27, r28, r29, r30⟩ => ?_, ?_⟩
          · simp [After, Region.binds] at hA
            have e0 := r26 (by first | exact hA | exact hA.1 | exact hA.2 | exact hA.2.1 | exact hA.2.2 | exact hA.2.2.1 | exact hA.2.2.2 | exact hA.2.2.2.1 | exact hA.2.2.2.2)
            refine stepG_plain rfl fun K hK => ?_
            go_simp
            refine hK _ _ ?_
            simp [mk, up]
            exact ⟨hR, r0, r1, r2, r3, r4, r5, r6, r7, r8, r9, r10, r11, r12, r13, r14, r15, r16, r17, r18, r19, r20, r21, r22, r23, r24, r25, r26, r28, r29, r30⟩
          refine ⟨fun done σ w' a hi hA hC ha hσ ⟨hR, r0, r1, r2, r3, r4, r5, r6, r7, r8, r9, r10, r11, r12, r13, r14, r15, r16, r17, r18, r19, r20, r21, r22, r23, r24, r25, r26, r27, r28, r29, r30⟩ => ?_, ?_⟩
          · simp [After, Region.binds] at hA
            refine stepG_on 27 121 rfl rfl (r27 (by first | exact hA | exact hA.1 | exact hA.2 | exact hA.2.1 | exact hA.2.2 | exact hA.2.2.1 | exact hA.2.2.2 | exact hA.2.2.2.1 | exact hA.2.2.2.2)) ha fun K hK => ?_
            go_simp
            refine (works_any w').mono ?_
            rintro e w2 ⟨rfl, hb2⟩
            refine hK _ _ ?_
            simp [mk, up]
            exact ⟨hR.trans (hb2.mono hR.size), r0, r1, r2, r3, r4, r5, r6, r7, r8, r9, r10, r11, r12, r13, r14, r15, r16, r17, r18, r19, r20, r21, r22, r23, r24, r25, r26, r27, r29, r30⟩
          refine ⟨fun done σ w' a hi hA hC ha hσ ⟨hR, r0, r1, r2, r3, r4, r5, r6, r7, r8, r9, r10, r11, r12, r13, r14, r15, r16, r17, r18, r19, r20, r21, r22, r23, r24, r25, r26, r27, r28, r29, r30⟩ => ?_, ?_⟩
          · simp [After, Region.binds] at hA
            have e0 := r27 (by first | exact hA | exact hA.1 | exact hA.2 | exact hA.2.1 | exact hA.2.2 | exact hA.2.2.1 | exact hA.2.2.2 | exact hA.2.2.2.1 | exact hA.2.2.2.2)
            have e1 := r28 (by first | exact hA | exact hA.1 | exact hA.2 | exact hA.2.1 | exact hA.2.2 | exact hA.2.2.1 | exact hA.2.2.2 | exact hA.2.2.2.1 | exact hA.2.2.2.2)
            refine stepG_plain rfl fun K hK => ?_
            go_simp
            refine hK _ _ ?_
            simp [mk, up]
            exact ⟨hR, r0, r1, r2, r3, r4, r5, r6, r7, r8, r9, r10, r11, r12, r13, r14, r15, r16, r17, r18, r19, r20, r21, r22, r23, r24, r25, r26, r27, r28, r30⟩
          refine ⟨fun done σ w' a hi hA hC ha hσ ⟨hR, r0, r1, r2, r3, r4, r5, r6, r7, r8, r9, r10, r11, r12, r13, r14, r15, r16, r17, r18, r19, r20, r21, r22, r23, r24, r25, r26, r27, r28, r29, r30⟩ => ?_, trivial⟩
          · simp [After, Region.binds] at hA
            have e0 := r29 (by first | exact hA | exact hA.1 | exact hA.2 | exact hA.2.1 | exact hA.2.2 | exact hA.2.2.1 | exact hA.2.2.2 | exact hA.2.2.2.1 | exact hA.2.2.2.2)
            refine stepG_plain rfl fun K hK => ?_
            go_simp
            refine hK _ _ ?_
            simp [mk, up]
            exact ⟨hR, r0, r1, r2, r3, r4, r5, r6, r7, r8, r9, r10, r11, r12, r13, r14, r15, r16, r17, r18, r19, r20, r21, r22, r23, r24, r25, r26, r27, r28, r29⟩
        · rintro done σ w' hall hσ ⟨hR, r0, r1, r2, r3, r4, r5, r6, r7, r8, r9, r10, r11, r12, r13, r14, r15, r16, r17, r18, r19, r20, r21, r22, r23, r24, r25, r26, r27, r28, r29, r30⟩
          have h30 := r30 (hall 30 (by simp))
          simp only [putF, List.foldl_cons, List.foldl_nil, Act.put, List.setIfInBounds_toArray, List.set_cons_succ, List.set_cons_zero]
          rw [h30]
          clear hσ r0 r1 r2 r3 r4 r5 r6 r7 r8 r9 r10 r11 r12 r13 r14 r15 r16 r17 r18 r19 r20 r21 r22 r23 r24 r25 r26 r27 r28 r29 r30 hall h30
          have HR := hd hR
          clear hR
          go_wp2_with fail
          go_ret
          have h1 := HB4.out.trans (HBZ.out.mono HB4.out.size)
          exact ⟨rfl, h1.trans (HR.out.mono h1.size)⟩

end Go.Proofs.Ytolboolbapbniaa
