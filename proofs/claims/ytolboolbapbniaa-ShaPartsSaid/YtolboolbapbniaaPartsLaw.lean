/- ShaParts: the digest of parts: it returns true. -/
import Derived.Test.YtolboolbapbniaaRow
namespace Go.Proofs.Ytolboolbapbniaa
open Go.RowKit Sp

theorem infoS : (Try.prog.info? 33).map (fun i => (i.zero, i.size, i.bytes)) = some (some (.slice none 0 0), 1, 24) := by kernel_rfl
theorem flat_same (qs ps : List (Value × List UInt8)) (h : qs.map (·.2) = ps.map (·.2)) : flat qs = flat ps := by
  unfold flat
  rw [List.flatMap_def, List.flatMap_def, h]
/-- The copies that were made, each in a row of its own. -/
def Copies (B : Nat) (w : World) (va vm : Value) (qs : List (Value × List UInt8)) : Prop :=
  ∀ q ∈ qs, ∃ b, q.1.ownBlock = some b ∧ B ≤ b ∧ b < w.heap.size ∧ va.ownBlock ≠ some b ∧ vm.ownBlock ≠ some b ∧ SlW w q.1 q.2 q.2.length
theorem Copies.onto {B : Nat} {w w' : World} {va vm va' vm' : Value} {qs : List (Value × List UInt8)} {row : Option Nat} (h : Copies B w va vm qs) (hg : w.grownBy w' row) (hr : row = va.ownBlock ∨ row = vm.ownBlock ∨ ∀ b, row = some b → w.heap.size ≤ b)
    (ha : va'.ownBlock = va.ownBlock ∨ ∃ g, va'.ownBlock = some g ∧ w.heap.size ≤ g) (hm : vm'.ownBlock = vm.ownBlock ∨ ∃ g, vm'.ownBlock = some g ∧ w.heap.size ≤ g) : Copies B w' va' vm' qs := fun q hq => by
  obtain ⟨b, h1, h2, h3, h4, h5, h6⟩ := h q hq
  refine ⟨b, h1, h2, Nat.lt_of_lt_of_le h3 hg.size, ?_, ?_, h6.grown hg fun b' e => ?_⟩
  · rcases ha with e | ⟨g, e, hg'⟩
    · rw [e]; exact h4
    · rw [e]; intro e'; cases e'; omega
  · rcases hm with e | ⟨g, e, hg'⟩
    · rw [e]; exact h5
    · rw [e]; intro e'; cases e'; omega
  · rw [h1] at e
    cases e
    rcases hr with e | e | e
    · rw [e]; exact h4
    · rw [e]; exact h5
    · intro e'; have := e _ e'; omega

/-- What holds when k parts are taken. -/
def PInv (w wr : World) (ps : List (Value × List UInt8)) (k m : Nat) (qs : List (Value × List UInt8)) (va vm : Value) : Prop :=
  (flat (ps.take k)).length = m ∧ m ≤ 300 * k ∧ wr.ownsRow w.heap.size 5 1 va m (bcs (flat (ps.take k))) ∧
      wr.ownsRow w.heap.size 33 1 vm k (qs.map (·.1)) ∧ qs.map (·.2) = (ps.take k).map (·.2) ∧ Copies w.heap.size wr va vm qs ∧ (∀ b, va.ownBlock = some b → vm.ownBlock ≠ some b) ∧ Below w.heap.size w wr
theorem parts_step {w wr w3 w4 w5 : World} {ps qs : List (Value × List UInt8)} {k m n1 : Nat} {va vm v3 v4 v5 : Value} {p : Value × List UInt8} (h : PInv w wr ps k m qs va vm) (hpk : ps[k]? = some p) (hn1 : p.2.length = n1) (h300 : n1 ≤ 300)
    (ho3 : w3.ownsRow w.heap.size 5 1 v3 (m + n1) (bcs (flat (ps.take k)) ++ bcs p.2)) (hg3 : wr.grownBy w3 va.ownBlock) (hat3 : v3.ownBlock = va.ownBlock ∨ v3.ownBlock = some wr.heap.size)
    (ho4 : w4.ownsRow w3.heap.size 5 1 v4 n1 (bcs p.2)) (hb4 : Below w3.heap.size w3 w4) (hat4 : ∃ b, v4.ownBlock = some b)
    (ho5 : w5.ownsRow w.heap.size 33 1 v5 (k + 1) (qs.map (·.1) ++ [v4])) (hg5 : (w4.alloc (.cells #[v4] 33)).grownBy w5 vm.ownBlock) (hat5 : v5.ownBlock = vm.ownBlock ∨ v5.ownBlock = some (w4.alloc (.cells #[v4] 33)).heap.size) :
    PInv w w5 ps (k + 1) (m + n1) (qs ++ [(v4, p.2)]) v3 v5 := by
  obtain ⟨hfl, hm, ho, hov, hq2, hcp, hne, hg⟩ := h
  have hov3 : w3.ownsRow w.heap.size 33 1 vm k (qs.map (·.1)) := own_keep hov (fun g _ h2 h3 => hg3.block g h2 (fun e => hne g e.symm h3))
  have hc3 : Copies w.heap.size w3 v3 vm qs := hcp.onto hg3 (.inl rfl) (hat3.imp id fun e => ⟨_, e, Nat.le_refl _⟩) (.inl rfl)
  have hn3 : ∀ b, v3.ownBlock = some b → vm.ownBlock ≠ some b := fun b e e2 => by
    rcases hat3 with h | h
    · exact hne b (h ▸ e) e2
    · rw [h] at e; cases e; have := (hov.lt _ e2).2; omega
  have hB3 : Below w.heap.size w w3 := hg.grown hg3 hg.size (fun g e => (ho.lt g e).1)
  have hB5 : Below w3.heap.size w3 (w4.alloc (.cells #[v4] 33)) := hb4.alloc hb4.size _
  have hs5 : w4.heap.size < (w4.alloc (.cells #[v4] 33)).heap.size := by simp
  have hs34 := hb4.size
  have hs35 := hg5.size
  have hs3 := hB3.size
  obtain ⟨b4, e4⟩ := hat4
  have hb4lt := ho4.lt b4 e4
  have hv4 : SlW w4 v4 p.2 p.2.length := by
    have h1 := own_sl ho4
    rwa [← hn1] at h1
  have hfs : flat (ps.take (k + 1)) = flat (ps.take k) ++ p.2 := flat_take ps k p hpk
  have hne5 : ∀ b, vm.ownBlock = some b → b < w3.heap.size := fun b e => (hov3.lt b e).2
  refine ⟨by rw [hfs, List.length_append, hfl, hn1], by omega, ?_, ?_, ?_, ?_, ?_, ?_⟩
  · rw [hfs, bcs_append]
    exact own_keep (own_below ho3 hB5) (fun g _ h2 h3 => hg5.block g h2 (fun e => hn3 g h3 e.symm))
  · rw [List.map_append]; exact ho5
  · rw [List.map_append, hq2, List.take_add_one, hpk]; simp
  · intro q hq
    rcases List.mem_append.1 hq with hq | hq
    · have h1 : Copies w.heap.size (w4.alloc (.cells #[v4] 33)) v3 vm qs := hc3.onto (grown_below hB5 (Nat.le_refl _) (r := none)) (.inr (.inr fun b e => nomatch e)) (.inl rfl) (.inl rfl)
      exact (h1.onto hg5 (.inr (.inl rfl)) (.inl rfl) (hat5.imp id fun e => ⟨_, e, Nat.le_refl _⟩)) q hq
    · rw [List.mem_singleton.1 hq]
      refine ⟨b4, e4, by omega, by omega, ?_, ?_, ?_⟩
      · intro e; have := (ho3.lt b4 e).2; omega
      · intro e
        rcases hat5 with h | h
        · rw [h] at e; have := hne5 b4 e; omega
        · rw [h] at e; cases e; omega
      · refine (hv4.below (hb := (Below.refl _ _).alloc (Nat.le_refl _) _)).grown hg5 fun b e e' => ?_
        rw [e4] at e; cases e
        have := hne5 b4 e'; omega
  · intro b e e2
    rcases hat5 with h | h
    · rw [h] at e2; exact hn3 b e e2
    · rw [h] at e2; cases e2; have := (ho3.lt _ e).2; omega
  · exact (hB3.trans (hB5.mono hB3.size)).grown hg5 (by omega) (fun g e => (hov3.lt g e).1)

attribute [local go_sem ↓] ldSt stSt ldD stD
attribute [local go_sem] run_ldA run_stA arrSt arrD loadX_at loadY_some storeX_at storeY_true wcs_size ones_wcs St.list_length ucs_size ones_ucs dg_length sha_length

set_option maxHeartbeats 2000000 in
set_option maxRecDepth 100000 in
theorem parts_any (w : World) (C : Option Addr) (kn kc : Nat) (ps : List (Value × List UInt8)) (hn : ps.length = kn) (hp : PartsAt w C ps) :
    Calls Try.prog 8 #[.slice C kn kc] w fun e w' => e = .returned (.bool true) ∧ Below w.heap.size w w' := by
  by_cases hk30 : kn ≤ 30
  · have hkI : ¬ (30 : Int) < (kn : Int) := by omega
    have HP := hd hp
    clear hp
    go_enter Try.func8, Try.ntmps8
    go_upto_block 0 with (fail)
    go_wp2_with fail
    go_loopw [3, 4, 5] (fun va vm i wr => ∃ (k m : Nat) (qs : List (Value × List UInt8)), k ≤ kn ∧ i = .int .i64 (k : Int) ∧ PInv w wr ps k m qs va vm) (fun _ _ i _ => kn - (intOf i).toNat)
    case atStart =>
      exact ⟨0, 0, [], Nat.zero_le _, rfl, rfl, Nat.zero_le _, World.ownsRow_nil _ _ _ _, World.ownsRow_nil _ _ _ _, rfl, (fun q hq => by cases hq), nofun, Below.refl _ _⟩
    case round =>
      obtain ⟨k, m, qs, hk, rfl, hinv⟩ := hrel
      have HI := hd hinv
      obtain ⟨hfl, hm, ho, hov, hq2, hcp, hne, hg⟩ := hinv
      obtain ⟨va, rfl⟩ : ∃ v, v = u3 := ⟨_, rfl⟩
      obtain ⟨vm, rfl⟩ : ∃ v, v = u4 := ⟨_, rfl⟩
      have HO := hd ho
      have HV := hd hov
      have HQ := hd hq2
      have HC := hd hcp
      have HN := hd hne
      have HG := hd hg
      have HF := hd hfl
      clear ho hov hq2 hcp hne hg hfl
      by_cases hlt : k < kn
      · have hltI : (k : Int) < (kn : Int) := by omega
        obtain ⟨p, hpk⟩ : ∃ p, ps[k]? = some p := ⟨ps[k], List.getElem?_eq_getElem (by omega)⟩
        obtain ⟨⟨a, rfl, hc⟩, ⟨A1, c1, hv, hm1, hc1, hA10, hx1⟩⟩ := HP.out k p hpk
        obtain ⟨b, o, sp⟩ := a
        obtain ⟨p0, hp0⟩ : ∃ p, ps[0]? = some p := ⟨ps[0], List.getElem?_eq_getElem (by omega)⟩
        obtain ⟨⟨a0, e0, hc0⟩, _⟩ := HP.out 0 p0 hp0
        cases e0
        have hsp : sp = none := by simpa [Addr.add] using World.cell?_spot hc0
        subst hsp
        clear hc0 hp0
        rw [add_lit, hv] at hc
        have hcr := (HG.out.cell (p := ⟨b, o + k, none⟩) (World.block_lt_of_cell? w _ hc)).trans hc
        obtain ⟨n1, hn1⟩ : ∃ n, p.2.length = n := ⟨_, rfl⟩
        rw [hn1] at hcr
        by_cases h300 : n1 ≤ 300
        · have h3I : ¬ (300 : Int) < (n1 : Int) := by omega
          have H1 := hd hx1
          have HA1 := hd (show A1 = none → n1 = 0 ∧ c1 = 0 from fun e => by have := hA10 e; rwa [hn1] at this)
          have HL1 : Hid ((bcs p.2).length = n1 * 1) := hd (by rw [bcs_length, hn1, Nat.mul_one])
          have HV1 := hd hv
          have HPK := hd hpk
          have b1 : m + n1 ≤ maxLen := by unfold maxLen; omega
          have b2 : (m + n1) * 1 ≤ 140737488355328 := by omega
          have b3 : 0 + n1 ≤ maxLen := by unfold maxLen; omega
          have b4 : (0 + n1) * 1 ≤ 140737488355328 := by omega
          have b5 : k + 1 ≤ maxLen := by unfold maxLen; omega
          have b6 : (k + 1) * 24 ≤ 140737488355328 := by omega
          have HN1 := hd hn1
          have HCW : Hid (w.cell? ⟨b, o + k, none⟩ = some (.slice A1 n1 c1)) := hd (by rw [← hn1]; exact hc)
          have hbw : b < w.heap.size := World.block_lt_of_cell? w _ hc
          clear hx1 hA10 hv hc hpk hn1 hm1
          go_upto_region 11 with (at_builtin; refine wpList_appAt rfl (.tmp 25) (.tmp 29) 33 rfl w.heap.size 5 (.int .u8 0) 1 1 (by kernel_rfl) infoB rfl (by decide) va m (bcs (flat (ps.take k))) rfl HO.out A1 n1 c1 (bcs p.2) rfl HL1.out HA1.out (H1.out.below HG.out) (bcs_one p.2) b1 b2 HG.out.size ?_; intro v3 w3 ho3 hg3 hat3; have HO3 := hd ho3; have HG3 := hd hg3; have HAT3 := hd hat3; clear ho3 hg3 hat3)
          have HB3 : Hid (Below w.heap.size w w3) := hd (HG.out.grown HG3.out HG.out.size (fun g e => (HO.out.lt g e).1))
          have hB3a : Below w.heap.size w (w3.alloc (.cells #[] 5)) := HB3.out.alloc HB3.out.size _
          have hc3 := (hB3a.cell (p := ⟨b, o + k, none⟩) hbw).trans HCW.out
          have HX3 := hd (H1.out.below hB3a)
          have HOV3 := hd (show w3.ownsRow w.heap.size 33 1 vm k (qs.map (·.1)) from own_keep HV.out (fun g _ h2 h3 => HG3.out.block g h2 (fun e => HN.out g e.symm h3)))
          clear hB3a hcr
          go_wp2_with (first
            | (at_builtin; refine wpList_appAt rfl (.tmp 32) (.tmp 36) 33 rfl w3.heap.size 5 (.int .u8 0) 1 1 (by kernel_rfl) infoB rfl (by decide) _ 0 [] rfl (World.ownsRow_made w3 #[] 0 (Nat.le_refl _) (Nat.zero_le _) rfl) A1 n1 c1 (bcs p.2) rfl HL1.out HA1.out HX3.out (bcs_one p.2) b3 b4 (Nat.le_of_lt (by simp)) ?_; intro v4 w4 ho4 hg4 hat4; rw [Nat.zero_add, List.nil_append] at ho4; have HAT4 := hd (hat4.elim (fun e => (⟨_, e⟩ : ∃ b, v4.ownBlock = some b)) (fun e => ⟨_, e⟩)); clear hat4; obtain ⟨A4, c4, e4v, _⟩ := own_cl ho4; subst e4v; have HO4 := hd ho4; have HB4 := hd (((Below.refl _ w3).alloc (Nat.le_refl _) (.cells #[] 5)).grown hg4 (by simp) (fun g e => by cases e; exact Nat.le_refl _)); clear ho4 hg4)
            | (at_builtin; refine wpList_appAt rfl (.tmp 31) (.tmp 38) 40 rfl w.heap.size 33 (.slice none 0 0) 1 24 (by kernel_rfl) infoS rfl (by decide) vm k (qs.map (·.1)) rfl (own_below HOV3.out ((HB4.out.alloc HB4.out.size (.cells #[.slice A4 n1 c4] 33)))) (some ⟨w4.heap.size, 0, none⟩) 1 1 [.slice A4 n1 c4] rfl rfl (fun e => nomatch e) (Cl.mk fun j u hj => by cases j with
                | zero => cases hj; exact (Boxed.new _ _ _).cell
                | succ j => cases hj) (fun u hu => by rw [List.mem_singleton.1 hu]; rfl) b5 b6 (Nat.le_trans HB3.out.size (Nat.le_trans HB4.out.size (Nat.le_of_lt (by simp)))) ?_; intro v5 w5 ho5 hg5 hat5; have HI5 := hd (parts_step HI.out HPK.out HN1.out h300 HO3.out HG3.out HAT3.out HO4.out HB4.out HAT4.out ho5 hg5 hat5); clear ho5 hg5 hat5))
          go_roundw
          case rel => exact ⟨k + 1, m + n1, _, hlt, by go_num, HI5.out⟩
          case measure => simp [intOf]; omega
        · have h3I : (300 : Int) < (n1 : Int) := by omega
          go_wp2_with (go_at_call 15; refine (works_any _).mono ?_; rintro e w9 ⟨rfl, hb9⟩; have HB9 := hd hb9; clear hb9)
          go_ret
          exact ⟨rfl, HG.out.trans (HB9.out.mono HG.out.size)⟩
      · obtain rfl : k = kn := by omega
        have hltI : ¬ (k : Int) < (k : Int) := by omega
        have hps : ps.take k = ps := by rw [← hn]; exact List.take_length
        obtain ⟨wl, rfl⟩ : ∃ x, x = wr := ⟨_, rfl⟩
        obtain ⟨P, pc, e4, _, _, hvc, _, _⟩ := own_cl HV.out
        subst e4
        obtain ⟨B, cB, e3, _, _, _, _, _⟩ := own_cl HO.out
        subst e3
        have hq2 := HQ.out
        rw [hps] at hq2
        have hql : qs.length = k := by have := congrArg List.length hq2; simpa [hn] using this
        have hfq : flat qs = flat ps := flat_same qs ps hq2
        have hfm : (flat ps).length = m := by have := HF.out; rwa [hps] at this
        have hPA : PartsAt wl P qs := fun j q hj => by
          refine ⟨hvc j q.1 (by rw [List.getElem?_map, hj]; rfl), ?_⟩
          obtain ⟨_, _, _, _, _, _, h⟩ := HC.out q (List.mem_of_getElem? hj)
          exact h
        have hsa : SlW wl (.slice B m cB) (flat ps) m := by
          have h := own_sl HO.out
          rwa [hps] at h
        have hof := of_any wl P k pc qs hql hPA (by rw [hfq]; omega) (by omega)
        rw [hfq] at hof
        have hrs := fun W (hb : Below wl.heap.size wl W) => rsum_v (hsa.below hb) hfm (by omega)
        have hdl : (sha (flat ps)).length = 32 := sha_length _
        revert hof hrs hdl
        generalize sha (flat ps) = dg0
        intro hof hrs hdl
        have q1 := eq_digIn dg0 hdl
        have HOF := hd hof
        have HRS := hd hrs
        have HQ2 := hd hq2
        have HPA := hd hPA
        clear hof hrs hq2 hPA hsa hvc hps
        go_upto_block 2 with (first
          | (go_at_call 26; refine HOF.out.mono ?_; rintro e w5 ⟨rfl, hb5⟩; have HB5 := hd hb5; clear hb5)
          | (go_at_call 29; refine (HRS.out _ HB5.out).mono ?_; rintro e w6 ⟨rfl, hb6⟩; have HB6 := hd (HB5.out.trans (hb6.mono HB5.out.size)); clear hb6))
        go_wp2_with fail
        go_loopw [6, 7] (fun ok i wz => ∃ j : Nat, j ≤ k ∧ i = .int .i64 (j : Int) ∧ ok = .bool true ∧ Below w6.heap.size w6 wz) (fun _ i _ => k - (intOf i).toNat)
        case atStart => exact ⟨0, Nat.zero_le _, rfl, rfl, Below.refl _ _⟩
        case round =>
          obtain ⟨j, hj, rfl, rfl, hz⟩ := hrel
          have hzr : Below wl.heap.size wl wr := HB6.out.trans (hz.mono HB6.out.size)
          have hzw : Below w.heap.size w wr := HG.out.trans (hzr.mono HG.out.size)
          have HZ := hd hz
          by_cases hjk : j < k
          · have hjI : (j : Int) < (k : Int) := by omega
            obtain ⟨q, hqj⟩ : ∃ q, qs[j]? = some q := ⟨qs[j], List.getElem?_eq_getElem (by omega)⟩
            obtain ⟨p, hpj⟩ : ∃ p, ps[j]? = some p := ⟨ps[j], List.getElem?_eq_getElem (by omega)⟩
            have hqp : q.2 = p.2 := by
              have h := congrArg (·[j]?) HQ2.out
              simp only [List.getElem?_map, hqj, hpj, Option.map_some, Option.some.injEq] at h
              exact h
            obtain ⟨g, cap, e4⟩ := own_form HV.out (by omega)
            cases e4
            obtain ⟨⟨a1, ea1, hc1⟩, hs1⟩ := HPA.out j q hqj
            cases ea1
            rw [add_lit] at hc1
            obtain ⟨⟨a2, rfl, hc2⟩, hs2⟩ := HP.out j p hpj
            obtain ⟨b, o, sp⟩ := a2
            obtain ⟨p0, hp0⟩ : ∃ p, ps[0]? = some p := ⟨ps[0], List.getElem?_eq_getElem (by omega)⟩
            obtain ⟨⟨a0, e0, hc0⟩, _⟩ := HP.out 0 p0 hp0
            cases e0
            have hsp : sp = none := by simpa [Addr.add] using World.cell?_spot hc0
            subst hsp
            rw [add_lit] at hc2
            rw [Nat.zero_add] at hc1
            have c1 := (hzr.cell (p := ⟨g, j, none⟩) (World.block_lt_of_cell? wl _ hc1)).trans hc1
            have c2 := (hzw.cell (p := ⟨b, o + j, none⟩) (World.block_lt_of_cell? w _ hc2)).trans hc2
            have t1 := fun n => sl_text (w := wr.drewN n) ((hs1.below hzr).below (below_drewN (Below.refl _ _) n)) rfl
            have t2 := fun n => sl_text (w := wr.drewN n) ((hs2.below hzw).below (below_drewN (Below.refl _ _) n)) rfl
            rw [hqp] at t1
            clear hc1 hc2 hs1 hs2 hc0 hp0 hz hzr hzw
            go_upto_region 16 with (fail)
            go_quiet (fail)
            go_wp2_with fail
            go_roundw
            case rel => exact ⟨j + 1, hjk, by go_num, rfl, below_drewN HZ.out _⟩
            case measure => simp [intOf]; omega
          · obtain rfl : j = k := by omega
            clear hz hzr
            go_wp2_with (go_at_call 15; refine (works_any _).mono ?_; rintro e w9 ⟨rfl, hb9⟩; have HB9 := hd hb9; clear hb9)
            go_ret
            exact ⟨rfl, hzw.trans (HB9.out.mono hzw.size)⟩
  · have hkI : (30 : Int) < (kn : Int) := by omega
    clear hk30
    go_enter Try.func8, Try.ntmps8
    go_wp2_with (go_at_call 15; refine (works_any _).mono ?_; rintro e w9 ⟨rfl, hb9⟩; have HB9 := hd hb9; clear hb9)
    go_ret
    exact ⟨rfl, HB9.out⟩

end Go.Proofs.Ytolboolbapbniaa
