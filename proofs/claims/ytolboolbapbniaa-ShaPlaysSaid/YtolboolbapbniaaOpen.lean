/- How a digest that came in is opened; two facts on the program. -/
import Derived.Test.YtolboolbapbniaaWorks
import Derived.WalkKit
import Derived.ProofKit
import Derived.OpenShut
import Derived.ShutString
import Derived.ChangeOld
import Derived.WideKeyArr2
import Derived.Deep.Matrix
namespace Go.Proofs.Ytolboolbapbniaa
open Go.ChangeShapes Go.WideShapes Go.ChangeAt Go.RowKit
open Go.ChangeMaps (open_string shut_string)
open Go.WideMaps (okWide_arr ArrKey)

theorem own : ownKnob Try.prog.godebug = none := by kernel_rfl
theorem laidOut : laidOutB Try.prog = true := by kernel_rfl
theorem arrKey : ArrKey Try.prog 23 5 32 := ⟨by kernel_rfl, by kernel_rfl, by kernel_rfl, by kernel_rfl⟩

theorem elems_of {H : Type} {enc : TypeId × Value → H} {W : World} {base : Nat} {sp : Nat → Bool} {held : Bool} {m : Nat} {cs : List Value} : ∀ (L : List Nat) (xs : List (DataW H × List MemPlace)),
    L.mapM (fun i => DataW.trod enc Try.prog W base sp held m 5 ((cs.drop (i * 1)).take 1)) = some xs → ∀ i ∈ L, ∃ a, (cs.drop (i * 1)).take 1 = [Value.int .u8 a] ∧ (Lit.int .u8 a).wf = true
  | [], _, _ => fun i hi => by cases hi
  | i :: L, xs, h => by
    rw [List.mapM_cons] at h
    simp only [bind, Option.bind_eq_some_iff, pure, Option.some.injEq] at h
    obtain ⟨y, hy, ys, hys, rfl⟩ := h
    obtain ⟨a, ea, _, wa⟩ := DataW.trod_int (k := .u8) (by kernel_rfl) hy
    intro j hj
    rcases List.mem_cons.1 hj with rfl | hj
    · exact ⟨a, ea, wa⟩
    · exact elems_of L ys hys j hj

theorem open_arr {T N : Nat} (hk : ArrKey Try.prog T 5 N) {H : Type} {enc : TypeId × Value → H} {W : World} {base : Nat} {sp : Nat → Bool} {held : Bool} {r : Reach} {b0 : Nat} {v : Value} {d : DataW H} {ps : List MemPlace}
    (hv : Value.okWide Try.prog W r b0 T v) (hd : DataW.Trod enc Try.prog W base sp held T v d ps) : ∃ l : List UInt8, l.length = N ∧ v = .agg (ucs l) := by
  obtain ⟨xs, rfl, hn⟩ := okWide_arr hk hv
  obtain ⟨fuel, hf⟩ := hd
  cases fuel with
  | zero => simp [DataW.trod] at hf
  | succ m =>
    rw [DataW.trod_step] at hf
    unfold DataW.trodStep at hf
    simp only [hk.hu, Value.cells] at hf
    rw [if_pos (by rw [hk.size]; simpa using hn)] at hf
    simp only [Option.map_eq_some_iff] at hf
    obtain ⟨ys, hy, _⟩ := hf
    rw [hk.one] at hy
    have hel := elems_of _ ys hy
    refine ⟨xs.toList.map fun v => match v with | .int _ a => UInt8.ofNat a.toNat | _ => 0, by simp [hn], ?_⟩
    congr 1
    apply Array.ext
    · simp [ucs, bcs]
    · intro i h1 h2
      obtain ⟨a, ea, wa⟩ := hel i (by rw [List.mem_range]; omega)
      have e1 : xs[i] = .int .u8 a := by
        have h3 : ((xs.toList.drop (i * 1)).take 1)[0]? = some xs[i] := by simp [h1]
        rw [ea] at h3
        simpa using h3.symm
      have hr : 0 ≤ a ∧ a < 256 := by
        unfold Lit.wf at wa
        simp only [Bool.and_eq_true, decide_eq_true_eq] at wa
        have h6 : (0 : Int) ≤ a ∧ a ≤ 255 := wa
        omega
      simp only [ucs, bcs, List.getElem_toArray, List.getElem_map, Array.getElem_toList, e1]
      congr 1
      unfold ib
      rw [UInt8.toNat_ofNat']
      omega

theorem open_digest {H : Type} {enc : TypeId × Value → H} {W : World} {base : Nat} {sp : Nat → Bool} {held : Bool} {r : Reach} {b0 : Nat} {v : Value} {d : DataW H} {ps : List MemPlace}
    (hv : Value.okWide Try.prog W r b0 23 v) (hd : DataW.Trod enc Try.prog W base sp held 23 v d ps) : ∃ l : List UInt8, l.length = 32 ∧ v = .agg (ucs l) := open_arr arrKey hv hd
theorem byte_of {b : Int} (wb : (Lit.int .u8 b).wf = true) : ∃ c : UInt8, b = ib c := by
  unfold Lit.wf at wb
  simp only [Bool.and_eq_true, decide_eq_true_eq] at wb
  have h6 : (0 : Int) ≤ b ∧ b ≤ 255 := wb
  refine ⟨UInt8.ofNat b.toNat, ?_⟩
  unfold ib
  rw [UInt8.toNat_ofNat']
  omega
/-- Bytes that came in. -/
theorem open_bytes {H : Type} {enc : TypeId × Value → H} {W : World} {base : Nat} {sp : Nat → Bool} {held : Bool} {r : Reach} {b0 : Nat} {v : Value} {d : DataW H} {ps : List MemPlace}
    (hv : Value.okWide Try.prog W r b0 33 v) (hd : DataW.Trod enc Try.prog W base sp held 33 v d ps) : ∃ A n c l, v = .slice A n c ∧ l.length = n ∧ SlW W (.slice A n c) l n := by
  obtain ⟨A, n, c, rfl⟩ := okWide_slice Try.underlying33 hv
  obtain ⟨fuel, hf⟩ := hd
  rcases open_ints Try.underlying33 Try.underlying5 (by kernel_rfl) hf with ⟨hcs, _⟩ | ⟨x, l, c2, zs, hcs, _, hl, hm, hz, _, hcell, hwz⟩
  · simp [Value.cells] at hcs
    obtain ⟨rfl, rfl, rfl⟩ := hcs
    exact ⟨none, 0, 0, [], rfl, rfl, none, 0, rfl, Nat.le_refl _, Nat.zero_le _, fun _ => ⟨rfl, rfl⟩, Cl.nil _ _⟩
  · simp [Value.cells] at hcs
    obtain ⟨rfl, rfl, rfl⟩ := hcs
    have hzl : n ≤ zs.length := by
      split at hz <;> omega
    refine ⟨some x, n, c, (zs.take n).map fun v => UInt8.ofNat v.toNat, rfl, by simp; omega, some x, c, rfl, hl, hm, (fun e => nomatch e), fun j u hj => ?_⟩
    have hjn : j < n := by
        have := (List.getElem?_eq_some_iff.1 hj).1
        simp [bcs] at this
        omega
    refine ⟨x, rfl, ?_⟩
    rw [hcell j (by omega)]
    have hr := range_u8 hwz j
    have e1 : zs.getD j 0 = zs[j]'(by omega) := by rw [List.getD_eq_getElem?_getD, List.getElem?_eq_getElem (by omega)]; rfl
    rw [← List.getD_eq_getElem?_getD, e1] at hr
    rw [e1]
    rw [← hj]
    simp only [bcs, List.map_map, List.getElem?_map]
    rw [List.getElem?_take_of_lt hjn, List.getElem?_eq_getElem (by omega)]
    simp only [Option.map_some, Function.comp_def]
    congr 2
    unfold ib
    rw [UInt8.toNat_ofNat']
    omega
/-- Numbers that came in. -/
theorem open_numbers {H : Type} {enc : TypeId × Value → H} {W : World} {base : Nat} {sp : Nat → Bool} {held : Bool} {r : Reach} {b0 : Nat} {v : Value} {d : DataW H} {ps : List MemPlace}
    (hv : Value.okWide Try.prog W r b0 37 v) (hd : DataW.Trod enc Try.prog W base sp held 37 v d ps) : ∃ (A : Option Addr) (n c : Nat) (zs : List Int), v = .slice A n c ∧
      ∀ i, i < n → ∃ b o, A = some ⟨b, o, none⟩ ∧ W.cell? ⟨b, o + i, none⟩ = some (.int .i64 (zs.getD i 0)) := by
  obtain ⟨A, n, c, rfl⟩ := okWide_slice Try.underlying37 hv
  obtain ⟨fuel, hf⟩ := hd
  rcases open_ints Try.underlying37 Try.underlying3 (by kernel_rfl) hf with ⟨hcs, _⟩ | ⟨x, l, c2, zs, hcs, _, hl, hm, hz, _, hcell, hwz⟩
  · simp [Value.cells] at hcs
    obtain ⟨rfl, rfl, rfl⟩ := hcs
    exact ⟨none, 0, 0, [], rfl, fun i hi => absurd hi (Nat.not_lt_zero i)⟩
  · simp [Value.cells] at hcs
    obtain ⟨rfl, rfl, rfl⟩ := hcs
    have hzl : n ≤ zs.length := by
      split at hz <;> omega
    refine ⟨some x, n, c, zs, rfl, fun i hi => ?_⟩
    have h1 := hcell i (by omega)
    obtain ⟨b, o, sp⟩ := x
    have hsp : sp = none := by simpa [Addr.add] using World.cell?_spot (hcell 0 (by omega))
    subst hsp
    rw [add_lit] at h1
    exact ⟨b, o, rfl, h1⟩
/-- Slices of bytes that came in. -/
theorem open_parts {H : Type} {enc : TypeId × Value → H} {W : World} {base : Nat} {held : Bool} {r : Reach} {b0 : Nat} {v : Value} {d : DataW H} {ps : List MemPlace}
    (hv : Value.okWide Try.prog W r b0 40 v) (hd : DataW.Trod enc Try.prog W base (fun _ => true) held 40 v d ps) : ∃ (C : Option Addr) (n c : Nat) (qs : List (Value × List UInt8)), v = .slice C n c ∧ qs.length = n ∧ PartsAt W C qs := by
  obtain ⟨A, n, c, rfl⟩ := okWide_slice Try.underlying40 hv
  obtain ⟨fuel, hf⟩ := hd
  rcases Go.Deep.open_int_rows Try.underlying40 Try.underlying33 Try.underlying5 (by kernel_rfl) (by kernel_rfl) hf with ⟨hcs, _⟩ | ⟨x, l, c2, A', L, C', Z, hcs, _, hl, hm, _, hr⟩
  · simp [Value.cells] at hcs
    obtain ⟨rfl, rfl, rfl⟩ := hcs
    exact ⟨none, 0, 0, [], rfl, rfl, fun j p hj => by simp at hj⟩
  · simp [Value.cells] at hcs
    obtain ⟨rfl, rfl, rfl⟩ := hcs
    refine ⟨some x, n, c, (List.range n).map fun r => (.slice (A' r) (L r) (C' r), ((Z r).take (L r)).map fun v => UInt8.ofNat v.toNat), rfl, by simp, fun j p hj => ?_⟩
    have hjn : j < n := by
      have := (List.getElem?_eq_some_iff.1 hj).1
      simpa using this
    rw [List.getElem?_map, List.getElem?_range hjn] at hj
    simp only [Option.map_some, Option.some.injEq] at hj
    subst hj
    obtain ⟨h1, h2, h3, h4, h5, h6, h7⟩ := hr j (by omega)
    have hlen : (((Z j).take (L j)).map fun v => UInt8.ofNat v.toNat).length = L j := by simp; omega
    refine ⟨⟨x, rfl, h1⟩, ?_⟩
    rw [hlen]
    refine ⟨A' j, C' j, rfl, h2, h3, (fun e => by have := h6 e; omega), fun i u hi => ?_⟩
    have hin : i < L j := by
      have := (List.getElem?_eq_some_iff.1 hi).1
      rw [bcs_length, hlen] at this
      exact this
    cases hA : A' j with
    | none => have := h6 hA; omega
    | some a =>
      refine ⟨a, rfl, ?_⟩
      rw [(h7 a hA).2 i (by omega)]
      have hr := range_u8 h5 i
      have e1 : (Z j).getD i 0 = (Z j)[i]'(by omega) := by rw [List.getD_eq_getElem?_getD, List.getElem?_eq_getElem (by omega)]; rfl
      rw [← List.getD_eq_getElem?_getD, e1] at hr
      rw [e1, ← hi]
      simp only [bcs, List.map_map, List.getElem?_map]
      rw [List.getElem?_take_of_lt hin, List.getElem?_eq_getElem (by omega)]
      simp only [Option.map_some, Function.comp_def]
      congr 2
      unfold ib
      rw [UInt8.toNat_ofNat']
      omega

end Go.Proofs.Ytolboolbapbniaa
