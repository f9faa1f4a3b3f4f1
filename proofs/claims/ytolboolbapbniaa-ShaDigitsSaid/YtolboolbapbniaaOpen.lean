/- How a digest that came in is opened; two facts on the program. -/
import Derived.Test.YtolboolbapbniaaWorks
import Derived.WalkKit
import Derived.ProofKit
import Derived.OpenShut
import Derived.ShutString
import Derived.ChangeOld
import Derived.WideKeyArr2
namespace Go.Proofs.Ytolboolbapbniaa
open Go.ChangeShapes Go.WideShapes Go.ChangeAt Go.RowKit
open Go.ChangeMaps (open_string shut_string)
open Go.WideMaps (okWide_arr ArrKey)

theorem own : ownKnob Try.prog.godebug = none := by kernel_rfl
theorem laidOut : laidOutB Try.prog = true := by kernel_rfl
theorem arrKey : ArrKey Try.prog 23 5 32 := ⟨by kernel_rfl, by kernel_rfl, by kernel_rfl, by kernel_rfl⟩

theorem elems_of {H : Type} {enc : TypeId × Value → H} {W : World} {base : Nat} {sp : Nat → Bool} {held : Bool} {m : Nat} {cs : List Value} : ∀ (L : List Nat) (xs : List (DataW H × List MemPlace)),
    L.mapM (fun i => DataW.trod enc Try.prog W base sp held m 5 ((cs.drop (i * 1)).take 1)) = some xs → ∀ i ∈ L, ∃ a, (cs.drop (i * 1)).take 1 = [Value.int .u8 a] ∧ (Lit.int .u8 a).wf = true
  | [], _, _ => fun i hi => by cases hi
  | i :: L, xs, h => by
    rw [List.mapM_cons] at h
    simp only [bind, Option.bind_eq_some_iff, pure, Option.some.injEq] at h
    obtain ⟨y, hy, ys, hys, rfl⟩ := h
    obtain ⟨a, ea, _, wa⟩ := DataW.trod_int (k := .u8) (by kernel_rfl) hy
    intro j hj
    rcases List.mem_cons.1 hj with rfl | hj
    · exact ⟨a, ea, wa⟩
    · exact elems_of L ys hys j hj

theorem open_digest {H : Type} {enc : TypeId × Value → H} {W : World} {base : Nat} {sp : Nat → Bool} {held : Bool} {r : Reach} {b0 : Nat} {v : Value} {d : DataW H} {ps : List MemPlace}
    (hv : Value.okWide Try.prog W r b0 23 v) (hd : DataW.Trod enc Try.prog W base sp held 23 v d ps) : ∃ l : List UInt8, l.length = 32 ∧ v = .agg (ucs l) := by
  obtain ⟨xs, rfl, hn⟩ := okWide_arr arrKey hv
  obtain ⟨fuel, hf⟩ := hd
  cases fuel with
  | zero => simp [DataW.trod] at hf
  | succ m =>
    rw [DataW.trod_step] at hf
    unfold DataW.trodStep at hf
    simp only [arrKey.hu, Value.cells] at hf
    rw [if_pos (by rw [arrKey.size]; simpa using hn)] at hf
    simp only [Option.map_eq_some_iff] at hf
    obtain ⟨ys, hy, _⟩ := hf
    rw [arrKey.one] at hy
    have hel := elems_of _ ys hy
    refine ⟨xs.toList.map fun v => match v with | .int _ a => UInt8.ofNat a.toNat | _ => 0, by simp [hn], ?_⟩
    congr 1
    apply Array.ext
    · simp [ucs, bcs]
    · intro i h1 h2
      obtain ⟨a, ea, wa⟩ := hel i (by rw [List.mem_range]; omega)
      have e1 : xs[i] = .int .u8 a := by
        have h3 : ((xs.toList.drop (i * 1)).take 1)[0]? = some xs[i] := by simp [h1]
        rw [ea] at h3
        simpa using h3.symm
      have hr : 0 ≤ a ∧ a < 256 := by
        unfold Lit.wf at wa
        simp only [Bool.and_eq_true, decide_eq_true_eq] at wa
        have h6 : (0 : Int) ≤ a ∧ a ≤ 255 := wa
        omega
      simp only [ucs, bcs, List.getElem_toArray, List.getElem_map, Array.getElem_toList, e1]
      congr 1
      unfold ib
      rw [UInt8.toNat_ofNat']
      omega

end Go.Proofs.Ytolboolbapbniaa
