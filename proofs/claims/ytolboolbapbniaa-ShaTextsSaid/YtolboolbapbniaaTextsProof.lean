/- ShaTexts holds: for every digest and every text (in its bounds, and beyond) the law returns true, and its arguments read as before. No condition. -/
import Derived.Test.YtolboolbapbniaaTextsLaw
import Derived.WalkKit
import Derived.ProofKit
import Derived.OpenShut
import Derived.ShutString
import Derived.ChangeOld
import Derived.WideKeyArr2
namespace Go.Proofs.Ytolboolbapbniaa
open Go.ChangeShapes Go.WideShapes Go.ChangeAt Go.RowKit
open Go.ChangeMaps (open_string shut_string)
open Go.WideMaps (okWide_arr ArrKey)

theorem own : ownKnob Try.prog.godebug = none := by kernel_rfl
theorem laidOut : laidOutB Try.prog = true := by kernel_rfl
theorem arrKey : ArrKey Try.prog 23 5 32 := ⟨by kernel_rfl, by kernel_rfl, by kernel_rfl, by kernel_rfl⟩

theorem elems_of {H : Type} {enc : TypeId × Value → H} {W : World} {base : Nat} {sp : Nat → Bool} {held : Bool} {m : Nat} {cs : List Value} : ∀ (L : List Nat) (xs : List (DataW H × List MemPlace)),
    L.mapM (fun i => DataW.trod enc Try.prog W base sp held m 5 ((cs.drop (i * 1)).take 1)) = some xs → ∀ i ∈ L, ∃ a, (cs.drop (i * 1)).take 1 = [Value.int .u8 a] ∧ (Lit.int .u8 a).wf = true
  | [], _, _ => fun i hi => by cases hi
  | i :: L, xs, h => by
    rw [List.mapM_cons] at h
    simp only [bind, Option.bind_eq_some_iff, pure, Option.some.injEq] at h
    obtain ⟨y, hy, ys, hys, rfl⟩ := h
    obtain ⟨a, ea, _, wa⟩ := DataW.trod_int (k := .u8) (by kernel_rfl) hy
    intro j hj
    rcases List.mem_cons.1 hj with rfl | hj
    · exact ⟨a, ea, wa⟩
    · exact elems_of L ys hys j hj

theorem open_digest {H : Type} {enc : TypeId × Value → H} {W : World} {base : Nat} {sp : Nat → Bool} {held : Bool} {r : Reach} {b0 : Nat} {v : Value} {d : DataW H} {ps : List MemPlace}
    (hv : Value.okWide Try.prog W r b0 23 v) (hd : DataW.Trod enc Try.prog W base sp held 23 v d ps) : ∃ l : List UInt8, l.length = 32 ∧ v = .agg (ucs l) := by
  obtain ⟨xs, rfl, hn⟩ := okWide_arr arrKey hv
  obtain ⟨fuel, hf⟩ := hd
  cases fuel with
  | zero => simp [DataW.trod] at hf
  | succ m =>
    rw [DataW.trod_step] at hf
    unfold DataW.trodStep at hf
    simp only [arrKey.hu, Value.cells] at hf
    rw [if_pos (by rw [arrKey.size]; simpa using hn)] at hf
    simp only [Option.map_eq_some_iff] at hf
    obtain ⟨ys, hy, _⟩ := hf
    rw [arrKey.one] at hy
    have hel := elems_of _ ys hy
    refine ⟨xs.toList.map fun v => match v with | .int _ a => UInt8.ofNat a.toNat | _ => 0, by simp [hn], ?_⟩
    congr 1
    apply Array.ext
    · simp [ucs, bcs]
    · intro i h1 h2
      obtain ⟨a, ea, wa⟩ := hel i (by rw [List.mem_range]; omega)
      have e1 : xs[i] = .int .u8 a := by
        have h3 : ((xs.toList.drop (i * 1)).take 1)[0]? = some xs[i] := by simp [h1]
        rw [ea] at h3
        simpa using h3.symm
      have hr : 0 ≤ a ∧ a < 256 := by
        unfold Lit.wf at wa
        simp only [Bool.and_eq_true, decide_eq_true_eq] at wa
        have h6 : (0 : Int) ≤ a ∧ a ≤ 255 := wa
        omega
      simp only [ucs, bcs, List.getElem_toArray, List.getElem_map, Array.getElem_toList, e1]
      congr 1
      unfold ib
      rw [UInt8.toNat_ofNat']
      omega

set_option maxRecDepth 100000 in
theorem shaTexts_lifted (os : Os) (started : os.Started) (H : Type) (enc : TypeId × Value → H) :
    ReturnsInHanded {} Try.checked os 3 .any (Rows.shaTextsSpec.pre6 enc Try.prog Try.f3 Rows.shaTextsRow.domain false) (Rows.shaTextsSpec.post enc Try.prog Try.f3 false true false false) := by
  refine returnsInHanded_of_change (C := Try.checked) own started (by kernel_rfl) Try.func3
    (ChangeSpec.witness6 (enc := enc) (C := Try.checked) false ⟨#[], #[.agg (ucs (List.replicate 32 0)), .string ⟨#[]⟩], []⟩ 8 (by kernel_rfl) (by kernel_rfl) (by kernel_rfl) (by kernel_rfl)) ?_
  intro W base args ds gs before hval0 hW hcnd _
  have hval : ∀ (j : Nat) t v, Try.f3.params[j]? = some t → args[j]? = some v → Value.okWide Try.prog W .any base t v := hval0
  have hW' := hW
  obtain ⟨p, q, hA0, hV, rfl, hfz, hnd⟩ := hW
  have hA : DataW.TrodAll enc Try.prog W 0 (fun _ => true) true Try.f3.params.toList args.toList ds p := hA0
  rw [Try.params3] at hA hval
  obtain ⟨v0, vs0, d0, ds0, p0, q0, hargs, rfl, rfl, h0, r0⟩ := trodAll_cons hA
  obtain ⟨v1, vs1, d1, ds1, p1, q1, rfl, rfl, rfl, h1, r1⟩ := trodAll_cons r0
  obtain ⟨rfl, rfl, rfl⟩ := trodAll_nil r1
  obtain rfl : args = #[v0, v1] := by cases args; simp_all
  obtain ⟨rfl, rfl⟩ := trodVars_none hV
  have k0 := h0
  have lt0 : ∀ x ∈ p0, x.block < W.heap.size := by obtain ⟨m, hm⟩ := k0; exact DataW.trod_lt m _ _ _ hm
  obtain ⟨l, hl, rfl⟩ := open_digest (hval 0 23 v0 rfl rfl) h0
  obtain ⟨b, rfl, rfl, rfl, wb⟩ := open_string Try.underlying9 (hval 1 9 v1 rfl rfl) h1
  obtain ⟨s, rfl⟩ : ∃ s : List UInt8, b = ⟨s.toArray⟩ := ⟨b.data.toList, by cases b; simp⟩
  clear hA0 hval0
  refine (texts_any W l hl s).mono fun e W' ⟨he, bel⟩ => ?_
  subst he
  exact ⟨_, rfl, _, _, _, [], _, [], hW', trodAll_mk1 (shut_bool Try.underlying4 _), (trodAll_cons_mk (Below.trod laidOut (by kernel_rfl) (of_decide_eq_true (by kernel_rfl)) k0 bel lt0) (trodAll_cons_mk (shut_string Try.underlying9 wb) trodAll_mk0)), rfl, bel.frame _, fun h => by cases h⟩

theorem shaTexts_over : Rows.shaTextsRow.holds Try.pinned (OpenSpec.ofChange Rows.shaTextsSpec) :=
  OpenClaim.holds_of_wide 3 Try.f3 rfl rfl rfl rfl rfl rfl rfl ⟨rfl, rfl, rfl, rfl, rfl⟩ rfl rfl rfl rfl rfl (by kernel_rfl) Try.func3 (by kernel_rfl)
    (of_decide_eq_true (by kernel_rfl)) (by unfold Func.isWrapper; first | (rw [if_pos (by decide +kernel)]; kernel_rfl) | (rw [if_neg (by decide +kernel)]; exact ⟨rfl, rfl⟩))
    (fun os started H enc _ => shaTexts_lifted os started H enc)

/-- The statement. -/
theorem shaTexts_proved : Rows.ShaTextsSaid := shaTexts_over

end Go.Proofs.Ytolboolbapbniaa
