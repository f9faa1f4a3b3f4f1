/- ShaPlays holds: whatever comes in, the law returns true, and its arguments read as before. No condition. -/
import Derived.Test.YtolboolbapbniaaPlaysLaw
import Derived.Test.YtolboolbapbniaaOpen
namespace Go.Proofs.Ytolboolbapbniaa
open Go.ChangeShapes Go.WideShapes Go.ChangeAt Go.RowKit
open Go.ChangeMaps (open_string shut_string)

section
variable {H : Type} {enc : TypeId × Value → H} {W : World} {base : Nat} {held : Bool}
theorem bytes_trod {fuel : Nat} {v : Value} {x : DataW H × List MemPlace} (hf : DataW.trod enc Try.prog W base (fun _ => true) held fuel 33 [v] = some x) : ∃ l : List UInt8, SlW W v l l.length := by
  rcases open_ints Try.underlying33 Try.underlying5 (by kernel_rfl) hf with ⟨hcs, _⟩ | ⟨a, n, c, zs, hcs, _, hl, hm, hz, _, hcell, hwz⟩
  · cases hcs
    exact ⟨[], none, 0, rfl, Nat.le_refl _, Nat.zero_le _, fun _ => ⟨rfl, rfl⟩, Cl.nil _ _⟩
  · cases hcs
    simp only [if_true] at hz
    have hlen : ((zs.take n).map fun v => UInt8.ofNat v.toNat).length = n := by simp; omega
    refine ⟨(zs.take n).map fun v => UInt8.ofNat v.toNat, ?_⟩
    rw [hlen]
    refine ⟨some a, c, rfl, hl, hm, (fun e => nomatch e), fun j u hj => ?_⟩
    have hjn : j < n := by
      have := (List.getElem?_eq_some_iff.1 hj).1
      rw [bcs_length, hlen] at this
      exact this
    refine ⟨a, rfl, ?_⟩
    rw [hcell j (by omega)]
    have hr := range_u8 hwz j
    have e1 : zs.getD j 0 = zs[j]'(by omega) := by rw [List.getD_eq_getElem?_getD, List.getElem?_eq_getElem (by omega)]; rfl
    rw [← List.getD_eq_getElem?_getD, e1] at hr
    rw [e1, ← hj]
    simp only [bcs, List.map_map, List.getElem?_map]
    rw [List.getElem?_take_of_lt hjn, List.getElem?_eq_getElem (by omega)]
    simp only [Option.map_some, Function.comp_def]
    congr 2
    unfold ib
    rw [UInt8.toNat_ofNat']
    omega
theorem act_trod {f0 f1 f2 : Field} {fuel : Nat} {cs : List Value} {x : DataW H × List MemPlace} (he : Try.prog.underlying 54 = some (.struct #[f0, f1, f2])) (o0 : f0.offset = 0) (o1 : f1.offset = 1) (o2 : f2.offset = 2)
    (t0 : f0.type = 3) (t1 : f1.type = 4) (t2 : f2.type = 33) (hlen : cs.length = 3) (h : DataW.trod enc Try.prog W base (fun _ => true) held fuel 54 cs = some x) :
    ∃ (a : Int) (b : Bool) (v : Value) (l : List UInt8), cs = [.int .i64 a, .bool b, v] ∧ SlW W v l l.length := by
  obtain ⟨xs, k, _, _, _, hxl, hf⟩ := DataW.trod_struct he h
  have c0 : Try.prog.cellsOf 3 = 1 := by kernel_rfl
  have c1 : Try.prog.cellsOf 4 = 1 := by kernel_rfl
  have c2 : Try.prog.cellsOf 33 = 1 := by kernel_rfl
  match xs, hxl, cs, hlen with
  | [y0, y1, y2], _, [v0, v1, v2], _ =>
    have g0 := hf 0 f0 rfl
    have g1 := hf 1 f1 rfl
    have g2 := hf 2 f2 rfl
    simp [o0, o1, o2, t0, t1, t2, c0, c1, c2] at g0 g1 g2
    obtain ⟨a, ea, _, _⟩ := DataW.trod_int (k := .i64) Try.underlying3 g0
    obtain ⟨b, eb, _⟩ := DataW.trod_bool Try.underlying4 g1
    obtain ⟨l, hl⟩ := bytes_trod g2
    cases ea
    cases eb
    exact ⟨a, b, v2, l, rfl, hl⟩
/-- A script that came in. -/
theorem open_acts {r : Reach} {b0 : Nat} {v : Value} {d : DataW H} {ps : List MemPlace}
    (hv : Value.okWide Try.prog W r b0 52 v) (hd : DataW.Trod enc Try.prog W base (fun _ => true) held 52 v d ps) : ∃ (C : Option Addr) (n c : Nat) (qs : Acts), v = .slice C n c ∧ n ≤ 9223372036854775807 ∧ qs.length = n ∧ ActsAt W C qs := by
  obtain ⟨A, n, c, rfl⟩ := okWide_slice Try.underlying52 hv
  obtain ⟨fuel, hf⟩ := hd
  rcases Go.Deep.open_slice Try.underlying52 hf with ⟨hcs, _⟩ | ⟨x, l, c2, m, k, D, Pl, hcs, _, hl, hm, hmm, _, hx⟩
  · simp [Value.cells] at hcs
    obtain ⟨rfl, rfl, rfl⟩ := hcs
    exact ⟨none, 0, 0, [], rfl, by omega, rfl, fun j p hj => by simp at hj⟩
  · simp [Value.cells] at hcs
    obtain ⟨rfl, rfl, rfl⟩ := hcs
    have ce : Try.prog.cellsOf 54 = 3 := by kernel_rfl
    have hlm : n ≤ m := by rw [hmm]; split <;> omega
    have each : ∀ i, i < n → ∃ q : Int × Bool × Value × List UInt8, W.cell? (x.add (i * 3)) = some (.int .i64 q.1) ∧ W.cell? ((x.add (i * 3)).add 1) = some (.bool q.2.1) ∧ W.cell? ((x.add (i * 3)).add 2) = some q.2.2.1 ∧ SlW W q.2.2.1 q.2.2.2 q.2.2.2.length := by
      intro i hi
      obtain ⟨cs', h1, h2⟩ := hx i (by omega)
      rw [ce] at h1
      obtain ⟨_, hlen, hcell⟩ := World.cells?_some h1
      obtain ⟨a, b, u, l, rfl, hl⟩ := act_trod Try.underlying54 rfl rfl rfl rfl rfl rfl hlen h2
      refine ⟨(a, b, u, l), by simpa [Addr.add] using hcell 0 (by omega), hcell 1 (by omega), hcell 2 (by omega), hl⟩
    obtain ⟨q, hq⟩ := Go.Deep.choose_lt each
    have hmx : maxLen ≤ 9223372036854775807 := by decide
    refine ⟨some x, n, c, (List.range n).map q, rfl, by omega, by simp, fun j p hj => ?_⟩
    have hjn : j < n := by
      have := (List.getElem?_eq_some_iff.1 hj).1
      simpa using this
    rw [List.getElem?_map, List.getElem?_range hjn] at hj
    simp only [Option.map_some, Option.some.injEq] at hj
    subst hj
    obtain ⟨b, o, sp⟩ := x
    have h00 := (hq 0 (by omega)).1
    have hsp : sp = none := by simpa [Addr.add] using World.cell?_spot h00
    subst hsp
    obtain ⟨h1, h2, h3, h4⟩ := hq j hjn
    rw [add_lit] at h1 h2 h3
    rw [add_lit] at h2 h3
    exact ⟨b, o, rfl, h1, h2, h3, h4⟩
end


set_option maxRecDepth 100000 in
theorem shaPlays_lifted (os : Os) (started : os.Started) (H : Type) (enc : TypeId × Value → H) :
    ReturnsInHanded {} Try.checked os 13 .any (Rows.shaPlaysSpec.pre6 enc Try.prog Try.f13 Rows.shaPlaysRow.domain false) (Rows.shaPlaysSpec.post enc Try.prog Try.f13 false true false false) := by
  refine returnsInHanded_of_change (C := Try.checked) own started (by kernel_rfl) Try.func13
    (ChangeSpec.witness6 (enc := enc) (C := Try.checked) false ⟨#[], #[.slice none 0 0], []⟩ 8 (by kernel_rfl) (by kernel_rfl) (by kernel_rfl) (by kernel_rfl)) ?_
  intro W base args ds gs before hval0 hW hcnd _
  have hval : ∀ (j : Nat) t v, Try.f13.params[j]? = some t → args[j]? = some v → Value.okWide Try.prog W .any base t v := hval0
  have hW' := hW
  obtain ⟨p, q, hA0, hV, rfl, hfz, hnd⟩ := hW
  have hA : DataW.TrodAll enc Try.prog W 0 (fun _ => true) true Try.f13.params.toList args.toList ds p := hA0
  rw [Try.params13] at hA hval
  obtain ⟨v0, vs0, d0, ds0, p0, q0, hargs, rfl, rfl, h0, r0⟩ := trodAll_cons hA
  obtain ⟨rfl, rfl, rfl⟩ := trodAll_nil r0
  obtain rfl : args = #[v0] := by cases args; simp_all
  obtain ⟨rfl, rfl⟩ := trodVars_none hV
  have k0 := h0
  have lt0 : ∀ x ∈ p0, x.block < W.heap.size := by obtain ⟨m, hm⟩ := k0; exact DataW.trod_lt m _ _ _ hm
  obtain ⟨A0, n0, c0, qs0, rfl, hm0, hn0, hq0⟩ := open_acts (hval 0 52 v0 rfl rfl) h0
  clear hA0 hval0
  refine (plays_any W A0 n0 c0 hm0 qs0 hn0 hq0).mono fun e W' ⟨he, bel⟩ => ?_
  subst he
  exact ⟨_, rfl, _, _, _, [], _, [], hW', trodAll_mk1 (shut_bool Try.underlying4 _), (trodAll_cons_mk (Below.trod laidOut (by kernel_rfl) (of_decide_eq_true (by kernel_rfl)) k0 bel lt0) trodAll_mk0), rfl, bel.frame _, fun h => by cases h⟩

theorem shaPlays_over : Rows.shaPlaysRow.holds Try.pinned (OpenSpec.ofChange Rows.shaPlaysSpec) :=
  OpenClaim.holds_of_wide 13 Try.f13 rfl rfl rfl rfl rfl rfl rfl ⟨rfl, rfl, rfl, rfl, rfl⟩ rfl rfl rfl rfl rfl (by kernel_rfl) Try.func13 (by kernel_rfl)
    (of_decide_eq_true (by kernel_rfl)) (by unfold Func.isWrapper; first | (rw [if_pos (by decide +kernel)]; kernel_rfl) | (rw [if_neg (by decide +kernel)]; exact ⟨rfl, rfl⟩))
    (fun os started H enc _ => shaPlays_lifted os started H enc)

/-- The statement. -/
theorem shaPlays_proved : Rows.ShaPlaysSaid := shaPlays_over

end Go.Proofs.Ytolboolbapbniaa
