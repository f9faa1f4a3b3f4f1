/- The plain laws of texts: what is written is read again. -/
import Derived.Test.YtolboolbapbniaaRparse
import Derived.ChangeKeysEq
namespace Go.Proofs.Ytolboolbapbniaa
open Go.RowKit Sp

theorem bg_cons2 (x y : UInt8) (l : List UInt8) (i : Nat) : bg (x :: y :: l) (i + 2) = bg l i := by simp [bg]
theorem hexT_bg : ∀ (l : List UInt8) (i : Nat), i < l.length → bg (hexT l) (2 * i) = hexd ((bg l i).toNat / 16) ∧ bg (hexT l) (2 * i + 1) = hexd ((bg l i).toNat % 16)
  | [], i, h => by simp at h
  | b :: l, 0, _ => by simp [hexT, bg]
  | b :: l, i + 1, h => by
    have ih := hexT_bg l i (by simpa using h)
    have e : bg (b :: l) (i + 1) = bg l i := by simp [bg]
    rw [hexT, e, show 2 * (i + 1) = 2 * i + 2 by omega, show 2 * i + 2 + 1 = 2 * i + 1 + 2 by omega, bg_cons2, bg_cons2]
    exact ih
theorem digI_hexd : ∀ n : Nat, n < 16 → digI (hexd n) = (n : Int) := by decide +kernel
theorem okB_hexT (l : List UInt8) (hl : l.length = 32) : okB (hexT l) 32 = true := by
  unfold okB
  rw [List.all_eq_true]
  intro i hi
  have hi' : i < 32 := by simpa using hi
  have h := hexT_bg l i (by omega)
  have hb := (bg l i).toNat_lt
  rw [h.1, h.2, digI_hexd _ (by omega), digI_hexd _ (by omega)]
  simp
  omega
theorem pk_hexT (l : List UInt8) (hl : l.length = 32) : pk (hexT l) 32 = l := by
  apply List.ext_getElem?
  intro i
  by_cases hi : i < 32
  · have h := hexT_bg l i (by omega)
    have hb := (bg l i).toNat_lt
    have e : (pk (hexT l) 32)[i]? = some (pb (hexT l) i) := by
      unfold pk
      rw [List.getElem?_append_left (by simp; exact hi)]
      simp [hi]
    rw [e]
    unfold pb
    rw [h.1, h.2, digI_hexd _ (by omega), digI_hexd _ (by omega)]
    simp only [Int.toNat_natCast]
    rw [show (bg l i).toNat / 16 * 16 + (bg l i).toNat % 16 = (bg l i).toNat by omega, UInt8.ofNat_toNat]
    have hl' : i < l.length := by omega
    simp [bg, List.getD_eq_getElem?_getD, hl']
  · rw [List.getElem?_eq_none (by rw [pk_length _ _ (Nat.le_refl _)]; omega), List.getElem?_eq_none (by omega)]
theorem parse_hexT (l : List UInt8) (hl : l.length = 32) : parseV (hexT l) = .tuple #[.agg (ucs l), .int .i64 0] := by
  rw [parse_yes _ (by rw [hexT_length, hl]) (okB_hexT l hl), pk_hexT l hl]
theorem parse_BA : parseV [66, 65] = .tuple #[.agg (ucs (List.replicate 32 0)), .int .i64 110] := parse_len _ (by decide)
/-- A digest is equal to itself. -/
theorem eqItems_same {P : Program} {e : TypeId} (he : P.underlying e = some (.int .u8)) (h1 : P.cellsOf e = 1) (hp : ∀ (c : Array Value) (i : Nat) (v : Value) (W : World), c[i]? = some v → (part e c i).run P W = .ok v W) (l : List UInt8) (d : Nat) (W : World) :
    ∀ is : List Nat, (∀ i ∈ is, i < l.length) → (Op.eqItems (d + 1) e 1 (ucs l) (ucs l) is).run P W = .ok true W
  | [], _ => by simp [Op.eqItems]
  | i :: is, h => by
    have hi := hp (ucs l) i _ W (ucs_get l i (h i (List.mem_cons_self ..)))
    have ih := eqItems_same he h1 hp l d W is (fun j hj => h j (List.mem_cons_of_mem _ hj))
    simp only [Op.eqItems, Nat.mul_one, Sem.run_bind, hi, Result.andThen_ok, run_equalIn_int W d e .u8 .u8 _ _ he, beq_self_eq_true]
    simpa using ih
theorem part_one (c : Array Value) (i : Nat) (v : Value) (W : World) (h : c[i]? = some v) : (part 5 c i).run Try.prog W = .ok v W := by
  obtain ⟨ha, hs⟩ := oneT_spec (show oneT Try.prog 5 = true by kernel_rfl)
  simp [part, ha, h]
theorem eq_digIn (l : List UInt8) (hl : l.length = 32) (W : World) : (Op.equalIn 10000 23 (.agg (ucs l)) (.agg (ucs l))).run Try.prog W = .ok true W := by
  obtain ⟨inf, hinf, _, _, _⟩ := info_parts infoB
  have h0 := run_equalIn_array (P := Try.prog) W 9999 (t := 23) (e := 5) (n := 32) (ucs l) (ucs l) (by kernel_rfl) hinf
  have h2 : Try.prog.cellsOf 5 = 1 := by kernel_rfl
  rw [h2, eqItems_same (by kernel_rfl) h2 part_one l 9998 W (List.range 32) (fun i hi => by rw [hl]; simpa using hi)] at h0
  exact h0

set_option maxRecDepth 100000 in
theorem abc8 : (hexT (sha [97, 98, 99])).take 8 = [98, 97, 55, 56, 49, 54, 98, 102] := by decide +kernel

end Go.Proofs.Ytolboolbapbniaa
