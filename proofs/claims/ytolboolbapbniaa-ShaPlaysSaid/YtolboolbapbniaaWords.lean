/- The document's words out of roots, and its turns: what the printed contracts come to. -/
import Derived.Test.YtolboolbapbniaaPShaSumsx
import Derived.Test.YtolboolbapbniaaTail
namespace Go.Proofs.Ytolboolbapbniaa
open Go.RowKit Sp Go.Proofs.Ytolboolbapbniaa.PShaSums Go.Proofs.YtolboolbapbniaaW.PrintWords

set_option maxRecDepth 1000000 in
theorem words_no : cachetref01_words.f 400 false = some (init.list.map iw) := by decide +kernel
set_option maxRecDepth 1000000 in
theorem words_yes : cachetref01_words.f 6000 true = some (kl.map iw) := by decide +kernel

theorem turn_one (x : W32) : ((Int.tdiv (iw x) 2) % 4294967296 + ((Int.tmod (iw x) 2) * 2147483648) % 4294967296) % 4294967296 = iw (rotr x 1) := by
  have h1 := iw_lo x
  have h2 := iw_hi x
  rw [Int.tdiv_eq_ediv_of_nonneg h1, Int.tmod_eq_emod_of_nonneg h1]
  have e : (rotr x 1).toNat = x.toNat / 2 + x.toNat % 2 * 2147483648 := by
    have hx := x.isLt
    unfold rotr
    rw [BitVec.toNat_or, BitVec.toNat_ushiftRight, BitVec.toNat_shiftLeft, Nat.shiftRight_eq_div_pow, Nat.shiftLeft_eq, Nat.or_comm]
    have h3 : x.toNat * 2 ^ (32 - 1) % 2 ^ 32 = 2 ^ 31 * (x.toNat % 2) := by omega
    rw [h3, ← Nat.two_pow_add_eq_or_of_lt (by omega)]
    omega
  unfold iw at *
  rw [e]
  omega
theorem rotr_bit (x : W32) (n i : Nat) (hn : n ≤ 31) (hi : i < 32) : (rotr x n).getLsbD i = if i + n < 32 then x.getLsbD (i + n) else x.getLsbD (i + n - 32) := by
  unfold rotr
  rw [BitVec.getLsbD_or, BitVec.getLsbD_ushiftRight, BitVec.getLsbD_shiftLeft]
  by_cases h : i + n < 32
  · rw [if_pos h]
    have h1 : decide (i < 32 - n) = true := by simp; omega
    simp [h1, Nat.add_comm]
  · rw [if_neg h]
    have h1 : decide (i < 32 - n) = false := by simp; omega
    have h2 : x.getLsbD (n + i) = false := BitVec.getLsbD_of_ge _ _ (by omega)
    rw [h2, h1, show i - (32 - n) = i + n - 32 by omega]
    simp [hi]
theorem rotr_add (x : W32) (a b : Nat) (h : a + b ≤ 31) : rotr (rotr x a) b = rotr x (a + b) := by
  apply BitVec.eq_of_getLsbD_eq
  intro i hi
  rw [rotr_bit _ _ _ (by omega) hi, rotr_bit _ _ _ h hi]
  by_cases h1 : i + b < 32
  · rw [if_pos h1, rotr_bit _ _ _ (by omega) h1, show i + b + a = i + (a + b) by omega]
  · rw [if_neg h1, rotr_bit _ _ _ (by omega) (by omega), if_pos (by omega), if_neg (by omega), show i + b - 32 + a = i + (a + b) - 32 by omega]
theorem rotr_zero (x : W32) : rotr x 0 = x := by
  apply BitVec.eq_of_getLsbD_eq
  intro i hi
  rw [rotr_bit _ _ _ (by omega) hi, if_pos (by omega)]; rfl
theorem turn_any (n : Nat) (hn : n ≤ 31) : ∀ (k i : Nat) (x : W32), i + k = n → cachetref01_turned.l0 (k + 1) (iw (rotr x i)) n i = some (iw (rotr x n))
  | 0, i, x, h => by
    rw [cachetref01_turned.l0, if_neg (by omega), show i = n by omega]
  | k + 1, i, x, h => by
    have e1 : wrap64 ((i : Int) + 1) = ((i + 1 : Nat) : Int) := by rw [IntWalk.wrap64_in _ (by omega)]; omega
    rw [cachetref01_turned.l0, if_pos (by omega), turn_one, rotr_add _ _ _ (by omega), e1]
    exact turn_any n hn k (i + 1) x (by omega)


theorem turned_any (w : World) (x : W32) (n : Nat) (hn : n ≤ 31) :
    Calls Try.prog 52 #[.int .u32 (iw x), .int .i64 n] w fun e w' => e = .returned (.int .u32 (iw (rotr x n))) ∧ ∃ m, w.drewN m = w' := by
  refine (cachetref01_turned.calls (n + 1) (iw x) n _ w (by
    have h := turn_any n hn n 0 x (by omega)
    rw [rotr_zero] at h
    exact h)).mono ?_
  rintro e w' ⟨he, ⟨m, hm⟩⟩
  exact ⟨he, m, hm.symm⟩

theorem words_any (w : World) (b : Bool) :
    Calls Try.prog 41 #[.bool b] w fun e w' => ∃ v, e = .returned v ∧ w'.ownsRow w.heap.size 64 1 v (if b then 64 else 8) (wcs (if b then kl else init.list)).toList ∧ Below w.heap.size w w' := by
  have conv : ∀ (l : List W32) (w' : World) (v : Value), Kd.R (Kd.int .u32) 64 w' w.heap.size (fun _ => True) v (l.map iw) → w'.ownsRow w.heap.size 64 1 v l.length (wcs l).toList := fun l w' v h => by
    have h1 := Kd.own_of_R h
    rw [List.length_map] at h1
    have e1 : (wcs l).toList = encs (Value.int .u32) (l.map iw) := by simp [wcs, encs, List.map_map, Function.comp_def]
    rw [e1]; exact h1
  cases b with
  | true =>
    refine (cachetref01_words.calls 6000 true _ w words_yes).mono ?_
    rintro e w' ⟨v, he, hr, hb⟩
    exact ⟨v, he, conv kl w' v hr, hb⟩
  | false =>
    refine (cachetref01_words.calls 400 false _ w words_no).mono ?_
    rintro e w' ⟨v, he, hr, hb⟩
    exact ⟨v, he, conv init.list w' v hr, hb⟩

end Go.Proofs.Ytolboolbapbniaa
