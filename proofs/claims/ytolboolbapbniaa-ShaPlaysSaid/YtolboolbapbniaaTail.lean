/- What stands behind so many bytes: the program's tail. -/
import Derived.Test.YtolboolbapbniaaPShaSumsx
import Derived.Test.YtolboolbapbniaaCopy
namespace Go.Proofs.Ytolboolbapbniaa
open Go.RowKit Sp Go.Proofs.Ytolboolbapbniaa.PShaSums Go.Proofs.YtolboolbapbniaaW.PrintWords

theorem tail_step (k n i : Nat) (x : List Int) (hi : i < 8) (hx : x.length < 1000) (hn : n ≤ 1152921504606846975) :
    sha_tail.l0 (k + 1) n x i = sha_tail.l0 k n (x ++ [ib (UInt8.ofNat (n * 8 / 2 ^ (56 - 8 * i)))]) ((i + 1 : Nat) : Int) := by
  have e1 : wrap64 (8 * (i : Int)) = ((8 * i : Nat) : Int) := by rw [IntWalk.wrap64_in _ (by omega)]; omega
  have e2 : wrap64 (56 - ((8 * i : Nat) : Int)) = ((56 - 8 * i : Nat) : Int) := by rw [IntWalk.wrap64_in _ (by omega)]; omega
  have e3 : wrap64 ((n : Int) * 8) = ((n * 8 : Nat) : Int) := by rw [IntWalk.wrap64_in _ (by omega)]; omega
  have e4 : wrap64 ((i : Int) + 1) = ((i + 1 : Nat) : Int) := by rw [IntWalk.wrap64_in _ (by omega)]; omega
  rw [sha_tail.l0, e1, e2, e3, e4, if_pos (by omega), if_pos (by omega), if_pos (by omega)]
  congr 3
  have e5 : (((n * 8 : Nat) : Int) / (2 ^ (56 - 8 * i) : Nat)) % 256 = ib (UInt8.ofNat (n * 8 / 2 ^ (56 - 8 * i))) := by
    unfold ib
    rw [UInt8.toNat_ofNat', ← Int.natCast_ediv]
    omega
  rw [← e5]
  unfold shr
  have e6 : min ((56 - 8 * i : Nat) : Int).toNat IntKind.i64.bits = 56 - 8 * i := by rw [Int.toNat_natCast]; exact Nat.min_eq_left (by show 56 - 8 * i ≤ 64; omega)
  rw [e6]
  rw [show ((2 ^ (56 - 8 * i) : Nat) : Int) = (2 : Int) ^ (56 - 8 * i) from Int.natCast_pow 2 _]

theorem tail_f (n : Nat) (hn : n ≤ 1152921504606846975) : sha_tail.f 9 n = some ((tail n).map ib) := by
  have e1 : Int.tmod (n : Int) 64 = ((n % 64 : Nat) : Int) := by rw [Int.tmod_eq_emod_of_nonneg (by omega)]; omega
  have e2 : wrap64 (119 - ((n % 64 : Nat) : Int)) = ((119 - n % 64 : Nat) : Int) := by rw [IntWalk.wrap64_in _ (by omega)]; omega
  have e3 : Int.tmod ((119 - n % 64 : Nat) : Int) 64 = (((119 - n % 64) % 64 : Nat) : Int) := by rw [Int.tmod_eq_emod_of_nonneg (by omega)]; omega
  rw [sha_tail.f, Option.bind_some, e1, e2, e3, if_pos (by omega), if_pos (by simp; omega), Int.toNat_natCast]
  generalize hz : (119 - n % 64) % 64 = z
  have hz64 : z < 64 := by omega
  have h0 := tail_step 8 n 0 ([128] ++ List.replicate z 0) (by omega) (by simp; omega) hn
  rw [show ((0 : Nat) : Int) = 0 from rfl] at h0
  rw [h0, tail_step 7 n 1 _ (by omega) (by simp; omega) hn, tail_step 6 n 2 _ (by omega) (by simp; omega) hn, tail_step 5 n 3 _ (by omega) (by simp; omega) hn, tail_step 4 n 4 _ (by omega) (by simp; omega) hn,
    tail_step 3 n 5 _ (by omega) (by simp; omega) hn, tail_step 2 n 6 _ (by omega) (by simp; omega) hn, tail_step 1 n 7 _ (by omega) (by simp; omega) hn]
  rw [sha_tail.l0, if_neg (by omega)]
  congr 1
  unfold tail len8
  rw [hz]
  simp [List.range_succ]
  exact ⟨rfl, .inr rfl⟩

theorem tail_any (w : World) (n : Nat) (hn : n ≤ 1152921504606846975) :
    Calls Try.prog 40 #[.int .i64 n] w fun e w' => ∃ v, e = .returned v ∧ w'.ownsRow w.heap.size 5 1 v (tail n).length (bcs (tail n)) ∧ Below w.heap.size w w' := by
  refine (sha_tail.calls 9 n _ w (tail_f n hn)).mono ?_
  rintro e w' ⟨v, he, hr, hb⟩
  refine ⟨v, he, ?_, hb⟩
  have h := Kd.own_of_R hr
  rw [List.length_map] at h
  have e1 : bcs (tail n) = encs (Value.int .u8) ((tail n).map ib) := by simp [bcs, encs, List.map_map, Function.comp_def]
  rw [e1]
  exact h

end Go.Proofs.Ytolboolbapbniaa
