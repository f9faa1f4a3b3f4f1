/- Walks of the small functions of package sha: none, RotateLeft32, word, mixed and its closure. -/
import Derived.Test.YtolboolbapbniaaRows
import Derived.Test.YtolboolbapbniaaMem
import Derived.BigQuiet
import Derived.Deep.QuietTactic
namespace Go.Proofs.Ytolboolbapbniaa
open Go.RowKit Sp

set_option maxHeartbeats 400000 in
theorem none_nil (w : World) :
    Calls Try.prog 35 #[.pointer none] w fun e w' => e = .returned (.bool true) ∧ w = w' := by
  go_enter Try.func35, Try.ntmps35
  go_wp2
  go_ret
  exact ⟨rfl, rfl⟩

set_option maxHeartbeats 400000 in
theorem none_some (w : World) (b : Nat) (hm : w.cell? ⟨b, 10, none⟩ = some (.bool true)) :
    Calls Try.prog 35 #[.pointer (some ⟨b, 0, none⟩)] w fun e w' => e = .returned (.bool false) ∧ w = w' := by
  go_enter Try.func35, Try.ntmps35
  go_wp2
  go_ret
  exact ⟨rfl, rfl⟩

set_option maxHeartbeats 400000 in
theorem rot_any (w : World) (x : W32) (n : Nat) (h1 : 1 ≤ n) (h2 : n ≤ 31) :
    Calls Try.prog 54 #[.int .u32 (iw x), .int .i64 (-(n : Int))] w fun e w' => e = .returned (.int .u32 (iw (rotr x n))) ∧ w = w' := by
  have hfin : bits BinOp.or IntKind.u32 (iw x * 2 ^ (32 - n) % 4294967296) (iw x / 2 ^ (32 - (32 - n))) = iw (rotr x n) := by
    have e1 : iw x * 2 ^ (32 - n) % 4294967296 = iw (x <<< (32 - n)) := by rw [← iw_shl]; rfl
    have e2 : iw x / 2 ^ (32 - (32 - n)) = iw (x >>> n) := by
      rw [show 32 - (32 - n) = n by omega, ← iw_shr]; rfl
    rw [e1, e2, iw_or]; unfold rotr; rw [BitVec.or_comm]
  have A := rot_and n h1 h2
  have B : ((32 : Int) - n).toNat = 32 - n := by omega
  have C : 0 ≤ (32 : Int) - n := by omega
  have D : (32 : Int) - n ≤ 32 := by omega
  have Hfin := hd hfin
  clear hfin
  go_enter Try.func54, Try.ntmps54
  go_wp2
  go_ret
  exact ⟨by rw [← Hfin.out]; rfl, rfl⟩

theorem word_eq (x0 x1 x2 x3 : UInt8) :
    bits BinOp.or IntKind.u32 (bits BinOp.or IntKind.u32 (bits BinOp.or IntKind.u32 (ib x0 % 4294967296 * 16777216 % 4294967296) (ib x1 % 4294967296 * 65536 % 4294967296)) (ib x2 % 4294967296 * 256 % 4294967296)) (ib x3 % 4294967296)
      = iw (wordOf x0 x1 x2 x3) := by
  have e : ∀ a b : W32, a &&& b = 0#32 → iw (a ||| b) = iw (a + b) := fun a b h => by rw [BitVec.add_eq_or_of_and_eq_zero a b h]
  have l0 := x0.toNat_lt
  have l1 := x1.toNat_lt
  have l2 := x2.toNat_lt
  have l3 := x3.toNat_lt
  have f : ∀ (y : UInt8) (k : Nat), y.toNat * k < 4294967296 → ib y % 4294967296 * (k : Int) % 4294967296 = iw (BitVec.ofNat 32 (y.toNat * k)) := by
    intro y k h
    have := y.toNat_lt
    unfold ib iw
    rw [BitVec.toNat_ofNat, Nat.mod_eq_of_lt (by simpa using h)]
    have e1 : ((y.toNat : Int) % 4294967296) = y.toNat := by omega
    rw [e1, ← Int.natCast_mul]; omega
  have f0 := f x0 16777216 (by omega)
  have f1 := f x1 65536 (by omega)
  have f2 := f x2 256 (by omega)
  have f3 := f x3 1 (by omega)
  rw [show ib x3 % 4294967296 = ib x3 % 4294967296 * ((1 : Nat) : Int) % 4294967296 by omega, f3]
  rw [show ((16777216 : Nat) : Int) = 16777216 from rfl] at f0
  rw [show ((65536 : Nat) : Int) = 65536 from rfl] at f1
  rw [show ((256 : Nat) : Int) = 256 from rfl] at f2
  rw [f0, f1, f2, iw_or, iw_or, iw_or]
  congr 1
  unfold wordOf
  rw [← BitVec.toNat_inj]
  rw [BitVec.toNat_or, BitVec.toNat_or, BitVec.toNat_or]
  simp only [BitVec.toNat_ofNat]
  rw [Nat.mod_eq_of_lt (show x0.toNat * 16777216 < 2 ^ 32 by omega), Nat.mod_eq_of_lt (show x1.toNat * 65536 < 2 ^ 32 by omega),
    Nat.mod_eq_of_lt (show x2.toNat * 256 < 2 ^ 32 by omega), Nat.mod_eq_of_lt (show x3.toNat * 1 < 2 ^ 32 by omega),
    Nat.mod_eq_of_lt (show x0.toNat * 16777216 + x1.toNat * 65536 + x2.toNat * 256 + x3.toNat < 2 ^ 32 by omega)]
  have g : ∀ (a b K i : Nat), K = 2 ^ i → b < K → a * K ||| b = a * K + b := fun a b K i hK h => by
    subst hK; rw [Nat.mul_comm]; exact (Nat.two_pow_add_eq_or_of_lt h a).symm
  have g1 : x0.toNat * 16777216 ||| x1.toNat * 65536 = (x0.toNat * 256 + x1.toNat) * 65536 := by
    rw [g x0.toNat (x1.toNat * 65536) 16777216 24 (by decide) (by omega)]; omega
  have g2 : (x0.toNat * 256 + x1.toNat) * 65536 ||| x2.toNat * 256 = (x0.toNat * 65536 + x1.toNat * 256 + x2.toNat) * 256 := by
    rw [g (x0.toNat * 256 + x1.toNat) (x2.toNat * 256) 65536 16 (by decide) (by omega)]; omega
  have g3 : (x0.toNat * 65536 + x1.toNat * 256 + x2.toNat) * 256 ||| x3.toNat * 1 = x0.toNat * 16777216 + x1.toNat * 65536 + x2.toNat * 256 + x3.toNat := by
    rw [g (x0.toNat * 65536 + x1.toNat * 256 + x2.toNat) (x3.toNat * 1) 256 8 (by decide) (by omega)]; omega
  rw [g1, g2, g3]

set_option maxHeartbeats 400000 in
theorem word_any (w : World) (b o n c : Nat) (x0 x1 x2 x3 : UInt8) (hn : 4 ≤ n) (h0 : w.cell? ⟨b, o, none⟩ = some (.int .u8 (ib x0))) (h1 : w.cell? ⟨b, o+1, none⟩ = some (.int .u8 (ib x1))) (h2 : w.cell? ⟨b, o+2, none⟩ = some (.int .u8 (ib x2))) (h3 : w.cell? ⟨b, o+3, none⟩ = some (.int .u8 (ib x3))) :
    Calls Try.prog 47 #[.slice (some ⟨b, o, none⟩) n c] w fun e w' => e = .returned (.int .u32 (iw (wordOf x0 x1 x2 x3))) ∧ ∃ m, w' = w.drewN m := by
  have a0 : 0 < n := by omega
  have a1 : 1 < n := by omega
  have a2 : 2 < n := by omega
  have a3 : 3 < n := by omega
  clear hn
  go_enter Try.func47, Try.ntmps47
  go_wp2
  go_quiet (fail)
  go_wp2
  go_ret
  exact ⟨by rw [← word_eq]; rfl, _, rfl⟩

set_option maxHeartbeats 400000 in
theorem mixed_any (w : World) (A : Option Addr) (n c : Nat) :
    Calls Try.prog 48 #[.slice A n c] w fun e w' => e = .returned (.func (.func 53) #[] #[.pointer (some ⟨w.heap.size, 0, none⟩)]) ∧ w' = w.alloc (.cells #[.slice A n c] 37) := by
  go_enter Try.func48, Try.ntmps48
  go_wp2
  go_ret
  exact ⟨rfl, rfl⟩

def mixF (ns : List Nat) (x : W32) : W32 := ns.foldl (fun a n => a ^^^ rotr x n) 0

set_option maxHeartbeats 400000 in
theorem mix_any (w : World) (x : W32) (p b o c : Nat) (ns : List Nat) (hp : w.cell? ⟨p, 0, none⟩ = some (.slice (some ⟨b, o, none⟩) ns.length c)) (hlen : ns.length ≤ 1000)
    (hc : ∀ i (h : i < ns.length), w.cell? ⟨b, o + i, none⟩ = some (.int .i64 (ns[i] : Int))) (hr : ∀ n ∈ ns, 1 ≤ n ∧ n ≤ 31) :
    Calls Try.prog 53 #[.int .u32 (iw x), .pointer (some ⟨p, 0, none⟩)] w fun e w' => e = .returned (.int .u32 (iw (mixF ns x))) ∧ w = w' := by
  have Hc := hd hc
  have Hr := hd hr
  clear hc hr
  go_enter Try.func53, Try.ntmps53
  go_wp2
  go_loop [3, 8] (fun v i => ∃ k : Nat, k ≤ ns.length ∧ i = .int .i64 k ∧ v = .int .u32 (iw (mixF (ns.take k) x))) (fun _ i => ns.length - (intOf i).toNat)
  case atStart => exact ⟨0, Nat.zero_le _, rfl, rfl⟩
  case round =>
    obtain ⟨k, hk, rfl, rfl⟩ := hrel
    by_cases hlt : k < ns.length
    · have hcell := Hc.out k hlt
      obtain ⟨n, hn⟩ : ∃ n, ns[k] = n := ⟨_, rfl⟩
      obtain ⟨hr1, hr2⟩ := Hr.out ns[k] (List.getElem_mem hlt)
      rw [hn] at hcell hr1 hr2
      have Hn := hd hn
      clear hn
      go_wp2_with (go_at_call 54; refine (rot_any _ _ _ hr1 hr2).mono ?_; rintro e w' ⟨rfl, rfl⟩)
      go_round
      case rel => exact ⟨k + 1, by omega, by go_num, by rw [iw_xor, List.take_succ_eq_append_getElem hlt, Hn.out]; simp [mixF, List.foldl_append]⟩
      case measure => simp [intOf]; omega
    · have hke : ns.take k = ns := List.take_of_length_le (by omega)
      have Hke := hd hke
      clear hke
      go_wp2
      go_ret
      exact ⟨congrArg (fun l => Ending.returned (.int .u32 (iw (mixF l x)))) Hke.out, rfl⟩

/-- A closure's cells: the box with the list of turns, and that list; all beyond block lo. -/
def Mixer (lo : Nat) (w : World) (p : Nat) (ns : List Nat) : Prop :=
  lo < p ∧ w.heap.size > p ∧ ∃ b, lo < b ∧ w.heap[p]? = some (.cells #[.slice (some ⟨b, 0, none⟩) ns.length ns.length] 37 (0, 0)) ∧
    w.heap[b]? = some (.cells (ns.map fun (n : Nat) => Value.int .i64 (n : Int)).toArray 3 (0, 0))
theorem Mixer.keep {lo p : Nat} {w w' : World} {ns : List Nat} (h : Mixer lo w p ns) (hk : ∀ k o, lo < k → w.heap[k]? = some o → w'.heap[k]? = some o) : Mixer lo w' p ns := by
  obtain ⟨h1, _, b, h2, h3, h4⟩ := h
  exact ⟨h1, blk_lt (hk _ _ h1 h3), b, h2, hk _ _ h1 h3, hk _ _ h2 h4⟩
theorem Mixer.call {lo p : Nat} {w : World} {ns : List Nat} (h : Mixer lo w p ns) (hlen : ns.length ≤ 1000) (hr : ∀ n ∈ ns, 1 ≤ n ∧ n ≤ 31) (x : W32) :
    Calls Try.prog 53 #[.int .u32 (iw x), .pointer (some ⟨p, 0, none⟩)] w fun e w' => e = .returned (.int .u32 (iw (mixF ns x))) ∧ w = w' := by
  obtain ⟨_, _, b, _, h3, h4⟩ := h
  refine mix_any w x p b 0 ns.length ns (by rw [blk_cell h3]; rfl) hlen (fun i hi => ?_) hr
  rw [Nat.zero_add, blk_cell h4]
  simp [hi]

end Go.Proofs.Ytolboolbapbniaa
