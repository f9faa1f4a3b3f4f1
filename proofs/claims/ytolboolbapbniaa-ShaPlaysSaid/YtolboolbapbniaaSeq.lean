/- The whole blocks of bytes: the iterator of sha.blocks. -/
import Derived.Test.YtolboolbapbniaaRows
import Derived.Test.YtolboolbapbniaaRange
import Derived.Test.YtolboolbapbniaaSlc
import Derived.Shelf.Abstract
import Derived.Shelf.RegionOpen
import Derived.OwnWalkIn
import Derived.TacticsInMore
import Derived.LoopNIn
import Derived.LoopIn
namespace Go.Proofs.Ytolboolbapbniaa
open Go.RowKit Go.Shelf Sp
attribute [local go_sem] Oper.semAt_some

/-- How many bytes are still to come, read off the box. -/
def boxLen (B : Nat) (W : World) : Nat :=
  match W.cell? ⟨B, 0, none⟩ with
  | some (.slice _ n _) => n
  | _ => 0
theorem box_len {W : World} {B : Nat} {t : TypeId} {X : Option Addr} {n c : Nat} (h : Boxed W B t (.slice X n c)) : boxLen B W = n := by
  unfold boxLen; rw [h.cell]
theorem range_prefix {i n : Nat} (h : i < n) : List.range i ++ [i] <+: List.range n := by
  rw [← List.range_succ]
  have h1 : (List.range n).take (i + 1) = List.range (i + 1) := by rw [List.take_range, Nat.min_eq_left h]
  rw [← h1]
  exact List.take_prefix _ _

set_option maxHeartbeats 1000000 in
theorem blocks_any (w : World) (A : Option Addr) (m c : Nat) :
    Calls Try.prog 37 #[.slice A m c] w fun e w' => e = .returned (.func (.func 46) #[] #[.pointer (some ⟨w.heap.size, 0, none⟩)]) ∧ w' = w.alloc (.cells #[.slice A m c] 33) := by
  go_enter Try.func37, Try.ntmps37
  go_wp2_with fail
  go_ret
  exact ⟨rfl, rfl⟩

set_option maxRecDepth 100000 in
set_option maxHeartbeats 1000000 in
theorem seq_any (F : Fence) (n : Nat) (hF : F.fn 46) (hro : F.round = none) (hn : 1 ≤ n) (B b o m c : Nat) (A : Option Addr) (hA : 64 ≤ m → A = some ⟨b, o, none⟩) (hmc : m ≤ c)
    (w : World) (hB : Boxed w B 33 (.slice A m c)) :
    IterC F n Try.prog 46 #[.pointer (some ⟨B, 0, none⟩)] (fun i : Nat => #[.slice (some ⟨b, o + 64 * i, none⟩) 64 (c - 64 * i)]) (fun k => k = B) (fun k => k = B) (List.range (m / 64)) w := by
  intro l J Jx W hW hJ hJx hY h0
  have hB' : Boxed W B 33 (.slice A m c) := (hW.block B hB.lt).trans hB
  have hBs := hB.lt
  clear hB
  refine callsIn_of_wp Try.func46 rfl hF ?_ hro
  simp only [Try.ntmps46, List.size_toArray, List.length_cons, List.length_nil, Nat.reduceAdd, Nat.reduceSub, Array.replicate_succ, Array.replicate_zero, List.push_toArray, List.append_toArray, List.nil_append, List.cons_append]
  gi_wp2
  gi_loopw [13] (fun _ wr => ∃ (i : Nat) (X : Option Addr), i ≤ m / 64 ∧ Boxed wr B 33 (.slice X (m - 64 * i) (c - 64 * i)) ∧ (64 ≤ m - 64 * i → X = some ⟨b, o + 64 * i, none⟩) ∧ J (List.range i) wr)
    (fun _ wr => boxLen B wr)
  case atStart => exact ⟨0, A, Nat.zero_le _, hB', hA, h0⟩
  case round =>
    obtain ⟨i, X, hi, hb, hX, hJs⟩ := hrel
    have hc := hb.cell
    have hf := hb.frozen
    have hlen := box_len hb
    by_cases hge : 64 ≤ m - 64 * i
    · obtain rfl := hX hge
      have hge' : (64 : Int) ≤ ((m - 64 * i : Nat) : Int) := by omega
      obtain ⟨fn, tmps, assign, body, hy, hR⟩ := hY (List.range i) i wr hJs (range_prefix (by omega))
      gi_wp2
      refine hR.mono ?_
      rintro e W3 (⟨rfl, hJ3, hk3⟩ | ⟨rfl, hJx3⟩)
      · have hb3 : Boxed W3 B 33 (.slice (some ⟨b, o + 64 * i, none⟩) (m - 64 * i) (c - 64 * i)) := (hk3.same B rfl).trans hb
        have hc3 := hb3.cell
        have hf3 := hb3.frozen
        have hcc : c - 64 * i - 64 = c - 64 * (i + 1) := by omega
        have hmm : m - 64 * i - 64 = m - 64 * (i + 1) := by omega
        have hle : ((64 : Int)) ≤ ((m - 64 * i : Nat) : Int) := hge'
        gi_wp2
        have hs : Boxed (W3.setCell ⟨B, 0, none⟩ (Value.slice (if c - 64 * i = 64 then some ⟨b, o + 64 * i, none⟩ else some ⟨b, o + 64 * i + 64, none⟩) (m - 64 * (i + 1)) (c - 64 * (i + 1)))) B 33 (Value.slice (if c - 64 * i = 64 then some ⟨b, o + 64 * i, none⟩ else some ⟨b, o + 64 * i + 64, none⟩) (m - 64 * (i + 1)) (c - 64 * (i + 1))) := hb3.set _
        refine ⟨⟨i + 1, _, by omega, hs, fun h => ?_, ?_⟩, ?_⟩
        · rw [if_neg (by omega)]
          congr 2
        · rw [List.range_succ]
          exact hJ.own hJ3 rfl (grownBy_setCell' _ _ _)
        · rw [box_len hs, hlen]; omega
      · gi_wp2
        go_end0
        exact ⟨⟨_, rfl⟩, .inr ⟨List.range i ++ [i], range_prefix (by omega), hJx3⟩⟩
    · have hlt : ((m - 64 * i : Nat) : Int) < 64 := by omega
      have he : m / 64 = i := by omega
      gi_wp2
      refine ⟨fun _ h => (by cases h), ?_⟩
      gi_wp2
      go_end0
      exact ⟨⟨_, rfl⟩, .inl (by rw [he]; exact hJs)⟩

end Go.Proofs.Ytolboolbapbniaa
