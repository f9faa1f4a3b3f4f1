/- What the laws share: a slice of bytes as a text; appends of bytes. -/
import Derived.Test.YtolboolbapbniaaRsum
import Derived.Test.YtolboolbapbniaaWorks
namespace Go.Proofs.Ytolboolbapbniaa
open Go.RowKit Sp

/-- A slice of bytes, turned to a string. -/
theorem sl_text {w : World} {v : Value} {l : List UInt8} {n : Nat} (h : SlW w v l n) (hl : l.length = n) :
    (convert 33 9 v).run Try.prog w = .ok (.string ⟨l.toArray⟩) w := by
  obtain ⟨A, c, rfl, h1, h2, h3, h4⟩ := h
  subst hl
  cases A with
  | none =>
    obtain ⟨h5, rfl⟩ := h3 rfl
    obtain rfl := List.eq_nil_of_length_eq_zero h5
    rw [run_convert_bytes_string w _ _ _ _ _ _ Try.underlying33 Try.underlying5 Try.underlying9]
    rfl
  | some a =>
    exact run_convert_bytes_back (P := Try.prog) w 33 9 5 a c l (by kernel_rfl) (by kernel_rfl) (by kernel_rfl) (fun j hj => by
      obtain ⟨a', ha, hc⟩ := h4 j (.int .u8 (ib l[j])) (by simp [bcs, hj])
      cases ha
      exact hc)
/-- The first cells of a row of one's own, as a slice. -/
theorem own_sl {w : World} {base n : Nat} {v : Value} {l : List UInt8} (h : w.ownsRow base 5 1 v n (bcs l)) : SlW w v l n := by
  obtain ⟨A, c, e, h1, h2, h3, _, h5⟩ := own_cl h
  exact ⟨A, c, e, h1, h2, h5, h3⟩
theorem own_head {w : World} {base n g c : Nat} {l r : List UInt8} (h : w.ownsRow base 5 1 (.slice (some ⟨g, 0, none⟩) n c) n (bcs (l ++ r))) : SlW w (.slice (some ⟨g, 0, none⟩) l.length c) l l.length := by
  obtain ⟨A, c', e, h1, h2, h3, _, _⟩ := own_cl h
  cases e
  have h9 := h.1
  rw [bcs_length, List.length_append] at h9
  refine ⟨_, _, rfl, by omega, h2, (fun e => nomatch e), ?_⟩
  have h8 := h3.take l.length
  rw [bcs_take, List.take_append_of_le_length (Nat.le_refl _), List.take_length] at h8
  exact h8
theorem own_block {w : World} {base e size n : Nat} {v : Value} {xs : List Value} (h : w.ownsRow base e size v n xs) : ∀ g, v.ownBlock = some g → base ≤ g ∧ g < w.heap.size := h.lt
theorem below_grown2 {B : Nat} {w w' : World} {row : Option Nat} (hB : B ≤ w.heap.size) (hg : w.grownBy w' row) (h : ∀ k, row = some k → B ≤ k) : Below B w w' := (Below.refl B w).grown hg hB h
/-- make of bytes. -/
theorem make_bytes (n : Nat) (hn : n ≤ 140737488355328) (W : World) :
    (Instr.makeSlice 33 (.int .i64 (n : Int)) (.int .i64 (n : Int))).run Try.prog W = .ok (.slice (some ⟨W.heap.size, 0, none⟩) n n) (W.alloc (.cells (ucs (List.replicate n 0)) 5)) := by
  obtain ⟨i, hi, hz, hs, hb⟩ := info_parts infoB
  have h := run_make (P := Try.prog) W 33 5 i (.int .u8 0) (by kernel_rfl) hi hz .i64 .i64 (n : Int) (n : Int) (by omega) (Int.le_refl _) (by rw [hb]; omega) (by omega)
  rw [Int.toNat_natCast, hs, Nat.mul_one] at h
  rw [h]
  congr 3
  apply Array.toList_inj.1
  rw [show (Value.int IntKind.u8 0).cells = #[.int .u8 0] from rfl, toList_madeCells_one]
  simp [ucs, bcs, ib]
theorem ucs_list (l : List UInt8) : (ucs l).toList = bcs l := by simp [ucs]
theorem own_made {w : World} {base : Nat} (l : List UInt8) (hb : base ≤ w.heap.size) (hm : l.length ≤ maxLen) :
    (w.alloc (.cells (ucs l) 5)).ownsRow base 5 1 (.slice (some ⟨w.heap.size, 0, none⟩) l.length l.length) l.length (bcs l) := by
  have h := World.ownsRow_lit (base := base) (e := 5) (size := 1) w (ucs l) l.length hb hm (by rw [ucs_size, Nat.mul_one])
  rwa [ucs_list] at h

end Go.Proofs.Ytolboolbapbniaa
