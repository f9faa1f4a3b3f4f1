/- What a digit is worth: the program's search and the document's cases. -/
import Derived.Test.YtolboolbapbniaaText
namespace Go.Proofs.Ytolboolbapbniaa
open Go.RowKit Sp

/-- What a digit is worth; -1: it is none. -/
def digI (c : UInt8) : Int := Lib.indexByte hexes c
theorem digI_cases (c : UInt8) : digI c = if 48 ≤ ib c ∧ ib c ≤ 57 then ib c - 48 else if 97 ≤ ib c ∧ ib c ≤ 102 then ib c - 87 else -1 := by
  have : ∀ n : Nat, n < 256 → digI (UInt8.ofNat n) = if 48 ≤ (n : Int) ∧ (n : Int) ≤ 57 then (n : Int) - 48 else if 97 ≤ (n : Int) ∧ (n : Int) ≤ 102 then (n : Int) - 87 else -1 := by decide +kernel
  have h := this c.toNat c.toNat_lt
  rw [UInt8.ofNat_toNat] at h
  exact h
theorem digI_lo (c : UInt8) : -1 ≤ digI c := by rw [digI_cases]; have := ib_lo c; split <;> (try split) <;> omega
theorem digI_hi (c : UInt8) : digI c < 16 := by rw [digI_cases]; have := ib_lo c; split <;> (try split) <;> omega

set_option maxHeartbeats 400000 in
theorem digit_any (w : World) (c : UInt8) :
    Calls Try.prog 32 #[.int .u8 (ib c)] w fun e w' => e = .returned (.int .i64 (digI c)) ∧ w = w' := by
  have hlo := ib_lo c
  have hhi := ib_hi c
  have hd := digI_cases c
  revert hlo hhi hd
  generalize ib c = x
  generalize digI c = d
  intro hlo hhi hd
  by_cases h1 : 48 ≤ x
  · by_cases h2 : x ≤ 57
    · have e : d = x - 48 := by rw [hd, if_pos ⟨h1, h2⟩]
      subst e; clear hd
      go_enter Try.func32, Try.ntmps32
      go_wp2
      go_ret
      exact ⟨by first | rfl | (simp; omega), rfl⟩
    · by_cases h3 : 97 ≤ x
      · by_cases h4 : x ≤ 102
        · have e : d = x - 87 := by rw [hd, if_neg (fun h => h2 h.2), if_pos ⟨h3, h4⟩]
          have h2' : 57 < x := by omega
          subst e; clear hd h2
          go_enter Try.func32, Try.ntmps32
          go_wp2
          go_ret
          exact ⟨by first | rfl | (simp; omega), rfl⟩
        · have e : d = -1 := by rw [hd, if_neg (fun h => h2 h.2), if_neg (fun h => h4 h.2)]
          have h2' : 57 < x := by omega
          have h4' : 102 < x := by omega
          subst e; clear hd h2 h4
          go_enter Try.func32, Try.ntmps32
          go_wp2
          go_ret
          exact ⟨rfl, rfl⟩
      · have e : d = -1 := by rw [hd, if_neg (fun h => h2 h.2), if_neg (fun h => h3 h.1)]
        have h2' : 57 < x := by omega
        have h3' : x < 97 := by omega
        subst e; clear hd h2 h3
        go_enter Try.func32, Try.ntmps32
        go_wp2
        go_ret
        exact ⟨rfl, rfl⟩
  · have e : d = -1 := by rw [hd, if_neg (fun h => h1 h.1), if_neg (fun h => h1 (by omega))]
    have h1' : x < 48 := by omega
    have h3' : x < 97 := by omega
    subst e; clear hd h1
    go_enter Try.func32, Try.ntmps32
    go_wp2
    go_ret
    exact ⟨rfl, rfl⟩

/-- A constant's bytes: the row gets the run-time's mark behind its last cell. -/
theorem run_mark {P : Program} {t e : TypeId} (ht : P.underlying t = some (.slice e)) (he : P.underlying e = some (.int .u8)) (W : World) (g n c : Nat) (C : Array Value) (e' : TypeId) (fr : Nat × Nat) (h : W.heap[g]? = some (.cells C e' fr)) :
    ∃ W' fr', (convert t t (.slice (some ⟨g, 0, none⟩) n c)).run P W = .ok (.slice (some ⟨g, 0, none⟩) n c) W' ∧ W'.heap[g]? = some (.cells C e' fr') ∧ W.grownBy W' (some g) := by
  have hsh : W.shape? g = some (e', C.size) := by unfold World.shape?; rw [h]
  obtain ⟨lo, hi⟩ := fr
  refine ⟨W.freeze ⟨g, C.size, none⟩ 1, (if lo == hi then (C.size, C.size + 1) else (min lo C.size, max hi (C.size + 1))), ?_, ?_, ?_⟩
  · simp [convert, run_underlying ht, run_underlying he, markStringish, hsh]
  · unfold World.freeze
    rw [if_neg (by decide)]
    show (W.heap.modify g _)[g]? = _
    rw [Array.getElem?_modify, if_pos rfl, h]
    rfl
  · unfold World.freeze
    rw [if_neg (by decide)]
    refine ⟨rfl, rfl, rfl, by simp, fun k hk hne => ?_⟩
    show (W.heap.modify g _)[k]? = _
    rw [Array.getElem?_modify, if_neg (fun e => hne (by rw [e]))]

set_option maxHeartbeats 400000 in
theorem index_any (w : World) (g : Nat) (c : UInt8) (fr : Nat × Nat) (hg : w.heap[g]? = some (.cells (ucs hexes) 5 fr)) :
    Calls Try.prog 31 #[.slice (some ⟨g, 0, none⟩) 16 16, .int .u8 (ib c)] w fun e w' => e = .returned (.int .i64 (digI c)) ∧ w = w' := by
  have hc : ∀ i, i < 16 → w.cell? ⟨g, 0 + i, none⟩ = some (.int .u8 (([48, 49, 50, 51, 52, 53, 54, 55, 56, 57, 97, 98, 99, 100, 101, 102] : List Int).getD i 0)) := fun i hi => by
    rw [Nat.zero_add, cell_of_row w g i _ _ _ hg, ucs_get _ _ hi]
    have : i = 0 ∨ i = 1 ∨ i = 2 ∨ i = 3 ∨ i = 4 ∨ i = 5 ∨ i = 6 ∨ i = 7 ∨ i = 8 ∨ i = 9 ∨ i = 10 ∨ i = 11 ∨ i = 12 ∨ i = 13 ∨ i = 14 ∨ i = 15 := by omega
    rcases this with rfl | rfl | rfl | rfl | rfl | rfl | rfl | rfl | rfl | rfl | rfl | rfl | rfl | rfl | rfl | rfl <;> rfl
  have hr := Lib.run_indexByteSlice (P := Try.prog) w g 0 16 16 [48, 49, 50, 51, 52, 53, 54, 55, 56, 57, 97, 98, 99, 100, 101, 102] rfl hc (ib c)
  have he : Lib.bytesOf [48, 49, 50, 51, 52, 53, 54, 55, 56, 57, 97, 98, 99, 100, 101, 102] = hexes := rfl
  have hb : (ib c).toNat.toUInt8 = c := by simp [ib]
  rw [he, hb] at hr
  have HR := hd hr
  clear hr hc hg he hb
  go_enter Try.func31, Try.ntmps31
  go_wp2
  rw [run_callFunc_extern Try.func43 (by kernel_rfl) (by kernel_rfl) (by kernel_rfl) (e := Extern.BytealgIndexByte.indexByte) (by kernel_rfl), HR.out]
  simp only [Result.andThen]
  rw [Oper.upon_value]
  go_wp2
  go_ret
  exact ⟨rfl, rfl⟩

end Go.Proofs.Ytolboolbapbniaa
