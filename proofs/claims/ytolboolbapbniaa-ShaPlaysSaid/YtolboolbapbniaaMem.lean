/- Words and bytes as the walk writes them. -/
import Derived.Test.YtolboolbapbniaaSpec
import Derived.WalkKit
import Derived.WalkSpells
import Derived.WalkLawsBesides
namespace Go.Proofs.Ytolboolbapbniaa
open Go.RowKit Sp

/-- A fact that the walk shall not see. -/
theorem hd {p : Prop} (h : p) : Hid p := h

/-- A word, a byte, as the number in a cell. -/
def iw (x : W32) : Int := (x.toNat : Int)
def ib (b : UInt8) : Int := (b.toNat : Int)
theorem iw_lo (x : W32) : 0 ≤ iw x := Int.natCast_nonneg _
theorem iw_hi (x : W32) : iw x < 4294967296 := by have := x.isLt; unfold iw; omega
theorem ib_lo (b : UInt8) : 0 ≤ ib b := Int.natCast_nonneg _
theorem ib_hi (b : UInt8) : ib b < 256 := by have := b.toNat_lt; unfold ib; omega

theorem iw_add (x y : W32) : (iw x + iw y) % 4294967296 = iw (x + y) := by
  unfold iw; rw [BitVec.toNat_add]; omega
theorem iw_bits (x : W32) : BitVec.ofInt 32 (iw x) = x := by
  unfold iw; apply BitVec.eq_of_toNat_eq; simp
theorem iw_wrap (x : W32) : IntKind.u32.wrap (x.toNat : Int) = iw x := by
  rw [IntKind.wrap_u32]; unfold iw; have := x.isLt; omega
theorem iw_xor (x y : W32) : bits .xor .u32 (iw x) (iw y) = iw (x ^^^ y) := by
  show IntKind.u32.wrap ((BitVec.ofInt 32 (iw x) ^^^ BitVec.ofInt 32 (iw y)).toNat : Int) = _
  rw [iw_bits, iw_bits, iw_wrap]
theorem iw_and (x y : W32) : bits .and .u32 (iw x) (iw y) = iw (x &&& y) := by
  show IntKind.u32.wrap ((BitVec.ofInt 32 (iw x) &&& BitVec.ofInt 32 (iw y)).toNat : Int) = _
  rw [iw_bits, iw_bits, iw_wrap]
theorem iw_or (x y : W32) : bits .or .u32 (iw x) (iw y) = iw (x ||| y) := by
  show IntKind.u32.wrap ((BitVec.ofInt 32 (iw x) ||| BitVec.ofInt 32 (iw y)).toNat : Int) = _
  rw [iw_bits, iw_bits, iw_wrap]
theorem iw_shr (x : W32) (n : Nat) : iw x / (2 ^ n : Nat) = iw (x >>> n) := by
  unfold iw; rw [BitVec.toNat_ushiftRight, Nat.shiftRight_eq_div_pow]; rfl
theorem iw_shl (x : W32) (n : Nat) : iw x * (2 ^ n : Nat) % 4294967296 = iw (x <<< n) := by
  unfold iw; rw [BitVec.toNat_shiftLeft, Nat.shiftLeft_eq]
  show ((x.toNat : Int) * ((2 ^ n : Nat) : Int)) % ((4294967296 : Nat) : Int) = _
  rw [← Int.natCast_mul, ← Int.natCast_emod]
theorem iw_div8 (x : W32) : iw x / (8 : Int) = iw (x >>> 3) := iw_shr x 3
theorem iw_div1024 (x : W32) : iw x / (1024 : Int) = iw (x >>> 10) := iw_shr x 10
theorem iw_zero : iw 0 = 0 := rfl
/-- What comes to a word in any other way. -/
theorem bits_mod (op : BinOp) (a b : Int) : bits op .u32 (a % 4294967296) (b % 4294967296) = bits op .u32 a b := by
  have h : ∀ z : Int, BitVec.ofInt 32 (z % 4294967296) = BitVec.ofInt 32 z := fun z => by
    apply BitVec.eq_of_toInt_eq
    simp only [BitVec.toInt_ofInt]
    simp [Int.bmod_def]
  have e : ∀ x y : Int, bits op .u32 x y = (fun (p q : BitVec 32) => IntKind.u32.wrap ((match op with
    | .and => p &&& q
    | .or => p ||| q
    | .xor => p ^^^ q
    | _ => p &&& ~~~q).toNat : Int)) (BitVec.ofInt 32 x) (BitVec.ofInt 32 y) := fun _ _ => rfl
  rw [e, e, h, h]

theorem rot_and (n : Nat) (h1 : 1 ≤ n) (h2 : n ≤ 31) : bits .and .u64 (IntKind.u64.wrap (-(n : Int))) 31 = 32 - (n : Int) := by
  have : ∀ n : Nat, n < 32 → 1 ≤ n → bits .and .u64 (IntKind.u64.wrap (-(n : Int))) 31 = 32 - (n : Int) := by decide
  exact this n (by omega) h1

/-- An element of a list, nought beyond it: behind a name that the walk does not open. -/
def bg (l : List UInt8) (i : Nat) : UInt8 := l.getD i 0
def wg (l : List W32) (i : Nat) : W32 := l.getD i 0

/-- Words as the cells of an array. -/
def wcs (l : List W32) : Array Value := (l.map fun x => Value.int .u32 (iw x)).toArray
theorem wcs_size (l : List W32) : (wcs l).size = l.length := by simp [wcs]
theorem wcs_get (l : List W32) (i : Nat) (h : i < l.length) : (wcs l)[i]? = some (.int .u32 (iw (wg l i))) := by
  simp [wcs, wg, h]
theorem wcs_set (l : List W32) (i : Nat) (x : W32) : (wcs l).setIfInBounds i (.int .u32 (iw x)) = wcs (l.set i x) := by
  apply Array.ext'
  simp [wcs, List.map_set]
theorem wcs_one (l : List W32) : ∀ v ∈ (wcs l).toList, v.oneCell' = true := by
  intro v hv
  simp [wcs] at hv
  obtain ⟨x, _, rfl⟩ := hv
  rfl

theorem wcs_all (l : List W32) : (wcs l).all (·.oneCell') = true := by
  rw [Array.all_eq_true_iff_forall_mem]
  intro v hv
  exact wcs_one l v (by simpa using hv)

section
variable {w w' : World} {g t : Nat}
theorem blk_cell {cs : Array Value} (h : w.heap[g]? = some (.cells cs t (0, 0))) (i : Nat) : w.cell? ⟨g, i, none⟩ = cs[i]? := cell_of_row w g i cs t (0, 0) h
theorem blk_frozen {cs : Array Value} (h : w.heap[g]? = some (.cells cs t (0, 0))) (i : Nat) : w.frozen? ⟨g, i, none⟩ = false := by simp [World.frozen?, h]
theorem blk_lt {o : Obj} (h : w.heap[g]? = some o) : g < w.heap.size := (Array.getElem?_eq_some_iff.1 h).1
theorem blk_set {cs : Array Value} (h : w.heap[g]? = some (.cells cs t (0, 0))) (i : Nat) (u : Value) : (w.setCell ⟨g, i, none⟩ u).heap[g]? = some (.cells (cs.setIfInBounds i u) t (0, 0)) := by
  simp only [World.setCell, Array.getElem?_modify, h]; simp
theorem blk_far {o : Obj} (h : w.heap[g]? = some o) {p : Addr} (hp : g ≠ p.block) (u : Value) : (w.setCell p u).heap[g]? = some o := (Below.heap_setCell w p u g hp).trans h
theorem blk_alloc {o : Obj} (h : w.heap[g]? = some o) (q : Obj) : (w.alloc q).heap[g]? = some o := (Below.heap_alloc w q g (blk_lt h)).trans h
theorem blk_new (w : World) (q : Obj) : (w.alloc q).heap[w.heap.size]? = some q := heap_alloc_new w q
theorem blk_new1 (w : World) (p q : Obj) : ((w.alloc p).alloc q).heap[w.heap.size + 1]? = some q := by
  have h := heap_alloc_new (w.alloc p) q; rwa [World.size_alloc] at h
theorem blk_at (w : World) (q : Obj) (n : Nat) (h : w.heap.size = n) : (w.alloc q).heap[n]? = some q := by subst h; exact heap_alloc_new w q
theorem blk_below {B : Nat} {o : Obj} (hb : Below B w w') (h : w.heap[g]? = some o) (hg : g < B) : w'.heap[g]? = some o := (hb.block g hg).trans h
theorem blk_grown {o : Obj} {row : Option Nat} (h : w.heap[g]? = some o) (hg : w.grownBy w' row) (hne : some g ≠ row) : w'.heap[g]? = some o := (hg.block g (blk_lt h) hne).trans h
theorem below_drewN {B : Nat} (h : Below B w w') (n : Nat) : Below B w (w'.drewN n) := ⟨h.os, h.tape, h.output, h.size, h.block⟩
/-- A call in the second quiet region of a row: the draws are summed. -/
theorem quiet2 {P : Program} {f : FuncId} {args : Array Value} {j n : Nat} {v : Value} (h : Calls P f args (w.drewN (j + n)) fun e w' => e = .returned v ∧ w.drewN (j + n) = w') :
    Calls P f args (w.drewN (j + n)) fun e w' => e = .returned v ∧ ∃ m, w' = w.drewN (j + m) := h.mono fun _ _ ⟨p, q⟩ => ⟨p, n, q.symm⟩
theorem quiet1 {P : Program} {f : FuncId} {args : Array Value} {n : Nat} {v : Value} (h : Calls P f args (w.drewN n) fun e w' => e = .returned v ∧ w.drewN n = w') :
    Calls P f args (w.drewN n) fun e w' => e = .returned v ∧ ∃ m, w' = w.drewN m := h.mono fun _ _ ⟨p, q⟩ => ⟨p, n, q.symm⟩
theorem calls_flip {P : Program} {f : FuncId} {args : Array Value} {v : Ending} (h : Calls P f args w fun e w' => e = v ∧ w = w') : Calls P f args w fun e w' => e = v ∧ w' = w :=
  h.mono fun _ _ ⟨a, b⟩ => ⟨a, b.symm⟩
end

end Go.Proofs.Ytolboolbapbniaa
