/- The plain meaning of SHA-256, its text and its order: no program in sight. -/
import Derived.Laws.Entries
import Derived.Laws.BitsLemmas
namespace Go.Proofs.Ytolboolbapbniaa.Sp

abbrev W32 := BitVec 32

/-- A word turned to the right. -/
def rotr (x : W32) (n : Nat) : W32 := (x >>> n) ||| (x <<< (32 - n))
def sig0 (x : W32) : W32 := rotr x 7 ^^^ rotr x 18 ^^^ (x >>> 3)
def sig1 (x : W32) : W32 := rotr x 17 ^^^ rotr x 19 ^^^ (x >>> 10)
def sum1 (x : W32) : W32 := rotr x 6 ^^^ rotr x 11 ^^^ rotr x 25
def sum0 (x : W32) : W32 := rotr x 2 ^^^ rotr x 13 ^^^ rotr x 22
def ch (e f g : W32) : W32 := (e &&& f) ^^^ (~~~e &&& g)
def maj (a b c : W32) : W32 := (a &&& b) ^^^ (a &&& c) ^^^ (b &&& c)

/-- Four bytes, the highest ahead. -/
def wordOf (b0 b1 b2 b3 : UInt8) : W32 := BitVec.ofNat 32 (b0.toNat * 16777216 + b1.toNat * 65536 + b2.toNat * 256 + b3.toNat)
def wordAt (b : List UInt8) (i : Nat) : W32 := wordOf (b.getD (4 * i) 0) (b.getD (4 * i + 1) 0) (b.getD (4 * i + 2) 0) (b.getD (4 * i + 3) 0)

/-- The next word of the schedule. -/
def nxt (b : List UInt8) (l : List W32) : W32 :=
  if l.length < 16 then wordAt b l.length
  else l.getD (l.length - 16) 0 + sig0 (l.getD (l.length - 15) 0) + l.getD (l.length - 7) 0 + sig1 (l.getD (l.length - 2) 0)
def wl (b : List UInt8) : Nat → List W32
  | 0 => []
  | n + 1 => wl b n ++ [nxt b (wl b n)]
theorem wl_length (b : List UInt8) (n : Nat) : (wl b n).length = n := by
  induction n with
  | zero => rfl
  | succ n ih => simp [wl, ih]

structure St where
  a : W32
  b : W32
  c : W32
  d : W32
  e : W32
  f : W32
  g : W32
  h : W32
  deriving DecidableEq

def St.list (s : St) : List W32 := [s.a, s.b, s.c, s.d, s.e, s.f, s.g, s.h]
theorem St.list_length (s : St) : s.list.length = 8 := rfl

def kl : List W32 := [
  0x428a2f98, 0x71374491, 0xb5c0fbcf, 0xe9b5dba5, 0x3956c25b, 0x59f111f1, 0x923f82a4, 0xab1c5ed5,
  0xd807aa98, 0x12835b01, 0x243185be, 0x550c7dc3, 0x72be5d74, 0x80deb1fe, 0x9bdc06a7, 0xc19bf174,
  0xe49b69c1, 0xefbe4786, 0x0fc19dc6, 0x240ca1cc, 0x2de92c6f, 0x4a7484aa, 0x5cb0a9dc, 0x76f988da,
  0x983e5152, 0xa831c66d, 0xb00327c8, 0xbf597fc7, 0xc6e00bf3, 0xd5a79147, 0x06ca6351, 0x14292967,
  0x27b70a85, 0x2e1b2138, 0x4d2c6dfc, 0x53380d13, 0x650a7354, 0x766a0abb, 0x81c2c92e, 0x92722c85,
  0xa2bfe8a1, 0xa81a664b, 0xc24b8b70, 0xc76c51a3, 0xd192e819, 0xd6990624, 0xf40e3585, 0x106aa070,
  0x19a4c116, 0x1e376c08, 0x2748774c, 0x34b0bcb5, 0x391c0cb3, 0x4ed8aa4a, 0x5b9cca4f, 0x682e6ff3,
  0x748f82ee, 0x78a5636f, 0x84c87814, 0x8cc70208, 0x90befffa, 0xa4506ceb, 0xbef9a3f7, 0xc67178f2]
theorem kl_length : kl.length = 64 := rfl

def init : St := ⟨0x6a09e667, 0xbb67ae85, 0x3c6ef372, 0xa54ff53a, 0x510e527f, 0x9b05688c, 0x1f83d9ab, 0x5be0cd19⟩

def tt (s : St) (k w : W32) : W32 := s.h + sum1 s.e + ch s.e s.f s.g + k + w
def uu (s : St) : W32 := sum0 s.a + maj s.a s.b s.c
def stp (s : St) (k w : W32) : St := ⟨tt s k w + uu s, s.a, s.b, s.c, s.d + tt s k w, s.e, s.f, s.g⟩
def rnds (b : List UInt8) (s : St) : Nat → St
  | 0 => s
  | n + 1 => stp (rnds b s n) (kl.getD n 0) ((wl b 64).getD n 0)
def St.add (s t : St) : St := ⟨s.a + t.a, s.b + t.b, s.c + t.c, s.d + t.d, s.e + t.e, s.f + t.f, s.g + t.g, s.h + t.h⟩
/-- The state behind a block. -/
def blk (s : St) (b : List UInt8) : St := s.add (rnds b s 64)

/-- The state behind n blocks. -/
def blks (s : St) (l : List UInt8) : Nat → St
  | 0 => s
  | n + 1 => blks (blk s (l.take 64)) (l.drop 64) n

/-- The eight bytes of a number of bits, the highest ahead. -/
def len8 (n : Nat) : List UInt8 := (List.range 8).map fun i => UInt8.ofNat (n * 8 / 2 ^ (56 - 8 * i))
/-- What stands behind n bytes. -/
def tail (n : Nat) : List UInt8 := 128 :: (List.replicate ((119 - n % 64) % 64) 0 ++ len8 n)

/-- The four bytes of a word. -/
def bytes4 (x : W32) : List UInt8 := [UInt8.ofNat (x.toNat / 16777216), UInt8.ofNat (x.toNat / 65536), UInt8.ofNat (x.toNat / 256), UInt8.ofNat x.toNat]
def out (s : St) : List UInt8 := s.list.flatMap bytes4
theorem out_length (s : St) : (out s).length = 32 := rfl

def sha (l : List UInt8) : List UInt8 := out (blks init (l ++ tail l.length) ((l ++ tail l.length).length / 64))
theorem sha_length (l : List UInt8) : (sha l).length = 32 := rfl

/-- What a hash holds that has got l: the state behind the whole blocks, and what is left. -/
def stOf (l : List UInt8) : St := blks init l (l.length / 64)
def leftOf (l : List UInt8) : List UInt8 := l.drop (l.length / 64 * 64)

theorem blks_congr (n : Nat) : ∀ (s : St) (l m : List UInt8), l.take (64 * n) = m.take (64 * n) → blks s l n = blks s m n := by
  induction n with
  | zero => intro s l m _; rfl
  | succ n ih =>
    intro s l m h
    have e1 : l.take 64 = m.take 64 := by
      have := congrArg (List.take 64) h
      rw [List.take_take, List.take_take] at this
      rwa [Nat.min_eq_left (by omega)] at this
    have e2 : (l.drop 64).take (64 * n) = (m.drop 64).take (64 * n) := by
      have := congrArg (List.drop 64) h
      rw [List.drop_take, List.drop_take] at this
      rwa [show 64 * (n + 1) - 64 = 64 * n by omega] at this
    simp only [blks]
    rw [e1]
    exact ih _ _ _ e2

theorem blks_add (a b : Nat) : ∀ (s : St) (l : List UInt8), blks s l (a + b) = blks (blks s l a) (l.drop (64 * a)) b := by
  induction a with
  | zero => intro s l; simp [blks]
  | succ a ih =>
    intro s l
    rw [show a + 1 + b = (a + b) + 1 by omega]
    simp only [blks]
    rw [ih, List.drop_drop]
    congr 2
    omega

/-- To go on by m: the whole blocks of what was left and m, and what is left of them. -/
theorem stOf_append (l m : List UInt8) : stOf (l ++ m) = blks (stOf l) (leftOf l ++ m) ((leftOf l ++ m).length / 64) := by
  have h1 : l.length / 64 * 64 ≤ l.length := by omega
  unfold stOf leftOf
  have e : (l ++ m).length / 64 = l.length / 64 + (l.drop (l.length / 64 * 64) ++ m).length / 64 := by
    simp only [List.length_append, List.length_drop]; omega
  rw [e, blks_add]
  have e2 : blks init (l ++ m) (l.length / 64) = blks init l (l.length / 64) := by
    apply blks_congr
    rw [List.take_append_of_le_length (by omega)]
  rw [e2]
  congr 1
  rw [List.drop_append_of_le_length (by omega)]
  congr 2
  omega

theorem leftOf_append (l m : List UInt8) : leftOf (l ++ m) = (leftOf l ++ m).drop ((leftOf l ++ m).length / 64 * 64) := by
  have h1 : l.length / 64 * 64 ≤ l.length := by omega
  unfold leftOf
  simp only [List.length_append, List.length_drop]
  rw [← List.drop_append_of_le_length h1, List.drop_drop]
  congr 1
  omega

theorem sha_eq (l : List UInt8) : sha l = out (stOf (l ++ tail l.length)) := rfl

theorem tail_length (n : Nat) : (tail n).length = 9 + (119 - n % 64) % 64 := by simp [tail, len8]; omega

end Go.Proofs.Ytolboolbapbniaa.Sp
