/- What the laws share: a slice of bytes as a text; appends of bytes. -/
import Derived.Test.YtolboolbapbniaaRsum
import Derived.Test.YtolboolbapbniaaWorks
import Derived.Maps.AppendAt
namespace Go.Proofs.Ytolboolbapbniaa
open Go.RowKit Sp

/-- A slice of bytes, turned to a string. -/
theorem sl_text {w : World} {v : Value} {l : List UInt8} {n : Nat} (h : SlW w v l n) (hl : l.length = n) :
    (convert 33 9 v).run Try.prog w = .ok (.string ⟨l.toArray⟩) w := by
  obtain ⟨A, c, rfl, h1, h2, h3, h4⟩ := h
  subst hl
  cases A with
  | none =>
    obtain ⟨h5, rfl⟩ := h3 rfl
    obtain rfl := List.eq_nil_of_length_eq_zero h5
    rw [run_convert_bytes_string w _ _ _ _ _ _ Try.underlying33 Try.underlying5 Try.underlying9]
    rfl
  | some a =>
    exact run_convert_bytes_back (P := Try.prog) w 33 9 5 a c l (by kernel_rfl) (by kernel_rfl) (by kernel_rfl) (fun j hj => by
      obtain ⟨a', ha, hc⟩ := h4 j (.int .u8 (ib l[j])) (by simp [bcs, hj])
      cases ha
      exact hc)
/-- The first cells of a row of one's own, as a slice. -/
theorem own_sl {w : World} {base n : Nat} {v : Value} {l : List UInt8} (h : w.ownsRow base 5 1 v n (bcs l)) : SlW w v l n := by
  obtain ⟨A, c, e, h1, h2, h3, _, h5⟩ := own_cl h
  exact ⟨A, c, e, h1, h2, h5, h3⟩
theorem own_head {w : World} {base n g c : Nat} {l r : List UInt8} (h : w.ownsRow base 5 1 (.slice (some ⟨g, 0, none⟩) n c) n (bcs (l ++ r))) : SlW w (.slice (some ⟨g, 0, none⟩) l.length c) l l.length := by
  obtain ⟨A, c', e, h1, h2, h3, _, _⟩ := own_cl h
  cases e
  have h9 := h.1
  rw [bcs_length, List.length_append] at h9
  refine ⟨_, _, rfl, by omega, h2, (fun e => nomatch e), ?_⟩
  have h8 := h3.take l.length
  rw [bcs_take, List.take_append_of_le_length (Nat.le_refl _), List.take_length] at h8
  exact h8
theorem own_block {w : World} {base e size n : Nat} {v : Value} {xs : List Value} (h : w.ownsRow base e size v n xs) : ∀ g, v.ownBlock = some g → base ≤ g ∧ g < w.heap.size := h.lt
theorem below_grown2 {B : Nat} {w w' : World} {row : Option Nat} (hB : B ≤ w.heap.size) (hg : w.grownBy w' row) (h : ∀ k, row = some k → B ≤ k) : Below B w w' := (Below.refl B w).grown hg hB h
/-- make of bytes. -/
theorem make_bytes (n : Nat) (hn : n ≤ 140737488355328) (W : World) :
    (Instr.makeSlice 33 (.int .i64 (n : Int)) (.int .i64 (n : Int))).run Try.prog W = .ok (.slice (some ⟨W.heap.size, 0, none⟩) n n) (W.alloc (.cells (ucs (List.replicate n 0)) 5)) := by
  obtain ⟨i, hi, hz, hs, hb⟩ := info_parts infoB
  have h := run_make (P := Try.prog) W 33 5 i (.int .u8 0) (by kernel_rfl) hi hz .i64 .i64 (n : Int) (n : Int) (by omega) (Int.le_refl _) (by rw [hb]; omega) (by omega)
  rw [Int.toNat_natCast, hs, Nat.mul_one] at h
  rw [h]
  congr 3
  apply Array.toList_inj.1
  rw [show (Value.int IntKind.u8 0).cells = #[.int .u8 0] from rfl, toList_madeCells_one]
  simp [ucs, bcs, ib]
theorem ucs_list (l : List UInt8) : (ucs l).toList = bcs l := by simp [ucs]
theorem own_made {w : World} {base : Nat} (l : List UInt8) (hb : base ≤ w.heap.size) (hm : l.length ≤ maxLen) :
    (w.alloc (.cells (ucs l) 5)).ownsRow base 5 1 (.slice (some ⟨w.heap.size, 0, none⟩) l.length l.length) l.length (bcs l) := by
  have h := World.ownsRow_lit (base := base) (e := 5) (size := 1) w (ucs l) l.length hb hm (by rw [ucs_size, Nat.mul_one])
  rwa [ucs_list] at h
/-- The digest of a slice, by the program and by the document. -/
theorem rsum_v {W : World} {v : Value} {l : List UInt8} {n : Nat} (h : SlW W v l n) (hl : l.length = n) (ht : n ≤ 549755813888) :
    Calls Try.prog 29 #[v] W fun e w' => e = .returned (.agg (ucs (sha l))) ∧ Below W.heap.size W w' := by
  have h0 := h
  obtain ⟨A, c, rfl, _⟩ := h
  exact rsum_any W A n c l hl h0 ht
theorem ssum_v {W : World} {v : Value} {l : List UInt8} {n : Nat} (h : SlW W v l n) (hl : l.length = n) (ht : n ≤ 549755813888) :
    Calls Try.prog 25 #[v] W fun e w' => e = .returned (.agg (ucs (sha l))) ∧ Below W.heap.size W w' := by
  have h0 := h
  obtain ⟨A, c, rfl, _⟩ := h
  exact shasum_any W A n c l hl h0 ht
/-- A hash's own block holds no bytes. -/
theorem HashAt.nob {w : World} {hb : Nat} {l : List UInt8} (h : HashAt w hb l) : ∀ i b, w.cell? ⟨hb, i, none⟩ ≠ some (.int .u8 b) := by
  obtain ⟨A, c, h1, _⟩ := h
  intro i b e
  rw [blk_cell h1] at e
  have h2 := List.mem_of_getElem? (by rw [← Array.getElem?_toList] at e; exact e)
  simp [hcs, wcs] at h2
theorem HashAt.farAll {w : World} {hb : Nat} {l : List UInt8} {N : Nat → Prop} (h : HashAt w hb l) (hN : ∀ k, N k) : HashFar w hb l N := by
  obtain ⟨A, c, h1, h2, h3, h4⟩ := h
  exact ⟨A, c, h1, h2, fun a e => ⟨(h3 a e).1, (h3 a e).2, hN _⟩, h4⟩
theorem HashFar.mono {w : World} {hb : Nat} {l : List UInt8} {N M : Nat → Prop} (h : HashFar w hb l N) (hN : ∀ k, k < w.heap.size → N k → M k) : HashFar w hb l M := by
  obtain ⟨A, c, h1, h2, h3, h4⟩ := h
  exact ⟨A, c, h1, h2, fun a e => ⟨(h3 a e).1, (h3 a e).2.1, hN _ (h3 a e).2.1 (h3 a e).2.2⟩, h4⟩
theorem HashFar.below {w w' : World} {hb : Nat} {l : List UInt8} {N : Nat → Prop} (h : HashFar w hb l N) (hB : Below w.heap.size w w') : HashFar w' hb l N := by
  obtain ⟨A, c, h1, h2, h3, h4⟩ := h
  exact ⟨A, c, (hB.block hb (blk_lt h1)).trans h1, h2.below hB, fun a e => ⟨(h3 a e).1, Nat.lt_of_lt_of_le (h3 a e).2.1 hB.size, (h3 a e).2.2⟩, h4⟩
theorem HashFar.keepRow {w w' : World} {hb : Nat} {l : List UInt8} {N : Nat → Prop} {row : Option Nat} (h : HashFar w hb l N) (hg : w.grownBy w' row) (hk : row ≠ some hb) (hN : ∀ k, row = some k → ¬ N k) : HashAt w' hb l := by
  obtain ⟨A, c, h1, h2, h3, h4⟩ := h
  exact ⟨A, c, (hg.block hb (blk_lt h1) (fun e => hk e.symm)).trans h1, h2.grown hg (fun a e e' => hN _ e'.symm (h3 a e).2.2), fun a e => ⟨(h3 a e).1, Nat.lt_of_lt_of_le (h3 a e).2.1 hg.size⟩, h4⟩
/-- The append where it stands under a guard that lets it through. -/
theorem wpList_appG {P : Program} {w : World} {ops : Array Oper} {rest : List Oper} {o : Oper} {a : Act} {Q : Exit → Act → World → Prop} (hw : Region.wanted o (yielded ops a.tmps) = true) (s x : Operand) (t : TypeId)
    (ho : o.op = .call { callee := .builtin .append, args := #[s, x], argTypes := #[t, t] })
    (base : Nat) (e : TypeId) (z : Value) (size bytes : Nat) (ht : P.underlying t = some (.slice e))
    (hinfo : (P.info? e).map (fun i => (i.zero, i.size, i.bytes)) = some (some z, size, bytes)) (hzs : z.cells.size = size) (hsz : 0 < size)
    (v : Value) (n : Nat) (xs : List Value) (hs : a.eval s = v) (hown : w.ownsRow base e size v n xs)
    (A : Option Addr) (m c : Nat) (news : List Value) (hx : a.eval x = .slice A m c) (hl : news.length = m * size) (hA : A = none → m = 0 ∧ c = 0) (hnews : Cl w A news) (h1 : ∀ u ∈ news, u.oneCell' = true)
    (h63 : n + m ≤ maxLen) (hbytes : (n + m) * bytes ≤ 140737488355328) (hbase : base ≤ w.heap.size)
    (h : ∀ v' w', w'.ownsRow base e size v' (n + m) (xs ++ news) → w.grownBy w' v.ownBlock → (v' = .slice none 0 0 ↔ v = .slice none 0 0 ∧ m = 0) → wpList P ops Q rest (a.put o.dst v') w') : wpList P ops Q (o :: rest) a w :=
  BigFrame.wpList_want hw fun _ hK => wp_app s x t ho base e z size bytes ht hinfo hzs hsz v n xs hs hown A m c news hx hl hA hnews h1 h63 hbytes hbase
    (fun v' w' a b c => hK _ _ (h v' w' a b c))
theorem row_sl {w : World} {g t : Nat} {l : List UInt8} {fr : Nat × Nat} (h : w.heap[g]? = some (.cells (ucs l) t fr)) (hm : l.length ≤ maxLen) : SlW w (.slice (some ⟨g, 0, none⟩) l.length l.length) l l.length :=
  ⟨_, _, rfl, Nat.le_refl _, hm, (fun e => nomatch e), Cl.mk fun j u hj => by rw [Nat.zero_add, cell_of_row w g j _ _ _ h]; simpa [ucs] using hj⟩
/-- The append, and where the new slice lies. -/
theorem wpList_appAt {P : Program} {w : World} {ops : Array Oper} {rest : List Oper} {o : Oper} {a : Act} {Q : Exit → Act → World → Prop} (hw : Region.wanted o (yielded ops a.tmps) = true) (s x : Operand) (t : TypeId)
    (ho : o.op = .call { callee := .builtin .append, args := #[s, x], argTypes := #[t, t] })
    (base : Nat) (e : TypeId) (z : Value) (size bytes : Nat) (ht : P.underlying t = some (.slice e))
    (hinfo : (P.info? e).map (fun i => (i.zero, i.size, i.bytes)) = some (some z, size, bytes)) (hzs : z.cells.size = size) (hsz : 0 < size)
    (v : Value) (n : Nat) (xs : List Value) (hs : a.eval s = v) (hown : w.ownsRow base e size v n xs)
    (A : Option Addr) (m c : Nat) (news : List Value) (hx : a.eval x = .slice A m c) (hl : news.length = m * size) (hA : A = none → m = 0 ∧ c = 0) (hnews : Cl w A news) (h1 : ∀ u ∈ news, u.oneCell' = true)
    (h63 : n + m ≤ maxLen) (hbytes : (n + m) * bytes ≤ 140737488355328) (hbase : base ≤ w.heap.size)
    (h : ∀ v' w', w'.ownsRow base e size v' (n + m) (xs ++ news) → w.grownBy w' v.ownBlock → (v'.ownBlock = v.ownBlock ∨ v'.ownBlock = some w.heap.size) → wpList P ops Q rest (a.put o.dst v') w') : wpList P ops Q (o :: rest) a w := by
  refine BigFrame.wpList_want hw fun K hK => ?_
  have key : ∃ v' w', (Builtin.append_ #[t, t] o.type #[v, .slice A m c]).run P w = .ok v' w' ∧ w'.ownsRow base e size v' (n + m) (xs ++ news) ∧ w.grownBy w' v.ownBlock ∧ (v'.ownBlock = v.ownBlock ∨ v'.ownBlock = some w.heap.size) := by
    obtain ⟨i, hi, hz, hs', hb⟩ := info_parts hinfo
    cases A with
    | none =>
      obtain ⟨rfl, rfl⟩ := hA rfl
      have : news = [] := List.eq_nil_of_length_eq_zero (by simpa using hl)
      subst this
      exact ⟨v, w, run_append_owned_none (P := P) w base t o.type e i size ht hi v n xs hown, by simpa using hown, ⟨rfl, rfl, rfl, Nat.le_refl _, fun _ _ _ => rfl⟩, .inl rfl⟩
    | some a =>
      obtain ⟨v', w', h1, h2, h3, _, h5⟩ := run_append_own_at (P := P) w base t o.type e i z size bytes ht hi hz hs' hb hzs hsz v n xs hown a m c news hl (fun j u hj => by
        obtain ⟨a', ha, hc⟩ := hnews j u hj
        cases ha; exact hc) h1 h63 hbytes hbase
      exact ⟨v', w', h1, h2, h3, h5⟩
  obtain ⟨v', w', hr, h2, h3, h4⟩ := key
  unfold Oper.wp execOp
  simp only [ho, resolve, invoke, builtin, Sem.run_bind, Sem.run_pure, Result.andThen_ok, List.map_toArray, List.map_cons, List.map_nil, hs, hx, hr]
  exact hK _ _ (h v' w' h2 h3 h4)
theorem SlW.grown {w w' : World} {v : Value} {l : List UInt8} {n : Nat} {row : Option Nat} (h : SlW w v l n) (hg : w.grownBy w' row) (hne : ∀ b, v.ownBlock = some b → row ≠ some b) : SlW w' v l n := by
  obtain ⟨A, c, rfl, h1, h2, h3, h4⟩ := h
  exact ⟨A, c, rfl, h1, h2, h3, h4.grown hg fun a e e' => by subst e; exact hne _ rfl e'.symm⟩
/-- Write of a slice. -/
theorem write_v {W : World} {g : Nat} {l : List UInt8} {v : Value} {bs : List UInt8} {n : Nat} (h : HashAt W g l) (hs : SlW W v bs n) (hb : bs.length = n) (hn : n ≤ 549755813888) (hl : l.length ≤ 2305843009213693952) :
    Calls Try.prog 24 #[.pointer (some ⟨g, 0, none⟩), v] W fun e w' => e = .returned (.int .i64 0) ∧ HashFar w' g (l ++ bs) (fun k => W.heap.size ≤ k) ∧ W.grownBy w' (some g) := by
  obtain ⟨A, c, rfl, _, _, hA, hx⟩ := hs
  exact write_far W g l A n c bs h hb hA hx hn (by omega)

end Go.Proofs.Ytolboolbapbniaa
