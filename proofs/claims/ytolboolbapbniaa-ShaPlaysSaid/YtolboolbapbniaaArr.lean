/- Whole arrays loaded and stored by the walk at one step, whatever their cells. -/
import Derived.Test.YtolboolbapbniaaMem
import Derived.Laws.Rows
import Derived.Laws.Tables
namespace Go.Proofs.Ytolboolbapbniaa
open Go.RowKit

/-- n cells from place o of block b on. -/
def sub? (w : World) (b o n : Nat) : Option (Array Value) :=
  match w.heap[b]? with
  | some (.cells c _ _) => if o + n ≤ c.size then some (c.extract o (o + n)) else none
  | _ => none
/-- May the n cells from place o of block b on be written? -/
def can? (w : World) (b o n : Nat) : Bool :=
  match w.heap[b]? with
  | some (.cells c _ (0, 0)) => decide (o + n ≤ c.size)
  | _ => false
/-- The cells from place o of block b on are those of c. -/
def putSub (w : World) (b o : Nat) (c : Array Value) : World :=
  { w with heap := w.heap.modify b fun
      | .cells d elem frozen => .cells (d.toList.take o ++ c.toList ++ d.toList.drop (o + c.size)).toArray elem frozen
      | x => x }

section
variable {w w' : World} {b o n : Nat}
theorem sub_of_heap (h : w'.heap[b]? = w.heap[b]?) : sub? w' b o n = sub? w b o n := by simp [sub?, h]
theorem can_of_heap (h : w'.heap[b]? = w.heap[b]?) : can? w' b o n = can? w b o n := by simp [can?, h]
theorem sub_row {c : Array Value} {t : TypeId} {fr : Nat × Nat} (h : w.heap[b]? = some (.cells c t fr)) (hn : c.size = n) : sub? w b 0 n = some c := by
  subst hn
  simp [sub?, h]
theorem sub_head {c d : Array Value} {t : TypeId} {fr : Nat × Nat} (h : w.heap[b]? = some (.cells (c ++ d) t fr)) (hn : c.size = n) : sub? w b 0 n = some c := by
  subst hn
  simp [sub?, h]
theorem sub_mid {l m r : List Value} {t : TypeId} {fr : Nat × Nat} (h : w.heap[b]? = some (.cells (l ++ m ++ r).toArray t fr)) (ho : l.length = o) (hn : m.length = n) : sub? w b o n = some m.toArray := by
  subst ho hn
  simp [sub?, h]
theorem can_row {c : Array Value} {t : TypeId} (h : w.heap[b]? = some (.cells c t (0, 0))) (hn : o + n ≤ c.size) : can? w b o n = true := by simp [can?, h, hn]
@[go_sem] theorem sub_drew : sub? w.drew b o n = sub? w b o n := rfl
@[go_sem] theorem can_drew : can? w.drew b o n = can? w b o n := rfl
@[go_sem] theorem sub_drewN (k : Nat) : sub? (w.drewN k) b o n = sub? w b o n := rfl
@[go_sem] theorem can_drewN (k : Nat) : can? (w.drewN k) b o n = can? w b o n := rfl
@[go_sem] theorem sub_alloc_past (q : Obj) (h : b < w.heap.size) : sub? (w.alloc q) b o n = sub? w b o n := sub_of_heap (Below.heap_alloc w q b h)
@[go_sem] theorem can_alloc_past (q : Obj) (h : b < w.heap.size) : can? (w.alloc q) b o n = can? w b o n := can_of_heap (Below.heap_alloc w q b h)
@[go_sem] theorem sub_alloc_new {c : Array Value} {t : TypeId} (h : b = w.heap.size) (hn : c.size = n) : sub? (w.alloc (.cells c t)) b 0 n = some c := by subst h; exact sub_row (heap_alloc_new w _) hn
@[go_sem] theorem can_alloc_new {c : Array Value} {t : TypeId} (h : b = w.heap.size) (hn : o + n ≤ c.size) : can? (w.alloc (.cells c t)) b o n = true := by subst h; exact can_row (heap_alloc_new w _) hn
theorem putSub_far (g : Nat) (c : Array Value) (h : b ≠ g) : (putSub w g o c).heap[b]? = w.heap[b]? := by
  simp only [putSub, Array.getElem?_modify]
  rw [if_neg (fun e => h e.symm)]
theorem putSub_heap {c d : Array Value} {t : TypeId} {fr : Nat × Nat} (h : w.heap[b]? = some (.cells d t fr)) :
    (putSub w b o c).heap[b]? = some (.cells (d.toList.take o ++ c.toList ++ d.toList.drop (o + c.size)).toArray t fr) := by
  simp only [putSub, Array.getElem?_modify, h]; simp
theorem putSub_row {c d : Array Value} {t : TypeId} {fr : Nat × Nat} (h : w.heap[b]? = some (.cells d t fr)) (hn : d.size = c.size) :
    (putSub w b 0 c).heap[b]? = some (.cells c t fr) := by
  rw [putSub_heap h]; congr 2
  rw [List.drop_of_length_le (by simp; omega)]; simp
@[go_sem] theorem putSub_size (c : Array Value) : (putSub w b o c).heap.size = w.heap.size := by simp [putSub]
/-- Into the block that was made last: as if it had been made so. -/
@[go_sem] theorem putSub_alloc {c d : Array Value} {t : TypeId} {fr : Nat × Nat} (h : b = w.heap.size) (hn : d.size = c.size) :
    putSub (w.alloc (.cells d t fr)) b 0 c = w.alloc (.cells c t fr) := by
  subst h
  simp only [putSub, World.alloc]
  congr 1
  apply Array.ext_getElem?
  intro i
  rw [Array.getElem?_modify]
  by_cases h : w.heap.size = i
  · subst h
    simp
    rw [List.drop_of_length_le (by simp; omega)]; simp
  · have h' : ¬ i = w.heap.size := fun e => h e.symm
    simp [h, h', Array.getElem?_push]
end

section
variable {w : World} {b o : Nat}
@[go_sem] theorem putSub_alloc_past (c : Array Value) (q : Obj) (h : b < w.heap.size) : putSub (w.alloc q) b o c = (putSub w b o c).alloc q := by
  simp only [putSub, World.alloc]
  congr 1
  apply Array.ext_getElem?
  intro i
  simp only [Array.getElem?_modify, Array.getElem?_push, Array.size_modify]
  by_cases h1 : b = i
  · subst h1
    rw [if_pos rfl, if_neg (by omega), if_neg (by omega), if_pos rfl]
  · rw [if_neg h1]
    split <;> simp_all
@[go_sem] theorem putSub_drew (c : Array Value) : putSub w.drew b o c = (putSub w b o c).drew := rfl
@[go_sem] theorem putSub_drewN (c : Array Value) (k : Nat) : putSub (w.drewN k) b o c = (putSub w b o c).drewN k := rfl
end

theorem _root_.Go.RowKit.Below.putSub {B : Nat} {a w : World} (h : Below B a w) {g p : Nat} {d : Array Value} (hg : B ≤ g) : Below B a (putSub w g p d) :=
  h.trans ⟨rfl, rfl, rfl, by rw [putSub_size]; exact Nat.le_refl _, fun k hk => putSub_far g d (by omega)⟩

/-- n cells from place o of block b on hold c: a fact that the walk does not see. -/
structure HoldS (n b o : Nat) (c : Array Value) (w : World) : Prop where
  sub : sub? w b o n = some c
  lt : b < w.heap.size
theorem HoldS.out {n b o : Nat} {c : Array Value} {w : World} (h : HoldS n b o c w) : sub? w b o n = some c ∧ b < w.heap.size := ⟨h.1, h.2⟩
theorem HoldS.alloc {n b o : Nat} {c : Array Value} {w : World} (h : HoldS n b o c w) (q : Obj) : HoldS n b o c (w.alloc q) :=
  ⟨(sub_alloc_past q h.2).trans h.1, by have := h.2; rw [World.size_alloc]; omega⟩
theorem HoldS.drew {n b o : Nat} {c : Array Value} {w : World} (h : HoldS n b o c w) : HoldS n b o c w.drew := ⟨h.1, h.2⟩
theorem HoldS.drewN {n b o : Nat} {c : Array Value} {w : World} (h : HoldS n b o c w) (k : Nat) : HoldS n b o c (w.drewN k) := ⟨h.1, h.2⟩
theorem HoldS.below {n b o : Nat} {c : Array Value} {w w' : World} (h : HoldS n b o c w) (hb : Below w.heap.size w w') : HoldS n b o c w' :=
  ⟨(sub_of_heap (hb.block b h.2)).trans h.1, Nat.lt_of_lt_of_le h.2 hb.size⟩
theorem HoldS.putSub {n b o g p : Nat} {c d : Array Value} {w : World} (h : HoldS n b o c w) (hg : b ≠ g) : HoldS n b o c (putSub w g p d) :=
  ⟨(sub_of_heap (putSub_far g d hg)).trans h.1, by rw [putSub_size]; exact h.2⟩

/-- A type of arrays or structs, of n cells. -/
def arrT (P : Program) (T n : Nat) : Bool :=
  (match P.underlying T with | some (.struct _) | some (.array _ _) => true | _ => false) && (P.info? T).map (·.size) == some n
section
variable {P : Program} {T n : Nat}
theorem arrT_spec (h : arrT P T n = true) : (∀ w, (isAgg T).run P w = .ok true w) ∧ (∀ w, (sizeOf T).run P w = .ok n w) := by
  simp only [arrT, Bool.and_eq_true, beq_iff_eq] at h
  obtain ⟨h1, h2⟩ := h
  constructor
  · intro w
    unfold isAgg
    cases hu : P.underlying T with
    | none => simp [hu] at h1
    | some d =>
      rw [Sem.run_bind, run_underlying hu w]
      cases d <;> simp_all
  · intro w
    cases hi : P.info? T with
    | none => simp [hi] at h2
    | some i => simp [hi] at h2; simp [sizeOf, typeInfo, hi, h2]

theorem add_lit (b o j : Nat) : (⟨b, o, none⟩ : Addr).add j = ⟨b, o + j, none⟩ := by unfold Addr.add; split <;> simp_all

theorem run_loadVar_sub (hT : arrT P T n = true) (w : World) (b o : Nat) (c : Array Value) (h : sub? w b o n = some c) :
    (loadVar T ⟨b, o, none⟩).run P w = .ok (.agg c) w := by
  obtain ⟨h1, h2⟩ := arrT_spec hT
  unfold sub? at h
  split at h
  · rename_i d t fr hd
    split at h
    · rename_i hle
      simp only [Option.some.injEq] at h
      have hl : (loadCells ⟨b, o, none⟩ c.toList.length).run P w = .ok c.toList.toArray w :=
        run_loadCells_list (P := P) w ⟨b, o, none⟩ c.toList (fun j v hv => by
          rw [add_lit, cell_of_row w b (o + j) d t fr hd]
          subst h
          rw [Array.toList_extract, List.extract_eq_take_drop, List.getElem?_take] at hv
          split at hv
          · rw [List.getElem?_drop] at hv
            rw [← Array.getElem?_toList]; exact hv
          · cases hv)
      have hs : c.toList.length = n := by subst h; simp; omega
      rw [hs, Array.toArray_toList] at hl
      simp [loadVar, Sem.run_bind, h1 w, h2 w, hl]
    · cases h
  · cases h

def loadY (P : Program) (T b o : Nat) (w : World) : Option (Array Value) → Result Value
  | some c => .ok (.agg c) w
  | none => (loadVar T ⟨b, o, none⟩).run P w
def loadX (P : Program) (T n : Nat) (v : Value) (w : World) : Result Value :=
  match v with
  | .pointer (some ⟨b, o, none⟩) => loadY P T b o w (sub? w b o n)
  | _ => (Instr.loadAt T v).run P w
theorem loadX_at (T n b o : Nat) (w : World) : loadX P T n (.pointer (some ⟨b, o, none⟩)) w = loadY P T b o w (sub? w b o n) := rfl
theorem loadY_some (T b o : Nat) (w : World) (c : Array Value) : loadY P T b o w (some c) = .ok (.agg c) w := rfl
/-- A load of a whole array of n cells: behind a name, that the walk does not take it apart. -/
def ldA (T _n : Nat) (v : Value) : Sem Value := Instr.loadAt T v
theorem run_ldA (hT : arrT P T n = true) (v : Value) (w : World) : (ldA T n v).run P w = loadX P T n v w := by
  unfold ldA loadX
  split
  · rename_i b o
    have hs : ((Instr.loadAt T (.pointer (some ⟨b, o, none⟩))).run P w) = (loadVar T ⟨b, o, none⟩).run P w := by simp [Instr.loadAt, Instr.sureAddr]
    rw [hs]
    cases h : sub? w b o n with
    | none => rfl
    | some c => rw [run_loadVar_sub hT w b o c h]; rfl
  · rfl

theorem run_storeVar_sub (hT : arrT P T n = true) (w : World) (b o : Nat) (c : Array Value) (h : can? w b o n = true) (hc : c.size = n) (h1 : c.all (·.oneCell') = true) :
    (storeVar T ⟨b, o, none⟩ (.agg c)).run P w = .ok () (putSub w b o c) := by
  obtain ⟨_, h2⟩ := arrT_spec hT
  unfold can? at h
  split at h
  · rename_i d t hd
    have hle : o + n ≤ d.size := by simpa using h
    have hst := run_storeCells_at P b o t c.toList 0 d w hd (by simp; omega) (fun u hu => by
      rw [Array.all_eq_true_iff_forall_mem] at h1
      exact h1 u (by simpa using hu))
    simp only [Nat.add_zero] at hst
    have hw : w.setRow b (d.toList.take o ++ c.toList ++ d.toList.drop (o + c.toList.length)).toArray = putSub w b o c := by
      unfold World.setRow putSub
      congr 1
      apply Array.ext_getElem?
      intro i
      rw [Array.getElem?_modify, Array.getElem?_modify]
      by_cases hi : b = i
      · subst hi; simp [hd]
      · simp [hi]
    rw [hw] at hst
    simp [storeVar, Sem.run_bind, h2 w, Value.cells, hc, hst]
  · cases h

/-- Each cell of it holds the value of one cell. -/
def ones (c : Array Value) : Bool := c.all (·.oneCell')
theorem ones_wcs (l : List Sp.W32) : ones (wcs l) = true := wcs_all l

def storeY (P : Program) (T b o n : Nat) (c : Array Value) (w : World) (r : Bool) : Result Unit :=
  if r && (decide (c.size = n) && ones c) then .ok () (putSub w b o c)
  else (storeVar T ⟨b, o, none⟩ (.agg c)).run P w
def storeX (P : Program) (T n : Nat) (v u : Value) (w : World) : Result Unit :=
  match v, u with
  | .pointer (some ⟨b, o, none⟩), .agg c => storeY P T b o n c w (can? w b o n)
  | _, _ => (Instr.storeAt T v u).run P w
theorem storeX_at (T n b o : Nat) (c : Array Value) (w : World) : storeX P T n (.pointer (some ⟨b, o, none⟩)) (.agg c) w = storeY P T b o n c w (can? w b o n) := rfl
theorem storeY_true (T b o n : Nat) (c : Array Value) (w : World) (hc : c.size = n) (h1 : ones c = true) : storeY P T b o n c w true = .ok () (putSub w b o c) := by
  unfold storeY
  rw [if_pos (by rw [h1]; simp [hc])]
/-- A store of a whole array of n cells. -/
def stA (T _n : Nat) (v u : Value) : Sem Unit := Instr.storeAt T v u
theorem run_stA (hT : arrT P T n = true) (v u : Value) (w : World) : (stA T n v u).run P w = storeX P T n v u w := by
  unfold stA storeX
  split
  · rename_i b o c
    have hs : ((Instr.storeAt T (.pointer (some ⟨b, o, none⟩)) (.agg c)).run P w) = (storeVar T ⟨b, o, none⟩ (.agg c)).run P w := by simp [Instr.storeAt, Instr.sureAddr]
    rw [hs]
    unfold storeY
    split
    · rename_i h
      simp only [Bool.and_eq_true, decide_eq_true_eq] at h
      rw [run_storeVar_sub hT w b o c h.1 h.2.1 h.2.2]
    · rfl
  · rfl

/-- A literal of an array or a struct, its cells given. -/
theorem wpList_built {ops : Array Oper} {rest : List Oper} {o : Oper} {a : Act} {w : World} {Q : Exit → Act → World → Prop} (hg : o.guard = none) (t : TypeId) (parts : Array (Nat × Operand)) (ho : o.op = .build t parts)
    (cells : Array Value) (hf : P.built t (parts.map fun (i, x) => (i, a.eval x)).toList = some cells)
    (h : wpList P ops Q rest (a.put o.dst (.agg cells)) w) : wpList P ops Q (o :: rest) a w :=
  wpList_plain hg fun _ hK => wp_build t parts ho (by rw [hf]; rfl) (by rw [hf]; exact hK _ _ h)

/-- The builtin copy, of elements of one cell. -/
theorem run_copy_sub {t e : TypeId} (ty : TypeId) (ht : P.underlying t = some (.slice e)) (hi : (P.info? e).map (·.size) = some 1) (w : World) (b o n k b' o' n' k' m : Nat) (c : Array Value)
    (hm : Nat.min n' n = m) (hc : sub? w b' o' m = some c) (hw : can? w b o m = true) (h1 : ones c = true) :
    (Builtin.copy_ #[t, t] ty #[.slice (some ⟨b, o, none⟩) n k, .slice (some ⟨b', o', none⟩) n' k']).run P w = .ok (.int .i64 m) (putSub w b o c) := by
  have hsz : (sizeOf e).run P w = .ok 1 w := by
    cases h : P.info? e with
    | none => simp [h] at hi
    | some i => simp [h] at hi; simp [sizeOf, typeInfo, h, hi]
  have hl : (loadCells ⟨b', o', none⟩ m).run P w = .ok c w ∧ c.size = m := by
    unfold sub? at hc
    split at hc
    · rename_i d t' fr hd
      split at hc
      · rename_i hle
        simp only [Option.some.injEq] at hc
        have hs : c.toList.length = m := by subst hc; simp; omega
        have hl : (loadCells ⟨b', o', none⟩ c.toList.length).run P w = .ok c.toList.toArray w :=
          run_loadCells_list (P := P) w ⟨b', o', none⟩ c.toList (fun j v hv => by
            rw [add_lit, cell_of_row w b' (o' + j) d t' fr hd]
            subst hc
            rw [Array.toList_extract, List.extract_eq_take_drop, List.getElem?_take] at hv
            split at hv
            · rw [List.getElem?_drop] at hv
              rw [← Array.getElem?_toList]; exact hv
            · cases hv)
        rw [hs, Array.toArray_toList] at hl
        exact ⟨hl, by simpa using hs⟩
      · cases hc
    · cases hc
  have hst : (storeCells ⟨b, o, none⟩ c.toList).run P w = .ok () (putSub w b o c) := by
    unfold can? at hw
    split at hw
    · rename_i d t' hd
      have hle : o + m ≤ d.size := by simpa using hw
      have hst := run_storeCells_at P b o t' c.toList 0 d w hd (by simp [hl.2]; omega) (fun u hu => by
        unfold ones at h1
        rw [Array.all_eq_true_iff_forall_mem] at h1
        exact h1 u (by simpa using hu))
      simp only [Nat.add_zero] at hst
      rw [hst]
      congr 1
      unfold World.setRow putSub
      congr 1
      apply Array.ext_getElem?
      intro i
      rw [Array.getElem?_modify, Array.getElem?_modify]
      by_cases hi : b = i
      · subst hi; simp [hd]
      · simp [hi]
    · cases hw
  simp only [Builtin.copy_]
  simp [run_underlying ht, Builtin.lenOf, Builtin.firstCells, hsz, hm, hl.1, hst, goInt]

/-- A type whose values take one cell, and that is no array and no struct. -/
def oneT (P : Program) (e : Nat) : Bool :=
  (match P.underlying e with | some (.struct _) | some (.array _ _) | none => false | _ => true) && (P.info? e).map (·.size) == some 1
theorem oneT_spec {e : Nat} (h : oneT P e = true) : (∀ w, (isAgg e).run P w = .ok false w) ∧ (∀ w, (sizeOf e).run P w = .ok 1 w) := by
  simp only [oneT, Bool.and_eq_true, beq_iff_eq] at h
  obtain ⟨h1, h2⟩ := h
  constructor
  · intro w
    unfold isAgg
    cases hu : P.underlying e with
    | none => simp [hu] at h1
    | some d =>
      rw [Sem.run_bind, run_underlying hu w]
      cases d <;> simp_all
  · intro w
    cases hi : P.info? e with
    | none => simp [hi] at h2
    | some i => simp [hi] at h2; simp [sizeOf, typeInfo, hi, h2]
/-- An element, of one cell, of an array that is a value. -/
theorem run_index_cells {t e len : Nat} (ht : P.underlying t = some (.array len e)) (he : oneT P e = true) (w : World) (c : Array Value) (i : Nat) (v : Value) (hlt : i < len) (hv : c[i]? = some v) :
    (Instr.index t (.agg c) (.int .i64 i)).run P w = .ok v w := by
  obtain ⟨h1, h2⟩ := oneT_spec he
  simp [Instr.index, asIntOf, run_underlying ht, part, h1 w, h2 w, hv, hlt]

/-- A result that lies in memory. -/
theorem ret_row {fn : Func} {p : Tmp} (h : fn.results = #[.cell p T]) (hT : arrT P T n = true) (tmps : Array Value) (w : World) (g o : Nat) (c : Array Value)
    (hp : tmps.getD p undef = .pointer (some ⟨g, o, none⟩)) (hs : sub? w g o n = some c) : (results fn tmps).run P w = .ok (.agg c) w := by
  have hp' : tmps[p]?.getD undef = .pointer (some ⟨g, o, none⟩) := by simpa using hp
  simp [results, h, hp', asAddr, run_loadVar_sub hT w g o c hs]
end

end Go.Proofs.Ytolboolbapbniaa
