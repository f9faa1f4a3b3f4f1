/- What a slice reads as; the builtin append onto a row of one's own, from whatever source. -/
import Derived.Test.YtolboolbapbniaaArr
import Derived.Laws.AppendOwnNone
import Derived.Laws.OwnMore
namespace Go.Proofs.Ytolboolbapbniaa
open Go.RowKit Sp

/-- The cells from address A on are those of cs (nothing is asked of A where there are none). -/
def Cl (w : World) (A : Option Addr) (cs : List Value) : Prop := ∀ j u, cs[j]? = some u → ∃ a, A = some a ∧ w.cell? (a.add j) = some u
theorem Cl.nil (w : World) (A : Option Addr) : Cl w A [] := fun j u h => by simp at h
theorem Cl.below {w w' : World} {A : Option Addr} {cs : List Value} (h : Cl w A cs) (hb : Below w.heap.size w w') : Cl w' A cs := fun j u hj => by
  obtain ⟨a, ha, hc⟩ := h j u hj
  exact ⟨a, ha, (hb.cell (World.block_lt_of_cell? w _ hc)).trans hc⟩
theorem Cl.alloc {w : World} {A : Option Addr} {cs : List Value} (h : Cl w A cs) (q : Obj) : Cl (w.alloc q) A cs := h.below ((Below.refl _ _).alloc (Nat.le_refl _) _)
theorem Cl.drew {w : World} {A : Option Addr} {cs : List Value} (h : Cl w A cs) : Cl w.drew A cs := h
theorem Cl.drewN {w : World} {A : Option Addr} {cs : List Value} (h : Cl w A cs) (k : Nat) : Cl (w.drewN k) A cs := h
theorem add_block (a : Addr) (j : Nat) : (a.add j).block = a.block := by unfold Addr.add; split <;> rfl
theorem Cl.keep {w w' : World} {A : Option Addr} {cs : List Value} (h : Cl w A cs) (hk : ∀ a, A = some a → a.block < w.heap.size → w'.heap[a.block]? = w.heap[a.block]?) : Cl w' A cs := fun j u hj => by
  obtain ⟨a, ha, hc⟩ := h j u hj
  have hlt := World.block_lt_of_cell? w _ hc
  rw [add_block] at hlt
  exact ⟨a, ha, (World.cell?_of_block (by rw [add_block]; exact hk a ha hlt)).trans hc⟩
theorem Cl.grown {w w' : World} {A : Option Addr} {cs : List Value} {row : Option Nat} (h : Cl w A cs) (hg : w.grownBy w' row) (hne : ∀ a, A = some a → some a.block ≠ row) : Cl w' A cs :=
  h.keep fun a ha hlt => hg.block _ hlt (hne a ha)
/-- Where there are cells, there is a plain address. -/
theorem Cl.at {w : World} {A : Option Addr} {cs : List Value} (h : Cl w A cs) (hne : cs ≠ []) :
    ∃ b o, A = some ⟨b, o, none⟩ ∧ b < w.heap.size ∧ ∀ j u, cs[j]? = some u → w.cell? ⟨b, o + j, none⟩ = some u := by
  cases cs with
  | nil => exact absurd rfl hne
  | cons x r =>
    obtain ⟨a, ha, hc⟩ := h 0 x rfl
    obtain ⟨b, o, s⟩ := a
    have hs : s = none := by
      cases s with
      | none => rfl
      | some t =>
        simp [Addr.add, World.cell?] at hc
        split at hc <;> simp_all
    subst hs
    refine ⟨b, o, ha, ?_, fun j u hj => ?_⟩
    · have := World.block_lt_of_cell? w _ hc; simpa [Addr.add] using this
    · obtain ⟨a', ha', hc'⟩ := h j u hj
      rw [ha] at ha'; cases ha'
      rw [add_lit] at hc'; exact hc'
theorem Cl.mk {w : World} {b o : Nat} {cs : List Value} (h : ∀ j u, cs[j]? = some u → w.cell? ⟨b, o + j, none⟩ = some u) : Cl w (some ⟨b, o, none⟩) cs :=
  fun j u hj => ⟨_, rfl, by rw [add_lit]; exact h j u hj⟩
theorem Cl.take {w : World} {A : Option Addr} {cs : List Value} (h : Cl w A cs) (n : Nat) : Cl w A (cs.take n) := fun j u hj => by
  rw [List.getElem?_take] at hj
  split at hj
  · exact h j u hj
  · cases hj
theorem Cl.drop {w : World} {b o : Nat} {cs : List Value} (h : Cl w (some ⟨b, o, none⟩) cs) (n : Nat) : Cl w (some ⟨b, o + n, none⟩) (cs.drop n) := fun j u hj => by
  rw [List.getElem?_drop] at hj
  obtain ⟨a, ha, hc⟩ := h _ _ hj
  cases ha
  rw [add_lit] at hc
  exact ⟨_, rfl, by rw [add_lit, Nat.add_assoc]; exact hc⟩
theorem Cl.sub {w : World} {b o : Nat} {cs : List Value} (h : Cl w (some ⟨b, o, none⟩) cs) (hne : cs ≠ []) : sub? w b o cs.length = some cs.toArray := by
  have h2 : ∀ j u, cs[j]? = some u → w.cell? ⟨b, o + j, none⟩ = some u := fun j u hj => by
    obtain ⟨a, ha, hc⟩ := h j u hj
    cases ha; rw [add_lit] at hc; exact hc
  obtain ⟨x, hx⟩ : ∃ x, cs[0]? = some x := by
    cases cs with
    | nil => exact absurd rfl hne
    | cons x r => exact ⟨x, rfl⟩
  have h0 := h2 0 x hx
  unfold World.cell? at h0
  unfold sub?
  split at h0
  · rename_i c t fr hd
    simp only [hd]
    have hall : ∀ j (hj : j < cs.length), c[o + j]? = some cs[j] := fun j hj => by
      have := h2 j cs[j] (by simp [hj])
      unfold World.cell? at this
      simpa [hd] using this
    have hpos : 0 < cs.length := List.length_pos_iff.2 hne
    have hlast := hall (cs.length - 1) (by omega)
    have hle : o + cs.length ≤ c.size := by
      have h3 := (Array.getElem?_eq_some_iff.1 hlast).1
      omega
    rw [if_pos hle]
    congr 1
    apply Array.ext_getElem?
    intro i
    by_cases hi : i < cs.length
    · have h4 := hall i hi
      rw [Array.getElem?_eq_getElem (by omega)] at h4
      rw [Array.getElem?_extract_of_lt (by omega), h4]; simp [hi]
    · rw [Array.getElem?_eq_none (by simp; omega), Array.getElem?_eq_none (by simp; omega)]
  · cases h0

/-- A row of one's own reads as its cells. -/
theorem own_cl {w : World} {base e size n : Nat} {v : Value} {xs : List Value} (h : w.ownsRow base e size v n xs) : ∃ A c, v = .slice A n c ∧ n ≤ c ∧ c ≤ maxLen ∧ Cl w A xs ∧ (∀ a, A = some a → base ≤ a.block ∧ a.block < w.heap.size) ∧ (A = none → n = 0 ∧ c = 0) := by
  rcases h.2 with ⟨rfl, rfl⟩ | ⟨g, cap, cur, rfl, hb, hg, hn, hm, _, _⟩
  · have : xs = [] := List.eq_nil_of_length_eq_zero (by simpa using h.1)
    subst this
    exact ⟨none, 0, rfl, Nat.le_refl _, Nat.zero_le _, Cl.nil _ _, (fun a ha => by cases ha), fun _ => ⟨rfl, rfl⟩⟩
  · refine ⟨_, cap, rfl, hn, hm, fun j u hj => ⟨_, rfl, h.cells rfl j u hj⟩, (fun a ha => by cases ha; exact ⟨hb, (Array.getElem?_eq_some_iff.1 hg).1⟩), fun e => by cases e⟩
theorem own_mono {w : World} {base base' e size n : Nat} {v : Value} {xs : List Value} (h : w.ownsRow base e size v n xs) (hb : base' ≤ base) : w.ownsRow base' e size v n xs := by
  refine ⟨h.1, h.2.imp id ?_⟩
  rintro ⟨g, cap, cur, h1, h2, h3⟩
  exact ⟨g, cap, cur, h1, Nat.le_trans hb h2, h3⟩
theorem own_below {w w' : World} {base e size n : Nat} {v : Value} {xs : List Value} (h : w.ownsRow base e size v n xs) (hb : Below w.heap.size w w') : w'.ownsRow base e size v n xs := by
  refine ⟨h.1, h.2.imp id ?_⟩
  rintro ⟨g, cap, cur, h1, h2, h3, h4⟩
  exact ⟨g, cap, cur, h1, h2, (hb.block g (Array.getElem?_eq_some_iff.1 h3).1).trans h3, h4⟩
theorem own_keep {w w' : World} {base e size n : Nat} {v : Value} {xs : List Value} (h : w.ownsRow base e size v n xs) (hk : ∀ g, base ≤ g → g < w.heap.size → v.ownBlock = some g → w'.heap[g]? = w.heap[g]?) : w'.ownsRow base e size v n xs := by
  refine ⟨h.1, h.2.imp id ?_⟩
  rintro ⟨g, cap, cur, h1, h2, h3, h4⟩
  exact ⟨g, cap, cur, h1, h2, (hk g h2 (Array.getElem?_eq_some_iff.1 h3).1 (by rw [h1]; rfl)).trans h3, h4⟩

section
variable {P : Program}
theorem run_app (w : World) (base : Nat) (t ty e : TypeId) (z : Value) (size bytes : Nat) (ht : P.underlying t = some (.slice e))
    (hinfo : (P.info? e).map (fun i => (i.zero, i.size, i.bytes)) = some (some z, size, bytes)) (hzs : z.cells.size = size) (hsz : 0 < size)
    (v : Value) (n : Nat) (xs : List Value) (hown : w.ownsRow base e size v n xs)
    (A : Option Addr) (m c : Nat) (news : List Value) (hl : news.length = m * size) (hA : A = none → m = 0 ∧ c = 0) (hnews : Cl w A news) (h1 : ∀ u ∈ news, u.oneCell' = true)
    (h63 : n + m ≤ maxLen) (hbytes : (n + m) * bytes ≤ 140737488355328) (hbase : base ≤ w.heap.size) :
    ∃ v' w', (Builtin.append_ #[t, t] ty #[v, .slice A m c]).run P w = .ok v' w' ∧ w'.ownsRow base e size v' (n + m) (xs ++ news) ∧ w.grownBy w' v.ownBlock ∧
      (v' = .slice none 0 0 ↔ v = .slice none 0 0 ∧ m = 0) := by
  obtain ⟨i, hi, hz, hs, hb⟩ := info_parts hinfo
  cases A with
  | none =>
    obtain ⟨rfl, rfl⟩ := hA rfl
    have : news = [] := List.eq_nil_of_length_eq_zero (by simpa using hl)
    subst this
    refine ⟨v, w, run_append_owned_none (P := P) w base t ty e i size ht hi v n xs hown, by simpa using hown, ⟨rfl, rfl, rfl, Nat.le_refl _, fun _ _ _ => rfl⟩, by simp⟩
  | some a =>
    exact run_append_own (P := P) w base t ty e i z size bytes ht hi hz hs hb hzs hsz v n xs hown a m c news hl (fun j u hj => by
      obtain ⟨a', ha, hc⟩ := hnews j u hj
      cases ha; exact hc) h1 h63 hbytes hbase

theorem wp_app {w : World} {o : Oper} {a : Act} {K : Act → World → Prop} {Q : Exit → Act → World → Prop} (s x : Operand) (t : TypeId)
    (ho : o.op = .call { callee := .builtin .append, args := #[s, x], argTypes := #[t, t] })
    (base : Nat) (e : TypeId) (z : Value) (size bytes : Nat) (ht : P.underlying t = some (.slice e))
    (hinfo : (P.info? e).map (fun i => (i.zero, i.size, i.bytes)) = some (some z, size, bytes)) (hzs : z.cells.size = size) (hsz : 0 < size)
    (v : Value) (n : Nat) (xs : List Value) (hs : a.eval s = v) (hown : w.ownsRow base e size v n xs)
    (A : Option Addr) (m c : Nat) (news : List Value) (hx : a.eval x = .slice A m c) (hl : news.length = m * size) (hA : A = none → m = 0 ∧ c = 0) (hnews : Cl w A news) (h1 : ∀ u ∈ news, u.oneCell' = true)
    (h63 : n + m ≤ maxLen) (hbytes : (n + m) * bytes ≤ 140737488355328) (hbase : base ≤ w.heap.size)
    (h : ∀ v' w', w'.ownsRow base e size v' (n + m) (xs ++ news) → w.grownBy w' v.ownBlock → (v' = .slice none 0 0 ↔ v = .slice none 0 0 ∧ m = 0) → K (a.put o.dst v') w') : o.wp P a w K Q := by
  obtain ⟨v', w', hr, h2, h3, h4⟩ := run_app (P := P) w base t o.type e z size bytes ht hinfo hzs hsz v n xs hown A m c news hl hA hnews h1 h63 hbytes hbase
  unfold Oper.wp execOp
  simp only [ho, resolve, invoke, builtin, Sem.run_bind, Sem.run_pure, Result.andThen_ok, List.map_toArray, List.map_cons, List.map_nil, hs, hx, hr]
  exact h v' w' h2 h3 h4

theorem wpList_app {w : World} {ops : Array Oper} {rest : List Oper} {o : Oper} {a : Act} {Q : Exit → Act → World → Prop} (hgd : o.guard = none) (s x : Operand) (t : TypeId)
    (ho : o.op = .call { callee := .builtin .append, args := #[s, x], argTypes := #[t, t] })
    (base : Nat) (e : TypeId) (z : Value) (size bytes : Nat) (ht : P.underlying t = some (.slice e))
    (hinfo : (P.info? e).map (fun i => (i.zero, i.size, i.bytes)) = some (some z, size, bytes)) (hzs : z.cells.size = size) (hsz : 0 < size)
    (v : Value) (n : Nat) (xs : List Value) (hs : a.eval s = v) (hown : w.ownsRow base e size v n xs)
    (A : Option Addr) (m c : Nat) (news : List Value) (hx : a.eval x = .slice A m c) (hl : news.length = m * size) (hA : A = none → m = 0 ∧ c = 0) (hnews : Cl w A news) (h1 : ∀ u ∈ news, u.oneCell' = true)
    (h63 : n + m ≤ maxLen) (hbytes : (n + m) * bytes ≤ 140737488355328) (hbase : base ≤ w.heap.size)
    (h : ∀ v' w', w'.ownsRow base e size v' (n + m) (xs ++ news) → w.grownBy w' v.ownBlock → (v' = .slice none 0 0 ↔ v = .slice none 0 0 ∧ m = 0) → wpList P ops Q rest (a.put o.dst v') w') : wpList P ops Q (o :: rest) a w :=
  wpList_plain hgd fun _ hK => wp_app s x t ho base e z size bytes ht hinfo hzs hsz v n xs hs hown A m c news hx hl hA hnews h1 h63 hbytes hbase
    (fun v' w' a b c => hK _ _ (h v' w' a b c))
end

/-- Bytes as cells. -/
def bcs (l : List UInt8) : List Value := l.map fun b => Value.int .u8 (ib b)
theorem bcs_length (l : List UInt8) : (bcs l).length = l.length := by simp [bcs]
theorem bcs_append (l m : List UInt8) : bcs (l ++ m) = bcs l ++ bcs m := by simp [bcs]
theorem bcs_one (l : List UInt8) : ∀ u ∈ bcs l, u.oneCell' = true := by
  intro u hu; simp [bcs] at hu; obtain ⟨x, _, rfl⟩ := hu; rfl
theorem bcs_get (l : List UInt8) (i : Nat) (h : i < l.length) : (bcs l)[i]? = some (.int .u8 (ib (bg l i))) := by simp [bcs, bg, h]
theorem bcs_take (l : List UInt8) (n : Nat) : (bcs l).take n = bcs (l.take n) := by simp [bcs, List.map_take]
theorem bcs_drop (l : List UInt8) (n : Nat) : (bcs l).drop n = bcs (l.drop n) := by simp [bcs, List.map_drop]

end Go.Proofs.Ytolboolbapbniaa
