/- A region that draws its order, by an invariant: each operation is walked once, in whatever state the others may have left. -/
import Derived.Test.YtolboolbapbniaaArr
import Derived.RegionTactic
namespace Go.Proofs.Ytolboolbapbniaa
open Go.RowKit

/-- The marks of what is done, i with them. -/
def mk (done : Nat → Bool) (i : Nat) : Nat → Bool := fun j => j == i || done j
/-- The slots, that of dst turned. -/
def up (σ : Nat → Value) (dst : Option Tmp) (v : Value) : Nat → Value :=
  match dst with
  | some d => fun t => if t = d then v else σ t
  | none => σ
theorem mk_self (done : Nat → Bool) (i : Nat) : mk done i i = true := by simp [mk]
theorem mk_ne (done : Nat → Bool) (i j : Nat) (h : j ≠ i) : mk done i j = done j := by simp [mk, h]
theorem up_self (σ : Nat → Value) (d : Tmp) (v : Value) : up σ (some d) v d = v := by simp [up]
theorem up_ne (σ : Nat → Value) (d t : Tmp) (v : Value) (h : t ≠ d) : up σ (some d) v t = σ t := by simp [up, h]
theorem up_none (σ : Nat → Value) (v : Value) : up σ none v = σ := rfl

def putF (a : Act) (slots : List Nat) (σ : Nat → Value) : Act := slots.foldl (fun a s => a.put (some s) (σ s)) a

/-- All that must be done ahead of o is done. -/
def After (o : Oper) (done : Nat → Bool) : Prop := o.after.toList.all (fun e => !Region.binds .any e || done e.on) = true

/-- One operation's goal. -/
def StepG (P : Program) (ops : Array Oper) (Q : Exit → Act → World → Prop) (R : (Nat → Bool) → (Nat → Value) → World → Prop) (o : Oper) (i : Nat) (done : Nat → Bool) (σ : Nat → Value) (a : Act) (w : World) : Prop :=
  if Region.wanted o (yielded ops a.tmps) = true then
    o.wp P a w (fun a' w' => ∃ v, a' = a.put o.dst v ∧ R (mk done i) (up σ o.dst v) w') Q
  else R (mk done i) (up σ o.dst undef) w

/-- Whatever is done stands on what is done. -/
def Closed (ops : Array Oper) (done : Nat → Bool) : Prop := ∀ j o, ops[j]? = some o → done j = true → After o done
theorem Closed.at {ops : Array Oper} {done : Nat → Bool} (h : Closed ops done) (i j : Nat) (o : Oper) (hj : ops[j]? = some o) (hi : done i = false)
    (hd : o.after.toList.any (fun e => Region.binds .any e && e.on == i) = true) : done j = false := by
  cases hdj : done j with
  | false => rfl
  | true =>
    have h1 := h j o hj hdj
    unfold After at h1
    rw [List.all_eq_true] at h1
    rw [List.any_eq_true] at hd
    obtain ⟨e, he, hb⟩ := hd
    have h2 := h1 e he
    simp only [Bool.and_eq_true, beq_iff_eq] at hb
    rw [hb.2, hi] at h2
    simp [hb.1] at h2

def Steps (P : Program) (ops : Array Oper) (Q : Exit → Act → World → Prop) (slots : List Nat) (σ0 : Nat → Value) (R : (Nat → Bool) → (Nat → Value) → World → Prop) : List Oper → Nat → Prop
  | [], _ => True
  | o :: r, i => (∀ done σ w a, done i = false → After o done → Closed ops done → (∀ t, a.tmps[t]?.getD undef = σ t) → (∀ t, t ∉ slots → σ t = σ0 t) → R done σ w → StepG P ops Q R o i done σ a w) ∧ Steps P ops Q slots σ0 R r (i + 1)

theorem Steps.get {P : Program} {ops : Array Oper} {Q : Exit → Act → World → Prop} {slots : List Nat} {σ0 : Nat → Value} {R : (Nat → Bool) → (Nat → Value) → World → Prop} :
    ∀ {l : List Oper} {k : Nat}, Steps P ops Q slots σ0 R l k → ∀ i o, l[i]? = some o →
      ∀ done σ w a, done (k + i) = false → After o done → Closed ops done → (∀ t, a.tmps[t]?.getD undef = σ t) → (∀ t, t ∉ slots → σ t = σ0 t) → R done σ w → StepG P ops Q R o (k + i) done σ a w
  | [], _, _, i, o, h => by simp at h
  | o' :: r, k, hs, 0, o, h => by simp at h; subst h; exact hs.1
  | o' :: r, k, hs, i + 1, o, h => by
    have := hs.2.get i o (by simpa using h)
    rw [show k + 1 + i = k + (i + 1) by omega] at this
    exact this

/-- What the list must be: what binds an operation stands ahead of it; each slot that is written is named. -/
def okList (slots : List Nat) (N : Nat) (l : List Oper) : Bool :=
  (l.zipIdx.all fun (o, i) => o.after.toList.all (fun e => !Region.binds .any e || decide (e.on < i)) &&
    (match o.dst with | some d => slots.contains d | none => true)) && slots.all (· < N)

theorem stepG_plain {P : Program} {ops : Array Oper} {Q : Exit → Act → World → Prop} {R : (Nat → Bool) → (Nat → Value) → World → Prop} {o : Oper} {i : Nat} {done : Nat → Bool} {σ : Nat → Value} {a : Act} {w : World}
    (hg : o.guard = none) (h : ∀ K : Act → World → Prop, (∀ v w', R (mk done i) (up σ o.dst v) w' → K (a.put o.dst v) w') → o.wp P a w K Q) : StepG P ops Q R o i done σ a w := by
  unfold StepG
  rw [if_pos (by simp [Region.wanted, hg])]
  exact h _ fun v w' hr => ⟨v, rfl, hr⟩
/-- A pointer to an array of the call's own: of type T, n cells, from block B on. -/
def Loc (B T n : Nat) (p : Array Value → Prop) (v : Value) (w : World) : Prop :=
  ∃ g c, v = .pointer (some ⟨g, 0, none⟩) ∧ B ≤ g ∧ w.heap[g]? = some (.cells c T (0, 0)) ∧ c.size = n ∧ p c
theorem Loc.keep {B T n : Nat} {p : Array Value → Prop} {v : Value} {w w' : World} (h : Loc B T n p v w) (hk : ∀ g c, v = .pointer (some ⟨g, 0, none⟩) → w.heap[g]? = some (.cells c T (0, 0)) → w'.heap[g]? = w.heap[g]?) : Loc B T n p v w' := by
  obtain ⟨g, c, h1, h2, h3, h4, h5⟩ := h
  exact ⟨g, c, h1, h2, (hk g c h1 h3).trans h3, h4, h5⟩
theorem Loc.alloc {B T n : Nat} {p : Array Value → Prop} {v : Value} {w : World} (h : Loc B T n p v w) (q : Obj) : Loc B T n p v (w.alloc q) :=
  h.keep fun g _ _ hg => Below.heap_alloc w q g (blk_lt hg)
theorem Loc.drew {B T n : Nat} {p : Array Value → Prop} {v : Value} {w : World} (h : Loc B T n p v w) : Loc B T n p v w.drew := h
theorem Loc.below {B T n : Nat} {p : Array Value → Prop} {v : Value} {w w' : World} (h : Loc B T n p v w) (hb : Below w.heap.size w w') : Loc B T n p v w' :=
  h.keep fun g _ _ hg => hb.block g (blk_lt hg)
theorem Loc.imp {B T n : Nat} {p q : Array Value → Prop} {v : Value} {w : World} (h : Loc B T n p v w) (hpq : ∀ c, p c → q c) : Loc B T n q v w := by
  obtain ⟨g, c, h1, h2, h3, h4, h5⟩ := h
  exact ⟨g, c, h1, h2, h3, h4, hpq c h5⟩

section
variable {P : Program} {Q : Exit → Act → World → Prop}

theorem putF_defers (a : Act) (slots : List Nat) (σ : Nat → Value) : (putF a slots σ).defers = a.defers := by
  unfold putF
  induction slots generalizing a with
  | nil => rfl
  | cons s r ih => simp only [List.foldl_cons]; rw [ih]; rfl
theorem putF_size (a : Act) (slots : List Nat) (σ : Nat → Value) : (putF a slots σ).tmps.size = a.tmps.size := by
  unfold putF
  induction slots generalizing a with
  | nil => rfl
  | cons s r ih => simp only [List.foldl_cons]; rw [ih]; simp [Act.put]
theorem putF_get (a : Act) (slots : List Nat) (σ : Nat → Value) (t : Nat) (ht : t < a.tmps.size) :
    (putF a slots σ).tmps[t]? = if t ∈ slots then some (σ t) else a.tmps[t]? := by
  unfold putF
  induction slots generalizing a with
  | nil => simp
  | cons s r ih =>
    simp only [List.foldl_cons]
    rw [ih _ (by simpa [Act.put] using ht)]
    by_cases h : t ∈ r
    · simp [h]
    · by_cases h2 : s = t
      · subst h2; simp [h, Act.put, ht]
      · have h3 : ¬ t = s := fun e => h2 e.symm
        simp [h, h3, Act.put, Array.getElem?_setIfInBounds_ne h2]
theorem putF_eq {a0 a : Act} {slots : List Nat} {σ : Nat → Value} (hd : a.defers = a0.defers) (hs : a.tmps.size = a0.tmps.size)
    (hσ : ∀ t, a.tmps[t]?.getD undef = σ t) (h0 : ∀ t, t ∉ slots → σ t = a0.tmps[t]?.getD undef) : a = putF a0 slots σ := by
  have e1 : a.tmps = (putF a0 slots σ).tmps := by
    apply Array.ext_getElem?
    intro t
    by_cases ht : t < a0.tmps.size
    · rw [putF_get a0 slots σ t ht]
      have ha : a.tmps[t]? = some (σ t) := by
        have := hσ t
        rw [Array.getElem?_eq_getElem (by omega)] at this ⊢
        simp at this; rw [this]
      rw [ha]
      split
      · rfl
      · rename_i hn
        have := h0 t hn
        rw [Array.getElem?_eq_getElem ht] at this ⊢
        simp at this; rw [this]
    · rw [Array.getElem?_eq_none (by omega), Array.getElem?_eq_none (by rw [putF_size]; omega)]
  have e2 : a.defers = (putF a0 slots σ).defers := by rw [putF_defers, hd]
  cases a; cases h : putF a0 slots σ; rw [h] at e1 e2; simp_all

theorem count_set {n i : Nat} {listed : Array Bool} (hi : i < n) (hs : listed.size = n) (h : listed.getD i true = false) :
    ((List.range n).filter fun j => !(listed.setIfInBounds i true).getD j true).length < ((List.range n).filter fun j => !listed.getD j true).length := by
  have hsub : ∀ (l : List Nat), ((l.filter fun j => !(listed.setIfInBounds i true).getD j true).length ≤ (l.filter fun j => !listed.getD j true).length) ∧
      (i ∈ l → (l.filter fun j => !(listed.setIfInBounds i true).getD j true).length < (l.filter fun j => !listed.getD j true).length) := by
    intro l
    induction l with
    | nil => simp
    | cons x r ih =>
      by_cases hx : i = x
      · subst hx
        have e1 : (listed.setIfInBounds i true).getD i true = true := by simp [hs, hi]
        simp only [List.filter_cons, e1, h]
        simp
        have h3 := ih.1
        simp only [Array.getD_eq_getD_getElem?] at h3
        omega
      · have e1 : (listed.setIfInBounds i true).getD x true = listed.getD x true := by simp [Array.getElem?_setIfInBounds_ne hx]
        simp only [List.filter_cons, e1]
        split
        · simp only [List.length_cons, List.mem_cons]
          refine ⟨by have := ih.1; omega, ?_⟩
          rintro (h | h)
          · exact absurd h hx
          · have := ih.2 h; omega
        · simp only [List.mem_cons]
          refine ⟨ih.1, ?_⟩
          rintro (h | h)
          · exact absurd h hx
          · exact ih.2 h
  exact (hsub (List.range n)).2 (List.mem_range.2 hi)

theorem wp_region_inv {id : Nat} {l : List Oper} {a0 : Act} {w0 : World} (slots : List Nat) (R : (Nat → Bool) → (Nat → Value) → World → Prop)
    (hm : P.follows .mixedOrders = true) (hB : okList slots a0.tmps.size l = true)
    (h0 : R (fun _ => false) (fun t => a0.tmps[t]?.getD undef) w0.drew)
    (hsteps : Steps P l.toArray Q slots (fun t => a0.tmps[t]?.getD undef) R l 0)
    (hend : ∀ done σ w, (∀ j, j < l.length → done j = true) → (∀ t, t ∉ slots → σ t = a0.tmps[t]?.getD undef) → R done σ w → Q .normal (putF a0 slots σ) w) :
    (Code.region id l.toArray true).wp P Q a0 w0 := by
  have hl : ∀ i o, l[i]? = some o → (∀ e ∈ o.after, Region.binds .any e = true → e.on < i) ∧ (∀ d, o.dst = some d → d ∈ slots) := by
    intro i o ho
    simp only [okList, Bool.and_eq_true, List.all_eq_true] at hB
    have h1 := hB.1 (o, i) (List.mem_zipIdx_iff_getElem?.2 (by simpa using ho))
    refine ⟨fun e he hb => ?_, fun d hd => ?_⟩
    · have := h1.1 e (by simpa using he)
      simpa [hb] using this
    · have h2 := h1.2
      rw [hd] at h2
      simpa using h2
  have hN : ∀ d ∈ slots, d < a0.tmps.size := by
    intro d hd
    simp only [okList, Bool.and_eq_true, List.all_eq_true] at hB
    simpa using hB.2 d hd
  refine wp_region_any hm ?_
  have key : ∀ (fuel : Nat) (listed : Array Bool) (a : Act) (w : World), listed.size = l.length →
      ((List.range l.length).filter fun j => !listed.getD j true).length ≤ fuel → a.defers = a0.defers → a.tmps.size = a0.tmps.size → Closed l.toArray (fun j => listed.getD j false) →
      (∃ σ, (∀ t, a.tmps[t]?.getD undef = σ t) ∧ (∀ t, t ∉ slots → σ t = a0.tmps[t]?.getD undef) ∧ R (fun j => listed.getD j false) σ w) →
      wpAny P .any l.toArray Q fuel listed a w := by
    intro fuel
    have fin : ∀ (listed : Array Bool) (a : Act) (w : World), listed.size = l.length → a.defers = a0.defers → a.tmps.size = a0.tmps.size →
        (∃ σ, (∀ t, a.tmps[t]?.getD undef = σ t) ∧ (∀ t, t ∉ slots → σ t = a0.tmps[t]?.getD undef) ∧ R (fun j => listed.getD j false) σ w) →
        Region.ready .any l.toArray listed = [] → Q .normal a w := by
      rintro listed a w hs hd hsz ⟨σ, h1, h2, h3⟩ hr
      have all : ∀ j, j < l.length → listed.getD j false = true := by
        intro j
        induction j using Nat.strongRecOn with
        | _ j ih =>
          intro hj
          cases hlj : listed.getD j false with
          | true => rfl
          | false =>
            exfalso
            have : j ∈ Region.ready .any l.toArray listed := mem_ready.2 ⟨by
              rw [Array.getD_eq_getD_getElem?, Array.getElem?_eq_getElem (by omega)] at hlj ⊢; simpa using hlj,
              l[j], by simp [hj], fun e he hb => ih e.on ((hl j l[j] (by simp [hj])).1 e he hb) (by have := (hl j l[j] (by simp [hj])).1 e he hb; omega)⟩
            rw [hr] at this; cases this
      rw [putF_eq hd hsz h1 h2]
      exact hend _ σ w all h2 h3
    induction fuel with
    | zero =>
      intro listed a w hs hc hd hsz hcl hR
      have hr : Region.ready .any l.toArray listed = [] := by
        apply List.eq_nil_iff_forall_not_mem.2
        intro j hj
        obtain ⟨h1, o, ho, _⟩ := mem_ready.1 hj
        have hlt : j < l.length := by
          have := (List.getElem?_eq_some_iff.1 (by simpa using ho)).1; exact this
        have : j ∈ (List.range l.length).filter fun j => !listed.getD j true := List.mem_filter.2 ⟨List.mem_range.2 hlt, by rw [h1]; rfl⟩
        have := List.length_pos_of_mem this
        omega
      exact ⟨hr, fin listed a w hs hd hsz hR hr⟩
    | succ fuel ih =>
      intro listed a w hs hc hd hsz hcl hR
      refine ⟨fin listed a w hs hd hsz hR, fun i hi => ?_⟩
      obtain ⟨h1, o, ho, hall⟩ := mem_ready.1 hi
      have hol : l[i]? = some o := by simpa using ho
      have hlt : i < l.length := (List.getElem?_eq_some_iff.1 hol).1
      obtain ⟨σ, g1, g2, g3⟩ := hR
      have hi0 : listed.getD i false = false := by
        rw [Array.getD_eq_getD_getElem?, Array.getElem?_eq_getElem (by omega)] at h1 ⊢; simpa using h1
      have hst := hsteps.get i o hol (fun j => listed.getD j false) σ w a (by simpa using hi0)
        (by
          unfold After
          rw [List.all_eq_true]
          intro e he
          cases hb : Region.binds .any e
          · rfl
          · simpa using hall e (by simpa using he) hb) hcl g1 g2 g3
      rw [Nat.zero_add] at hst
      have hmk : mk (fun j => listed.getD j false) i = fun j => (listed.setIfInBounds i true).getD j false := by
        funext j
        by_cases hj : j = i
        · subst hj; rw [mk_self]; simp [hs, hlt]
        · rw [mk_ne _ _ _ hj]; simp [Array.getElem?_setIfInBounds_ne (fun e => hj e.symm)]
      have hcl' : Closed l.toArray (fun j => (listed.setIfInBounds i true).getD j false) := by
        intro j o' ho' hj
        have mono : ∀ k, listed.getD k false = true → (listed.setIfInBounds i true).getD k false = true := fun k hk => getD_set_true hk
        unfold After
        rw [List.all_eq_true]
        intro e he
        cases hb : Region.binds .any e
        · rfl
        · have hj' : (listed.setIfInBounds i true).getD j false = true := hj
          by_cases hji : j = i
          · subst hji
            rw [ho] at ho'
            cases ho'
            simpa using mono e.on (hall e (by simpa using he) hb)
          · have h3 : listed.getD j false = true := by rw [getD_set_ne false (fun e => hji e.symm)] at hj'; exact hj'
            have h4 := hcl j o' ho' h3
            unfold After at h4
            rw [List.all_eq_true] at h4
            have h5 := h4 e he
            rw [hb] at h5
            simpa using mono e.on (by simpa using h5)
      have hcs := count_set hlt hs h1
      have nextA : ∀ v, (a.put o.dst v).defers = a0.defers ∧ (a.put o.dst v).tmps.size = a0.tmps.size := fun v => by
        cases o.dst <;> simp [Act.put, hd, hsz]
      have upd : ∀ v, (∀ t, (a.put o.dst v).tmps[t]?.getD undef = up σ o.dst v t) ∧ (∀ t, t ∉ slots → up σ o.dst v t = a0.tmps[t]?.getD undef) := fun v => by
        cases hdst : o.dst with
        | none => exact ⟨g1, g2⟩
        | some d =>
          have hds := (hl i o hol).2 d hdst
          have hdN := hN d hds
          refine ⟨fun t => ?_, fun t ht => ?_⟩
          · by_cases h : t = d
            · subst h; rw [up_self]; simp [Act.put, hsz, hdN]
            · rw [up_ne _ _ _ _ h, ← g1 t]; simp [Act.put, Array.getElem?_setIfInBounds_ne (fun e => h e.symm)]
          · rw [up_ne _ _ _ _ (fun e => ht (by rw [e]; exact hds))]; exact g2 t ht
      unfold wpOp
      rw [ho]
      show if Region.wanted o (yielded l.toArray a.tmps) = true then _ else _
      unfold StepG at hst
      split
      · rename_i hw
        rw [if_pos hw] at hst
        refine .inl (Oper.wp_mono ?_ hst)
        rintro a' w' ⟨v, rfl, hR'⟩
        refine ih _ _ _ (by simpa using hs) (by omega) (nextA v).1 (nextA v).2 hcl' ⟨_, (upd v).1, (upd v).2, ?_⟩
        rw [← hmk]; exact hR'
      · rename_i hw
        rw [if_neg hw] at hst
        refine ih _ _ _ (by simpa using hs) (by omega) (nextA undef).1 (nextA undef).2 hcl' ⟨_, (upd undef).1, (upd undef).2, ?_⟩
        rw [← hmk]; exact hst
  refine key l.toArray.size (Array.replicate l.toArray.size false) a0 w0.drew (by simp) ?_ rfl rfl ?_ ⟨_, fun _ => rfl, fun _ _ => rfl, ?_⟩
  · exact Nat.le_trans (List.length_filter_le _ _) (by simp)
  · intro j o' _ hj
    have hj' : (Array.replicate l.toArray.size false).getD j false = true := hj
    simp [Array.getElem?_replicate] at hj'
    split at hj' <;> simp at hj'
  · have : (fun j => (Array.replicate l.toArray.size false).getD j false) = fun _ => false := by
      funext j; simp [Array.getElem?_replicate]; split <;> rfl
    rw [this]; exact h0
end

end Go.Proofs.Ytolboolbapbniaa
