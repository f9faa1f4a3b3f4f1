/- A hash under way in memory; New. -/
import Derived.Test.YtolboolbapbniaaRows
import Derived.Test.YtolboolbapbniaaBlock
import Derived.Test.YtolboolbapbniaaSlc
namespace Go.Proofs.Ytolboolbapbniaa
open Go.RowKit Sp

/-- The cells of a hash that has got l; what is left lies at A. -/
def hcs (s : St) (A : Option Addr) (m c n : Nat) : Array Value := wcs s.list ++ #[.slice A m c, .int .i64 n, .bool true]
theorem hcs_size (s : St) (A : Option Addr) (m c n : Nat) : (hcs s A m c n).size = 11 := by simp [hcs, wcs_size, St.list_length]

/-- **A hash at block hb that has got l.** -/
def HashAt (w : World) (hb : Nat) (l : List UInt8) : Prop :=
  ∃ A c, w.heap[hb]? = some (.cells (hcs (stOf l) A (Sp.leftOf l).length c l.length) 69 (0, 0)) ∧ Cl w A (bcs (Sp.leftOf l)) ∧ (∀ a, A = some a → a.block ≠ hb ∧ a.block < w.heap.size) ∧ (A = none → (Sp.leftOf l).length = 0 ∧ c = 0) ∧ (Sp.leftOf l).length ≤ c ∧ c ≤ maxLen

attribute [local go_sem ↓] ldSt stSt
attribute [local go_sem] run_ldA run_stA arrSt loadX_at loadY_some storeX_at storeY_true wcs_size ones_wcs St.list_length

set_option maxHeartbeats 400000 in
set_option maxRecDepth 100000 in
theorem square_any (w : World) :
    Calls Try.prog 34 #[] w fun e w' => e = .returned (.agg (wcs init.list)) ∧ w' = w.alloc (.cells (wcs init.list) 66) := by
  go_enter Try.func34, Try.ntmps34
  go_wp2_with (refine wpList_built rfl 66 _ rfl (wcs init.list) (by kernel_rfl) ?_)
  refine bodyPost_ret (ret_row rfl (n := 8) (by kernel_rfl) _ _ w.heap.size 0 (wcs init.list) rfl (sub_alloc_new rfl (by simp [wcs_size, St.list_length]))) rfl ⟨rfl, rfl⟩

set_option maxHeartbeats 400000 in
set_option maxRecDepth 100000 in
theorem new_any (w : World) :
    Calls Try.prog 23 #[] w fun e w' => ∃ hb, e = .returned (.pointer (some ⟨hb, 0, none⟩)) ∧ HashAt w' hb [] ∧ w.heap.size ≤ hb ∧ Below w.heap.size w w' := by
  go_enter Try.func23, Try.ntmps23
  go_wp2_with (first
    | (go_at_call 34; refine (square_any _).mono ?_; rintro e w' ⟨rfl, rfl⟩)
    | (refine wpList_built rfl 69 _ rfl (hcs init none 0 0 0) (by kernel_rfl) ?_))
  go_ret
  refine ⟨_, rfl, ⟨none, 0, ?_, Cl.nil _ _, (fun a ha => by cases ha), fun _ => ⟨rfl, rfl⟩, Nat.le_refl _, Nat.zero_le _⟩, by omega, ((Below.refl _ _).alloc (Nat.le_refl _) _).alloc (by simp) _⟩
  have := heap_alloc_new (w.alloc (.cells (wcs init.list) 66)) (.cells (hcs init none 0 0 0) 69)
  rw [World.size_alloc] at this
  exact this

end Go.Proofs.Ytolboolbapbniaa
