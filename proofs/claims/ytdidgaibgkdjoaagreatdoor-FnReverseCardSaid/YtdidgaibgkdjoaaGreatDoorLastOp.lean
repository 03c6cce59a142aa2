/-
  WALK: a region that draws, whose last operation waits for all the others: it is parted off, so that what is held need not outlive it.
-/
import Derived.OrdersHeld
import Derived.Deep.RegionHeld
namespace Go.Proofs.YtdidgaibgkdjoaaGreatDoor

/-- the last operation waits for each of the others, and no operation waits for a later one -/
def lastOk (md : Region.Mode) (ops : Array Oper) (n : Nat) : Bool :=
  (ops.size == n + 1) && (((ops[n]?).map fun o => (List.range n).all fun j => o.after.any fun e => Region.binds md e && (e.on == j)).getD false && (List.range (n + 1)).all fun i => ((ops[i]?).map fun o => o.after.all fun e => !Region.binds md e || decide (e.on < i)).getD true)
/-- behind the others: the last one -/
def thenLast (P : Program) (ops : Array Oper) (Q : Exit → Act → World → Prop) (n : Nat) : Exit → Act → World → Prop
  | .normal, a, w => wpOp P ops Q n (fun a' w' => Q .normal a' w') a w
  | e, a, w => Q e a w

variable {P : Program} {ops : Array Oper} {Q : Exit → Act → World → Prop} {md : Region.Mode} {S : World → Prop}
theorem wp_congr {o : Oper} {a : Act} {w : World} {n : Nat} {K : Act → World → Prop} (h : o.wp P a w K (thenLast P ops Q n)) : o.wp P a w K Q := by
  unfold Oper.wp at *
  generalize (execOp a.eval o).run P w = r at *
  cases r with
  | ok x w' =>
    cases x <;> simp only [Oper.upon] at h ⊢ <;>
      first
        | exact h
        | exact Calls.mono h (fun e w'' he => by cases e <;> first | exact he | exact (he : ∃ a w, _))
  | halt x w' => cases x <;> simp only [Oper.upon] at h ⊢ <;> exact h
theorem wpOp_congr {i n : Nat} {a : Act} {w : World} {K : Act → World → Prop} (h : wpOp P ops (thenLast P ops Q n) i K a w) : wpOp P ops Q i K a w := by
  unfold wpOp at h ⊢
  split
  · simpa [*] using h
  · rename_i o ho
    simp only [ho] at h
    split
    · rename_i hw
      simp only [hw, if_true] at h
      exact h.imp wp_congr id
    · rename_i hw; simp only [hw] at h; exact h
theorem thenLast_normal {n : Nat} {a : Act} {w : World} (h : wpOp P ops Q n (fun a' w' => Q .normal a' w') a w) : thenLast P ops Q n .normal a w := h
theorem getD_of {L : Array Bool} {j : Nat} (h : j < L.size) (d d' : Bool) : L.getD j d = L.getD j d' := by simp [h]

theorem lastOk_spec {n : Nat} (h : lastOk md ops n = true) : ops.size = n + 1 ∧ (∃ o, ops[n]? = some o ∧ ∀ j, j < n → ∃ e ∈ o.after, Region.binds md e = true ∧ e.on = j) ∧ ∀ (i : Nat) (o : Oper), ops[i]? = some o → ∀ e ∈ o.after, Region.binds md e = true → e.on < i := by
  unfold lastOk at h
  rw [Bool.and_eq_true, Bool.and_eq_true] at h
  obtain ⟨h1, h2, h3⟩ := h
  have hs : ops.size = n + 1 := eq_of_beq h1
  refine ⟨hs, ?_, fun i o ho e he hb => ?_⟩
  · cases ho : ops[n]? with
    | none => rw [ho] at h2; cases h2
    | some o =>
      rw [ho] at h2
      refine ⟨o, rfl, fun j hj => ?_⟩
      have h4 := List.all_eq_true.1 (show ((List.range n).all fun j => o.after.any fun e => Region.binds md e && (e.on == j)) = true from h2) j (List.mem_range.2 hj)
      obtain ⟨i, hi, h5⟩ := Array.any_eq_true.1 h4
      have he := Array.getElem_mem hi
      generalize o.after[i] = e at he h5
      rw [Bool.and_eq_true] at h5
      exact ⟨e, he, h5.1, eq_of_beq h5.2⟩
  · have hi : i < n + 1 := by rw [← hs]; exact (Array.getElem?_eq_some_iff.1 ho).1
    have h4 := List.all_eq_true.1 h3 i (List.mem_range.2 hi)
    rw [ho] at h4
    have h5 : (o.after.all fun e => !Region.binds md e || decide (e.on < i)) = true := h4
    rw [Array.all_eq_true_iff_forall_mem] at h5
    have h6 := h5 e he
    rw [hb] at h6
    simpa using h6

/-- as long as an operation has not come up, one may come up -/
theorem some_ready (hback : ∀ (i : Nat) (o : Oper), ops[i]? = some o → ∀ e ∈ o.after, Region.binds md e = true → e.on < i) {L : Array Bool} (hL : L.size = ops.size) :
    ∀ j, j < ops.size → L.getD j true = false → ∃ i, i ≤ j ∧ i ∈ Region.ready md ops L := by
  intro j
  induction j using Nat.strongRecOn with
  | ind j ih =>
    intro hj hu
    obtain ⟨o, ho⟩ : ∃ o, ops[j]? = some o := ⟨ops[j], Array.getElem?_eq_getElem hj⟩
    by_cases hall : ∀ e ∈ o.after, Region.binds md e = true → L.getD e.on false = true
    · exact ⟨j, Nat.le_refl _, mem_ready.2 ⟨hu, o, ho, hall⟩⟩
    · obtain ⟨e, he, hb, hn⟩ : ∃ e, e ∈ o.after ∧ Region.binds md e = true ∧ ¬ L.getD e.on false = true := by
        refine Classical.byContradiction fun hx => hall fun e he hb => ?_
        exact Classical.byContradiction fun hn => hx ⟨e, he, hb, hn⟩
      have hlt := hback j o ho e he hb
      have hu' : L.getD e.on true = false := by
        rw [getD_of (show e.on < L.size by omega) true false]
        exact Bool.not_eq_true _ ▸ hn
      obtain ⟨i, hi, hr⟩ := ih e.on hlt (by omega) hu'
      exact ⟨i, by omega, hr⟩

theorem any_of_last {n : Nat} (hk : lastOk md ops n = true) : ∀ (fuel : Nat) (L : Array Bool) (a : Act) (w : World), L.size = ops.size → L.getD n true = false →
    wpAnyH P md ops (thenLast P ops Q n) S fuel (L.setIfInBounds n true) a w → wpAny P md ops Q (fuel + 1) L a w := by
  obtain ⟨hs, ⟨on, hon, hdep⟩, hback⟩ := lastOk_spec hk
  have hn : n < ops.size := by omega
  -- the last may come up only when all the others have
  have hlast : ∀ L : Array Bool, L.size = ops.size → n ∈ Region.ready md ops L → ∀ j, j < n → L.getD j true = true := by
    intro L hL hr j hj
    obtain ⟨_, o, ho, hall⟩ := mem_ready.1 hr
    rw [hon] at ho
    cases ho
    obtain ⟨e, he, hb, rfl⟩ := hdep j hj
    rw [getD_of (show e.on < L.size by omega) true false]
    exact hall e he hb
  have hend : ∀ L : Array Bool, L.size = ops.size → n ∈ Region.ready md ops L → Region.ready md ops (L.setIfInBounds n true) = [] := by
    intro L hL hr
    apply List.eq_nil_iff_forall_not_mem.2
    intro i hi
    obtain ⟨h0, o, ho, _⟩ := mem_ready.1 hi
    have hlt : i < n + 1 := by rw [← hs]; exact (Array.getElem?_eq_some_iff.1 ho).1
    by_cases e : i = n
    · subst e
      rw [show (L.setIfInBounds i true).getD i true = true by simp [show i < L.size by omega]] at h0
      cases h0
    · rw [getD_set_ne true (Ne.symm e), hlast L hL hr i (by omega)] at h0
      cases h0
  have hdone : ∀ (fuel : Nat) (L : Array Bool), Region.ready md ops L = [] → ∀ a w, Q .normal a w → wpAny P md ops Q fuel L a w := by
    intro fuel L hr a w h
    cases fuel with
    | zero => exact ⟨hr, h⟩
    | succ f => exact ⟨fun _ => h, by rw [hr]; simp⟩
  intro fuel
  induction fuel with
  | zero =>
    intro L a w hL hu H
    refine ⟨fun h0 => ?_, fun i hi => ?_⟩
    · obtain ⟨i, _, hi⟩ := some_ready (md := md) hback hL n hn hu
      rw [h0] at hi; cases hi
    · by_cases e : i = n
      · subst e
        exact wpOp_mono (fun a' w' h => hdone _ _ (hend L hL hi) _ _ h) (H.2 : wpOp P ops Q i _ a w)
      · have h1 := ready_mono hi e
        rw [H.1] at h1; cases h1
  | succ fuel ih =>
    intro L a w hL hu H
    refine ⟨fun h0 => ?_, fun i hi => ?_⟩
    · obtain ⟨i, _, hi⟩ := some_ready (md := md) hback hL n hn hu
      rw [h0] at hi; cases hi
    · by_cases e : i = n
      · subst e
        exact wpOp_mono (fun a' w' h => hdone _ _ (hend L hL hi) _ _ h) (H.1 (hend L hL hi) : wpOp P ops Q i _ a w)
      · have h1 := H.2 i (ready_mono hi e)
        refine wpOp_mono (fun a' w' h2 => ih (L.setIfInBounds i true) a' w' (by rw [Array.size_setIfInBounds]; exact hL) (by rw [getD_set_ne true e]; exact hu) ?_) (wpOp_congr h1)
        rw [Array.setIfInBounds_comm _ _ e]
        exact h2.2

/-- THE BEGINNING: what is held is held behind each operation but the last. -/
theorem wp_region_last {id n : Nat} {a : Act} {w : World} (hm : P.follows .mixedOrders = true) (hk : lastOk .any ops n = true) (hS : S w.drew)
    (h : S w.drew → wpAnyH P .any ops (thenLast P ops Q n) S n ((Array.replicate ops.size false).setIfInBounds n true) a w.drew) : (Code.region id ops true).wp P Q a w := by
  have hs := (lastOk_spec hk).1
  refine wp_region_any hm ?_
  rw [hs]
  refine any_of_last (S := S) hk n _ a _ (by simp [hs]) (by simp) ?_
  have := h hS
  rw [hs] at this
  exact this

end Go.Proofs.YtdidgaibgkdjoaaGreatDoor
