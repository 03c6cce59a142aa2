/-
  WALK: guarded operations that are not wanted, taken all at once (the guards being decided).
-/
import Derived.OrdersHeld
import Derived.Deep.RegionHeld
namespace Go.Proofs.Ytibchndfndgdeaa

/-- each may come up, is not wanted, and lies in the slot told -/
def skipOk (md : Region.Mode) (ops : Array Oper) : List (Nat × Nat) → Array Bool → Array Value → Bool
  | [], _, _ => true
  | (i, t) :: r, L, T =>
    (match ops[i]? with
      | some o => (o.dst == some t) && (!(Region.wanted o (yielded ops T)) && (Region.free md ops L i && (Region.ready md ops L).contains i))
      | none => false) && skipOk md ops r (L.setIfInBounds i true) (T.setIfInBounds t undef)

theorem skipsH {P : Program} {ops : Array Oper} {Q : Exit → Act → World → Prop} {md : Region.Mode} {S : World → Prop} (hs : Region.noSelect ops = true) :
    ∀ (is : List (Nat × Nat)) (fuel : Nat) (L : Array Bool) (a : Act) (w : World), skipOk md ops is L a.tmps = true → (∀ c a (d : Tmp) w, Q (.panic c) (a.put (some d) undef) w → Q (.panic c) a w) → S w →
      wpAnyH P md ops Q S fuel (is.foldl (fun L i => L.setIfInBounds i.1 true) L) (is.foldl (fun a i => a.put (some i.2) undef) a) w →
      wpAnyH P md ops Q S (fuel + is.length) L a w
  | [], _, _, _, _, _, _, _, h => h
  | (i, t) :: r, fuel, L, a, w, hk, hQ, hS, h => by
    unfold skipOk at hk
    rw [Bool.and_eq_true] at hk
    obtain ⟨h1, h2⟩ := hk
    cases ho : ops[i]? with
    | none => rw [ho] at h1; cases h1
    | some o =>
      rw [ho] at h1
      simp only [Bool.and_eq_true, Bool.not_eq_true'] at h1
      obtain ⟨hd, hw, hf, hr⟩ := h1
      have hd := eq_of_beq hd
      refine wpAnyH_take ho hs hf hr (fun c a w h => hQ c a t w (by rw [hd] at h; exact h)) (Or.inr ⟨hw, rfl⟩) hS ?_
      rw [hd]
      exact skipsH hs r fuel _ _ w h2 hQ hS h

/-- one that is wanted, or is not: the slot is told, so that the state can be laid out -/
theorem takeH {P : Program} {ops : Array Oper} {Q : Exit → Act → World → Prop} {md : Region.Mode} {S : World → Prop} {oi : Oper} (i t : Nat) (v : Value) {fuel : Nat} {L : Array Bool} {a : Act} {w : World} (hi : ops[i]? = some oi) (hd : oi.dst = some t)
    (hs : Region.noSelect ops = true) (hf : Region.free md ops L i = true) (hr : (Region.ready md ops L).contains i = true)
    (hQ : ∀ c a (d : Tmp) w, Q (.panic c) (a.put (some d) v) w → Q (.panic c) a w) (hS : S w) (hy : YieldsIf P ops S oi v a)
    (h : wpAnyH P md ops Q S fuel (L.setIfInBounds i true) (a.put (some t) v) w) : wpAnyH P md ops Q S (fuel + 1) L a w :=
  wpAnyH_take hi hs hf hr (fun c a w h => hQ c a t w (by rw [hd] at h; exact h)) hy hS (by rw [hd]; exact h)

end Go.Proofs.Ytibchndfndgdeaa
