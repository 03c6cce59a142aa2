/-
  PLAIN: a slice of the call's own whose elements hold slices of integers of the call's own.
-/
import Derived.Test.YtkbbcmbeafjpaaaGreatDoorWid
import Derived.Test.YtkbbcmbeafjpaaaGreatDoorMarkD
namespace Go.Proofs.YtkbbcmbeafjpaaaGreatDoor
open Go.RowKit

/-- rows of different element types lie in different blocks -/
theorem apart_type {w : World} {b b' : Nat} {E E' : TypeId} {s s' n n' : Nat} {v v' : Value} {xs xs' : List Value} (h : w.ownsRow b E s v n xs) (h' : w.ownsRow b' E' s' v' n' xs') (hne : E ≠ E') : ∀ g, v.ownBlock = some g → v'.ownBlock ≠ some g := by
  intro g hg hg'
  rcases h.2 with ⟨rfl, _⟩ | ⟨g1, c1, u1, rfl, _, k1, _⟩
  · simp [Value.ownBlock] at hg
  · rcases h'.2 with ⟨rfl, _⟩ | ⟨g2, c2, u2, rfl, _, k2, _⟩
    · simp [Value.ownBlock] at hg'
    · simp only [Value.ownBlock, Option.some.injEq] at hg hg'
      subst hg
      subst hg'
      rw [k1] at k2
      cases k2
      exact hne rfl

/-- the inner rows: each of the call's own, no two in one block -/
def Inner (w : World) (lo hi : Nat) (xs : List Value) (sz p : Nat) (L : List (List Int)) (U : Nat → Value) : Prop :=
  (∀ j (h : j < L.length), xs[j * sz + p]? = some (U j) ∧ w.ownsRow lo 3 1 (U j) (L[j]).length (ints L[j]) ∧ (∀ g, (U j).ownBlock = some g → g < hi)) ∧ (∀ i j, i < j → j < L.length → ∀ g, (U i).ownBlock = some g → (U j).ownBlock ≠ some g)
def OwnNest (E : TypeId) (sz p : Nat) (w : World) (lo hi : Nat) (v : Value) (L : List (List Int)) (xs : List Value) : Prop :=
  OwnRow E sz w lo hi v L.length xs ∧ ∃ U, Inner w lo hi xs sz p L U
theorem Inner.keep {w w' : World} {lo hi sz p : Nat} {xs : List Value} {L : List (List Int)} {U : Nat → Value} (h : Inner w lo hi xs sz p L U) (hb : Below w.heap.size w w') : Inner w' lo hi xs sz p L U :=
  ⟨fun j hj => ⟨(h.1 j hj).1, own_keep (h.1 j hj).2.1 hb, (h.1 j hj).2.2⟩, h.2⟩
theorem Inner.wid {w w' : World} {lo hi sz p a b : Nat} {xs : List Value} {L : List (List Int)} {U : Nat → Value} (h : Inner w lo hi xs sz p L U) (hw : Wid a b w w') (hd : hi ≤ a ∨ b ≤ lo) : Inner w' lo hi xs sz p L U :=
  ⟨fun j hj => ⟨(h.1 j hj).1, own_wid (h.1 j hj).2.1 hw (fun g hg => by have := (h.1 j hj).2.2 g hg; have := ((h.1 j hj).2.1.lt g hg).1; omega), (h.1 j hj).2.2⟩, h.2⟩
theorem OwnNest.keep {E : TypeId} {sz p : Nat} {w w' : World} {lo hi : Nat} {v : Value} {L : List (List Int)} {xs : List Value} (h : OwnNest E sz p w lo hi v L xs) (hb : Below w.heap.size w w') : OwnNest E sz p w' lo hi v L xs := by
  obtain ⟨h1, U, h2⟩ := h
  exact ⟨h1.keep hb, U, h2.keep hb⟩
theorem OwnNest.wid {E : TypeId} {sz p : Nat} {w w' : World} {lo hi a b : Nat} {v : Value} {L : List (List Int)} {xs : List Value} (h : OwnNest E sz p w lo hi v L xs) (hw : Wid a b w w') (hd : hi ≤ a ∨ b ≤ lo) : OwnNest E sz p w' lo hi v L xs := by
  obtain ⟨h1, U, h2⟩ := h
  exact ⟨h1.wid hw hd, U, h2.wid hw hd⟩
theorem OwnNest.drew {E : TypeId} {sz p : Nat} {w : World} {lo hi : Nat} {v : Value} {L : List (List Int)} {xs : List Value} (h : OwnNest E sz p w lo hi v L xs) : OwnNest E sz p w.drew lo hi v L xs := h

/-- as it reads: a slice whose elements hold slices of integers -/
def Nests (sz p : Nat) (w : World) (v : Value) (L : List (List Int)) : Prop :=
  ∃ a cap, v = .slice a L.length cap ∧ L.length ≤ cap ∧ cap ≤ maxLen ∧ ∀ (k : Nat) (h : k < L.length), ∃ b off u, a = some ⟨b, off, none⟩ ∧ w.cell? ⟨b, off + (k * sz + p), none⟩ = some u ∧ Rows w u (L[k]).length 1 (ints L[k])
theorem Nests.keep {sz p : Nat} {w w' : World} {v : Value} {L : List (List Int)} (h : Nests sz p w v L) (hb : Below w.heap.size w w') : Nests sz p w' v L := by
  obtain ⟨a, cap, h1, h2, h3, h5⟩ := h
  refine ⟨a, cap, h1, h2, h3, fun k hk => ?_⟩
  obtain ⟨b, off, u, e1, e2, e3⟩ := h5 k hk
  exact ⟨b, off, u, e1, by rw [hb.cell (World.block_lt_of_cell? _ _ e2)]; exact e2, e3.keep hb⟩
theorem OwnNest.nests {E : TypeId} {sz p : Nat} {w : World} {lo hi : Nat} {v : Value} {L : List (List Int)} {xs : List Value} (h : OwnNest E sz p w lo hi v L xs) : Nests sz p w v L := by
  obtain ⟨h1, U, h2⟩ := h
  obtain ⟨a, cap, e, h4, h5, h6, h7, h8⟩ := h1.rows
  refine ⟨a, cap, e, h4, h5, fun k hk => ?_⟩
  obtain ⟨e1, e2, _⟩ := h2.1 k hk
  obtain ⟨b, off, e4, e5⟩ := h8 _ _ e1
  exact ⟨b, off, U k, e4, e5, Rows.of_own e2⟩
theorem nest_form {sz p : Nat} {w : World} {v : Value} {L : List (List Int)} (h : Nests sz p w v L) : ∃ a cap, v = .slice a L.length cap ∧ L.length ≤ cap ∧ cap ≤ maxLen := by
  obtain ⟨a, cap, h1, h2, h3, _⟩ := h
  exact ⟨a, cap, h1, h2, h3⟩
theorem nest_at {sz p : Nat} {w : World} {a : Option Addr} {n cap : Nat} {L : List (List Int)} (h : Nests sz p w (.slice a n cap) L) (k : Nat) (hk : k < L.length) :
    ∃ b off u, a = some ⟨b, off, none⟩ ∧ w.cell? ⟨b, off + (k * sz + p), none⟩ = some u ∧ Rows w u (L[k]).length 1 (ints L[k]) := by
  obtain ⟨a', cap', h1, h2, h3, h5⟩ := h
  cases h1
  exact h5 k hk

/-- rows marked one after the other -/
def marksII : Int → List (List Int) → List (List Int)
  | _, [] => []
  | k, l :: r => marksI k l.length :: marksII (k + l.length) r
def lens : List (List Int) → Nat
  | [] => 0
  | l :: r => l.length + lens r
theorem marksII_len : ∀ (k : Int) (L : List (List Int)), (marksII k L).length = L.length
  | _, [] => rfl
  | k, l :: r => by show (marksII _ r).length + 1 = r.length + 1; rw [marksII_len _ r]
theorem lens_take : ∀ (L : List (List Int)) (k : Nat) (h : k < L.length), lens (L.take (k + 1)) = lens (L.take k) + (L[k]).length
  | [], k, h => by simp at h
  | l :: r, 0, _ => by show l.length + lens (r.take 0) = 0 + l.length; simp [lens]
  | l :: r, k + 1, h => by
    show l.length + lens (r.take (k + 1)) = l.length + lens (r.take k) + _
    rw [lens_take r k (by simpa using h), Nat.add_assoc]
    rfl
theorem marksII_at : ∀ (a : Int) (L : List (List Int)) (k : Nat) (h : k < L.length), (marksII a L)[k]'(by rw [marksII_len]; exact h) = marksI (a + lens (L.take k)) (L[k]).length
  | _, [], k, h => by simp at h
  | a, l :: r, 0, _ => by show marksI a l.length = marksI (a + ((lens (List.take 0 (l :: r)) : Nat) : Int)) l.length; simp [lens]
  | a, l :: r, k + 1, h => by
    show (marksII (a + l.length) r)[k]'_ = marksI (a + ((l.length + lens (r.take k) : Nat) : Int)) (r[k]'(by simpa using h)).length
    rw [marksII_at (a + l.length) r k (by simpa using h)]
    congr 1
    omega
theorem lens_le {L : List (List Int)} {m : Nat} (h : ∀ q ∈ L, q.length ≤ m) : lens L ≤ L.length * m := by
  induction L with
  | nil => exact Nat.zero_le _
  | cons l r ih =>
    show l.length + lens r ≤ (r.length + 1) * m
    have h1 := ih (fun q hq => h q (List.mem_cons_of_mem _ hq))
    have h2 := h l List.mem_cons_self
    rw [Nat.add_mul, Nat.one_mul]
    omega
theorem lens_take_le (L : List (List Int)) (k : Nat) : lens (L.take k) ≤ lens L := by
  induction L generalizing k with
  | nil => simp [lens]
  | cons l r ih =>
    cases k with
    | zero => exact Nat.zero_le _
    | succ k => show l.length + lens (r.take k) ≤ l.length + lens r; have := ih k; omega

/-- one inner row is written anew, the others are kept -/
theorem Inner.set {w w' : World} {lo hi sz p k : Nat} {xs : List Value} {L M : List (List Int)} {U : Nat → Value} (h : Inner w lo hi xs sz p L U) (hk : k < L.length) (hM : M.length = L.length) (hg : w.grownBy w' (U k).ownBlock) (hr : w'.ownsRow lo 3 1 (U k) (L[k]).length (ints (M[k]'(by omega)))) (hl : (M[k]'(by omega)).length = (L[k]).length) (ho : ∀ j (hj : j < L.length), j ≠ k → M[j]'(by omega) = L[j]) : Inner w' lo hi xs sz p M U := by
  refine ⟨fun j hj => ?_, fun i j hij hj => h.2 i j hij (by omega)⟩
  obtain ⟨e1, e2, e3⟩ := h.1 j (by omega)
  by_cases he : j = k
  · subst he
    exact ⟨e1, by rw [hl]; exact hr, e3⟩
  · have e := ho j (by omega) he
    refine ⟨e1, ?_, e3⟩
    rw [e]
    refine e2.kept hg ?_
    cases hu : (U j).ownBlock with
    | none => exact .inl rfl
    | some g =>
      right
      intro e4
      rcases Nat.lt_or_ge j k with h' | h'
      · exact h.2 j k h' hk g hu e4.symm
      · exact h.2 k j (by omega) (by omega) g e4.symm hu

end Go.Proofs.YtkbbcmbeafjpaaaGreatDoor
